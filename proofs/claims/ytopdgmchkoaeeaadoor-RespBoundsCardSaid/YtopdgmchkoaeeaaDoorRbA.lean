/- RespBounds: the plain law: bounds of texts, replies and depth, and one past them. RespBounds: the plain law's second part: texts of 1048576 bytes. RespBounds: lists in one another are made. RespBounds: what make hands back: empty texts, zero bytes, zero replies. RespBounds: what each callee answers, told once for each case. RespBounds: Next and Feed at a reader that is none. RespBounds: bytes of a constant, as they lie in a row that bears the constant's mark. -/
import Derived.Test.YtopdgmchkoaeeaaDoorRtR
import Derived.Test.YtopdgmchkoaeeaaDoorRsM
import Derived.Test.YtopdgmchkoaeeaaDoorSaA
import Derived.Test.YtopdgmchkoaeeaaDoorBkA
import Derived.Lib.SlBytesConst
namespace Go.Proofs.YtopdgmchkoaeeaaDoor
open Go.Lib
set_option linter.unusedVariables false
set_option linter.unusedSimpArgs false

/-- Lists in one another: so many, and one more. -/
def nestR : Nat → Rep
  | 0 => .mk 5 0 ⟨#[]⟩ []
  | n + 1 => .mk 5 0 ⟨#[]⟩ [nestR n]
theorem nest_it : ∀ n, itR (nestR n) = n
  | 0 => rfl
  | n + 1 => by simp only [nestR, itR, itL, nest_it n, List.length_cons, List.length_nil]; omega
theorem nest_tx : ∀ n, txR (nestR n) = 0
  | 0 => rfl
  | n + 1 => by simp only [nestR, txR, txL, nest_tx n]; rfl
theorem nest_64 : ∀ n, i64R (nestR n)
  | 0 => ⟨⟨by decide, by decide⟩, trivial⟩
  | n + 1 => ⟨⟨by decide, by decide⟩, nest_64 n, trivial⟩
theorem nest_fine : ∀ (d n : Nat), fineR d (nestR n) = decide (n < d)
  | 0, 0 => rfl
  | 0, n + 1 => by simp [nestR, fineR]
  | d + 1, 0 => by simp [nestR, fineR, fineL, ByteArray.size]
  | d + 1, n + 1 => by simp [nestR, fineR, fineL, nest_fine d n, ByteArray.size]
theorem nest_ok : repOkB (nestR 99) = true := (repOk_iff _).2 ⟨by rw [nest_fine]; decide, by rw [nest_tx]; decide, by rw [nest_it]; decide⟩
theorem nest_no : repOkB (nestR 100) = false := by
  cases h : repOkB (nestR 100) with
  | false => rfl
  | true =>
    have := ((repOk_iff _).1 h).1
    rw [nest_fine] at this
    cases this
/-- A list of nothings. -/
def manyR (n : Nat) : Rep := .mk 5 0 ⟨#[]⟩ (List.replicate n (.mk 0 0 ⟨#[]⟩ []))
theorem many_itL : ∀ n, itL (List.replicate n (.mk 0 0 ⟨#[]⟩ [])) = 0
  | 0 => rfl
  | n + 1 => by simp only [List.replicate_succ, itL, itR, many_itL n, List.length_nil]
theorem many_txL : ∀ n, txL (List.replicate n (.mk 0 0 ⟨#[]⟩ [])) = 0
  | 0 => rfl
  | n + 1 => by simp only [List.replicate_succ, txL, txR, many_txL n]; rfl
theorem many_it (n : Nat) : itR (manyR n) = n := by simp only [manyR, itR, many_itL, List.length_replicate, Nat.add_zero]
theorem many_tx (n : Nat) : txR (manyR n) = 0 := by simp only [manyR, txR, many_txL]; rfl
theorem many_64L : ∀ n, i64L (List.replicate n (.mk 0 0 ⟨#[]⟩ []))
  | 0 => trivial
  | n + 1 => ⟨⟨⟨by decide, by decide⟩, trivial⟩, many_64L n⟩
theorem many_64 (n : Nat) : i64R (manyR n) := ⟨⟨by decide, by decide⟩, many_64L n⟩
theorem many_fine (n : Nat) : fineR 100 (manyR n) = true := by
  have h : fineL 99 (List.replicate n (.mk 0 0 ⟨#[]⟩ [])) = true := by
    rw [fineL_all, List.all_eq_true]
    intro x hx
    rw [(List.mem_replicate.1 hx).2]
    rfl
  simp [manyR, fineR, h, ByteArray.size]
theorem many_ok : repOkB (manyR 65536) = true := (repOk_iff _).2 ⟨many_fine _, by rw [many_tx]; decide, by rw [many_it]; decide⟩
theorem many_no : repOkB (manyR 65537) = false := by
  cases h : repOkB (manyR 65537) with
  | false => rfl
  | true =>
    have := ((repOk_iff _).1 h).2.2
    rw [many_it] at this
    omega
theorem long_no (s : ByteArray) (h : s.size = 1048577) : repOkB (.mk 4 0 s []) = false := by
  cases hb : repOkB (.mk 4 0 s []) with
  | false => rfl
  | true =>
    have := ((repOk_iff _).1 hb).2.1
    simp only [txR, txL] at this
    omega
/-- Empty texts. -/
theorem empty_sum : ∀ n : Nat, sumS (List.replicate n (⟨#[]⟩ : ByteArray)) = 0
  | 0 => rfl
  | n + 1 => by
    have h := empty_sum n
    unfold sumS at h ⊢
    rw [List.replicate_succ, List.map_cons, List.sum_cons, h]
    rfl
theorem empty_ok : reqOk (List.replicate 65536 (⟨#[]⟩ : ByteArray)) := ⟨by rw [List.length_replicate]; decide, by rw [List.length_replicate]; decide, by rw [empty_sum]; decide⟩
theorem empty_no : ¬ reqOk (List.replicate 65537 (⟨#[]⟩ : ByteArray)) := fun h => by have := h.2.1; rw [List.length_replicate] at this; omega
/-- Bytes of lists in one another. -/
def listsB : Nat → List UInt8
  | 0 => []
  | n + 1 => 42 :: 49 :: 13 :: 10 :: listsB n
theorem lists_step (d t i : Nat) (hi : 1 ≤ i) (b : List UInt8) : replyR (d + 1) t i (42 :: 49 :: 13 :: 10 :: b) = (repsR (replyR d) 1 t (i - 1) b).map fun x => ((.mk 5 0 ⟨#[]⟩ x.1.1, x.1.2), x.2) := by
  have hn : numR 0 i 0 0 (49 :: 13 :: 10 :: b) = .ok (1, b) := by
    simp [numR, skipR, hi, Except.map]
  show kindR (some (replyR d)) (42 : UInt8).toNat t i (49 :: 13 :: 10 :: b) = _
  simp [kindR, listR, hn]
theorem lists_err (rest : List UInt8) (c : Int) : ∀ (n d t i : Nat), n ≤ i → replyR d t (i - n) rest = .error c → replyR (d + n) t i (listsB n ++ rest) = .error c
  | 0, d, t, i, _, h => h
  | n + 1, d, t, i, hi, h => by
    have h1 := lists_err rest c n d t (i - 1) (by omega) (by rw [show i - 1 - n = i - (n + 1) by omega]; exact h)
    rw [show d + (n + 1) = (d + n) + 1 by omega]
    show replyR (d + n + 1) t i (42 :: 49 :: 13 :: 10 :: (listsB n ++ rest)) = _
    rw [lists_step _ _ _ (by omega)]
    simp [repsR, h1, Except.map]
theorem lists_ok (rest : List UInt8) : ∀ (n d t i : Nat), n ≤ i → (∃ y, replyR d t (i - n) rest = .ok y) → ∃ y, replyR (d + n) t i (listsB n ++ rest) = .ok y
  | 0, d, t, i, _, h => h
  | n + 1, d, t, i, hi, h => by
    obtain ⟨y, h1⟩ := lists_ok rest n d t (i - 1) (by omega) (by rw [show i - 1 - n = i - (n + 1) by omega]; exact h)
    rw [show d + (n + 1) = (d + n) + 1 by omega]
    refine ⟨((.mk 5 0 ⟨#[]⟩ [y.1.1], y.1.2), y.2), ?_⟩
    show replyR (d + n + 1) t i (42 :: 49 :: 13 :: 10 :: (listsB n ++ rest)) = _
    rw [lists_step _ _ _ (by omega)]
    simp [repsR, h1, Except.map]
theorem deep_no : decodeS (listsB 100 ++ [42, 48]) = .error 131 := by
  refine decodeS_err ?_
  exact lists_err [42, 48] 131 100 0 1048576 65536 (by decide) rfl
theorem deep_yes : ∃ x, decodeS (listsB 100 ++ [58, 49, 13, 10]) = .ok x := by
  obtain ⟨⟨⟨x, t, i⟩, r⟩, h⟩ := lists_ok [58, 49, 13, 10] 100 0 1048576 65536 (by decide) ⟨_, rfl⟩
  exact ⟨_, decodeS_of h⟩
theorem parse_65537 : parseS [42, 54, 53, 53, 51, 55, 13, 10] = .error 131 := rfl
theorem parse_long : parseS [42, 49, 13, 10, 36, 49, 48, 52, 56, 53, 55, 55] = .error 131 := rfl
end Go.Proofs.YtopdgmchkoaeeaaDoor
namespace Go.Proofs.YtopdgmchkoaeeaaDoor
open Go.Lib
set_option linter.unusedVariables false
set_option linter.unusedSimpArgs false

theorem text1_ok (s : ByteArray) (h : s.size = 1048576) : reqOk [s] := ⟨by simp, by simp, by simp [sumS, h]⟩
theorem two_no (s t : ByteArray) (ht : 1 ≤ t.size) (h : s.size = 1048576) : ¬ reqOk [t, s] := fun hk => by
  have := hk.2.2
  simp only [sumS, List.map_cons, List.map_nil, List.sum_cons, List.sum_nil] at this
  omega
theorem two_num (rest : List UInt8) : numR 1 65536 0 0 (50 :: 13 :: 10 :: rest) = .ok (2, rest) := rfl
theorem two_size (rest : List UInt8) : numR 0 1048576 0 0 (49 :: 48 :: 52 :: 56 :: 53 :: 55 :: 54 :: 13 :: 10 :: rest) = .ok (1048576, rest) := rfl
theorem two_end : bulksR 1 0 [36, 49] = .error 131 := rfl
theorem parseR_two (s : ByteArray) (h : s.size = 1048576) : parseR ([42, 50, 13, 10, 36, 49, 48, 52, 56, 53, 55, 54, 13, 10] ++ s.data.toList ++ [13, 10, 36, 49]) = .error 131 := by
  have e : ([42, 50, 13, 10, 36, 49, 48, 52, 56, 53, 55, 54, 13, 10] : List UInt8) ++ s.data.toList ++ [13, 10, 36, 49] = [42] ++ (50 :: 13 :: 10 :: ([36] ++ (49 :: 48 :: 52 :: 56 :: 53 :: 55 :: 54 :: 13 :: 10 :: (lineB s.data.toList ++ [36, 49])))) := by
    simp [lineB]
  have ht : textR 1048576 (lineB s.data.toList ++ [36, 49]) = .ok (s, [36, 49]) := by
    rw [← h]; exact text_reads s [36, 49]
  unfold parseR
  rw [e, skip_reads]
  simp only [two_num]
  unfold bulksR
  rw [skip_reads]
  unfold bulkR
  simp only [two_size, ht, h]
  exact congrArg (Except.map _) two_end
theorem parse_two (s : ByteArray) (h : s.size = 1048576) : parseS ([42, 50, 13, 10, 36, 49, 48, 52, 56, 53, 55, 54, 13, 10] ++ s.data.toList ++ [13, 10, 36, 49]) = .error 131 := parseS_err (parseR_two s h)
theorem parse_one (s : ByteArray) (h : s.size = 1048576) : parseS (reqB [s]) = .ok ([s], (reqB [s]).length) := by
  have := parseS_reads [s] [] (text1_ok s h)
  rwa [List.append_nil] at this
theorem parse_empty : parseS (reqB (List.replicate 65536 (⟨#[]⟩ : ByteArray))) = .ok (List.replicate 65536 (⟨#[]⟩ : ByteArray), (reqB (List.replicate 65536 (⟨#[]⟩ : ByteArray))).length) := by
  have := parseS_reads (List.replicate 65536 (⟨#[]⟩ : ByteArray)) [] empty_ok
  rwa [List.append_nil] at this
theorem decode_many : ∃ y, decodeS (encR (manyR 65536)) = .ok y ∧ y.1 = manyR 65536 ∧ y.2.p = (encR (manyR 65536)).length := by
  have := decodeS_reads (manyR 65536) [] ((repOk_iff _).1 many_ok) (many_64 _)
  rw [List.append_nil] at this
  exact ⟨_, this, rfl, rfl⟩
end Go.Proofs.YtopdgmchkoaeeaaDoor
namespace Go.Proofs.YtopdgmchkoaeeaaDoor
open Go.RowKit
set_option linter.unusedVariables false
set_option linter.unusedSimpArgs false

/-- Where nested stands at its loop's head: k lists in one another, and one more. -/
structure NsAt (w wr : World) (B k : Nat) : Prop where
  ext : Ext w wr
  res : Blk wr B 41 #[.int .i64 0, .int .i64 0, .string ⟨#[]⟩, .slice none 0 0]
  ex : ∃ q m c, Blk wr (B + 1) 41 #[.int .i64 5, .int .i64 0, .string ⟨#[]⟩, .slice q m c] ∧ ListAt (fun b => B + 2 ≤ b) wr k (.slice q m c) (nestR k).l
  hw : w.heap.size = B
  hz : B + 2 ≤ wr.heap.size
theorem nest_k : ∀ n, (nestR n).k = 5 ∧ (nestR n).n = 0 ∧ (nestR n).s = ⟨#[]⟩
  | 0 => ⟨rfl, rfl, rfl⟩
  | n + 1 => ⟨rfl, rfl, rfl⟩
set_option maxRecDepth 100000 in
set_option maxHeartbeats 4000000 in
theorem nested_any (w : World) (n : Nat) (hn : n ≤ 1000) :
    Calls Tryd.prog 32 #[.int .i64 ((n + 1 : Nat) : Int)] w fun e w' => ∃ q m c, e = .returned (cellsV 5 0 ⟨#[]⟩ (.slice q m c)) ∧ Ext w w' ∧ ListAt (fun b => w.heap.size ≤ b) w' n (.slice q m c) (nestR n).l := by
  obtain ⟨B, hB⟩ : ∃ B, w.heap.size = B := ⟨_, rfl⟩
  obtain ⟨N, hN⟩ : ∃ N, n + 1 = N := ⟨_, rfl⟩
  have HS : Hid (NsAt w ((w.alloc (.cells #[.int .i64 0, .int .i64 0, .string ⟨#[]⟩, .slice none 0 0] 41)).alloc (.cells #[.int .i64 5, .int .i64 0, .string ⟨#[]⟩, .slice none 0 0] 41)) B 0) := Lib.hid (by
    refine ⟨((Ext.refl w).alloc _).alloc _, hB ▸ (Blk.new w _ _).alloc _, ⟨none, 0, 0, new_at (by rw [size_alloc, hB]) _ _, nil_list _ _ _⟩, hB, by rw [size_alloc, size_alloc]; omega⟩)
  rw [hN]
  have HN := Lib.hid hN
  have HB := Lib.hid hB
  have hN2 : N ≤ 1001 := by omega
  have hN1 : 1 ≤ N := by omega
  clear hN
  go_enter Tryd.func32, Tryd.ntmps32
  go_wp2_with fail
  generalize (w.alloc (.cells #[.int .i64 0, .int .i64 0, .string ⟨#[]⟩, .slice none 0 0] 41)).alloc (.cells #[.int .i64 5, .int .i64 0, .string ⟨#[]⟩, .slice none 0 0] 41) = w0 at HS ⊢
  clear hB
  go_loopw [4] (fun v4 wr => ∃ k : Nat, v4 = .int .i64 ((k + 1 : Nat) : Int) ∧ k + 1 ≤ N ∧ Hid (NsAt w wr B k)) (fun v4 _ => N - (intOf v4).toNat)
  case atStart => exact ⟨0, rfl, by omega, HS⟩
  case round =>
    obtain ⟨k, rfl, hk, HK⟩ := hrel
    clear HS
    obtain ⟨q, m, c, hb, hl⟩ := HK.out.ex
    obtain ⟨K, hK⟩ : ∃ K, k + 1 = K := ⟨_, rfl⟩
    rw [hK] at hk ⊢
    have HKK := Lib.hid hK
    have b0 := hb.cell 0
    have b1 := hb.cell 1
    have b2 := hb.cell 2
    have b3 := hb.cell 3
    have z0 := hb.frozen 0
    have z1 := hb.frozen 1
    have z2 := hb.frozen 2
    have z3 := hb.frozen 3
    have hlt := hb.lt
    have hne : ¬ B + 1 = wr.heap.size := by omega
    have hme : ¬ wr.heap.size = B + 1 := by omega
    simp only [List.getElem?_toArray, List.getElem?_cons_zero, List.getElem?_cons_succ] at b0 b1 b2 b3
    have HBB := Lib.hid hb
    have HLL := Lib.hid hl
    clear hb hl hK
    by_cases hkN : K < N
    · have d1 : decide ((K : Int) < (N : Int)) = true := decide_eq_true (by omega)
      have d1n : decide (K < N) = true := decide_eq_true hkN
      go_wp2_with fail
      go_roundw
      case rel =>
        have hw := HK.out.hw
        have P4 := put4 HBB.out (.int .i64 5) (.int .i64 0) (.string ⟨#[]⟩) (.slice (some ⟨wr.heap.size, 0, none⟩) 1 1)
        have EX : Ext w ((((wr.setCell ⟨B + 1, 0, none⟩ (.int .i64 5)).setCell ⟨B + 1, 1, none⟩ (.int .i64 0)).setCell ⟨B + 1, 2, none⟩ (.string ⟨#[]⟩)).setCell ⟨B + 1, 3, none⟩ (.slice (some ⟨wr.heap.size, 0, none⟩) 1 1)) := (((HK.out.ext.setCell (by show w.heap.size ≤ B + 1; omega) _).setCell (by show w.heap.size ≤ B + 1; omega) _).setCell (by show w.heap.size ≤ B + 1; omega) _).setCell (by show w.heap.size ≤ B + 1; omega) _
        have hfar : ∀ j, B ≠ (⟨B + 1, j, none⟩ : Addr).block := fun j => by show B ≠ B + 1; omega
        have RS := (((HK.out.res.far (hfar 0) (.int .i64 5)).far (hfar 1) (.int .i64 0)).far (hfar 2) (.string ⟨#[]⟩)).far (hfar 3) (.slice (some ⟨wr.heap.size, 0, none⟩) 1 1)
        have KL : ListAt (fun b => B + 2 ≤ b) ((((wr.setCell ⟨B + 1, 0, none⟩ (.int .i64 5)).setCell ⟨B + 1, 1, none⟩ (.int .i64 0)).setCell ⟨B + 1, 2, none⟩ (.string ⟨#[]⟩)).setCell ⟨B + 1, 3, none⟩ (.slice (some ⟨wr.heap.size, 0, none⟩) 1 1)) k (.slice q m c) (nestR k).l :=
          HLL.out.keep (fun b' o' v hok hc => by rw [cell_far (by omega), cell_far (by omega), cell_far (by omega), cell_far (by omega)]; exact hc) (fun b' _ hok => by omega)
        have SZ : ((((wr.setCell ⟨B + 1, 0, none⟩ (.int .i64 5)).setCell ⟨B + 1, 1, none⟩ (.int .i64 0)).setCell ⟨B + 1, 2, none⟩ (.string ⟨#[]⟩)).setCell ⟨B + 1, 3, none⟩ (.slice (some ⟨wr.heap.size, 0, none⟩) 1 1)).heap.size = wr.heap.size := by simp [World.setCell]
        have hz := HK.out.hz
        generalize (((wr.setCell ⟨B + 1, 0, none⟩ (.int .i64 5)).setCell ⟨B + 1, 1, none⟩ (.int .i64 0)).setCell ⟨B + 1, 2, none⟩ (.string ⟨#[]⟩)).setCell ⟨B + 1, 3, none⟩ (.slice (some ⟨wr.heap.size, 0, none⟩) 1 1) = w5 at P4 EX RS KL SZ ⊢
        have hKK := HKK.out
        refine ⟨K, rfl, by omega, Lib.hid ⟨EX.alloc _, RS.alloc _, ⟨some ⟨wr.heap.size, 0, none⟩, 1, 1, P4.alloc _, ?_⟩, hw, by rw [size_alloc]; omega⟩⟩
        have NB : Blk (w5.alloc (.cells #[.int .i64 5, .int .i64 0, .string ⟨#[]⟩, .slice q m c] 41)) wr.heap.size 41 #[.int .i64 5, .int .i64 0, .string ⟨#[]⟩, .slice q m c] := new_at SZ.symm _ _
        have KL2 := KL.ext ((Ext.refl w5).alloc (.cells #[.int .i64 5, .int .i64 0, .string ⟨#[]⟩, .slice q m c] 41))
        rw [← hKK]
        obtain ⟨e1, e2, e3⟩ := nest_k k
        refine ⟨some ⟨wr.heap.size, 0, none⟩, 1, rfl, fun _ => ⟨wr.heap.size, 0, rfl, hz, fun i hi => ?_⟩⟩
        have hi0 : i = 0 := Nat.lt_one_iff.1 hi
        subst hi0
        show _ = some (Value.int .i64 (nestR k).k) ∧ _ = some (Value.int .i64 (nestR k).n) ∧ _ = some (Value.string (nestR k).s) ∧ ∃ lv, _ = some lv ∧ ListAt _ _ k lv (nestR k).l
        rw [e1, e2, e3]
        exact ⟨NB.cell 0, NB.cell 1, NB.cell 2, _, NB.cell 3, KL2⟩
      case measure => simp [intOf]; omega
    · have d1 : decide ((K : Int) < (N : Int)) = false := decide_eq_false (by omega)
      have d1n : decide (K < N) = false := decide_eq_false hkN
      have r0 := HK.out.res.cell 0
      have r1 := HK.out.res.cell 1
      have r2 := HK.out.res.cell 2
      have r3 := HK.out.res.cell 3
      have y0 := HK.out.res.frozen 0
      have y1 := HK.out.res.frozen 1
      have y2 := HK.out.res.frozen 2
      have y3 := HK.out.res.frozen 3
      simp only [List.getElem?_toArray, List.getElem?_cons_zero, List.getElem?_cons_succ] at r0 r1 r2 r3
      go_wp2_with fail
      have R := put4 HK.out.res (.int .i64 5) (.int .i64 0) (.string ⟨#[]⟩) (.slice q m c)
      have hw := HK.out.hw
      have EX : Ext w ((((wr.setCell ⟨B, 0, none⟩ (.int .i64 5)).setCell ⟨B, 1, none⟩ (.int .i64 0)).setCell ⟨B, 2, none⟩ (.string ⟨#[]⟩)).setCell ⟨B, 3, none⟩ (.slice q m c)) := (((HK.out.ext.setCell (by show w.heap.size ≤ B; omega) _).setCell (by show w.heap.size ≤ B; omega) _).setCell (by show w.heap.size ≤ B; omega) _).setCell (by show w.heap.size ≤ B; omega) _
      have hkn : k = n := by have := HKK.out; have := HN.out; omega
      have KL : ListAt (fun b => w.heap.size ≤ b) ((((wr.setCell ⟨B, 0, none⟩ (.int .i64 5)).setCell ⟨B, 1, none⟩ (.int .i64 0)).setCell ⟨B, 2, none⟩ (.string ⟨#[]⟩)).setCell ⟨B, 3, none⟩ (.slice q m c)) n (.slice q m c) (nestR n).l := by
        rw [← hkn]
        exact HLL.out.keep (fun b' o' v hok hc => by rw [cell_far (by omega), cell_far (by omega), cell_far (by omega), cell_far (by omega)]; exact hc) (fun b' _ hok => by omega)
      generalize (((wr.setCell ⟨B, 0, none⟩ (.int .i64 5)).setCell ⟨B, 1, none⟩ (.int .i64 0)).setCell ⟨B, 2, none⟩ (.string ⟨#[]⟩)).setCell ⟨B, 3, none⟩ (.slice q m c) = w9 at R EX KL ⊢
      have f0 := R.cell 0
      have f1 := R.cell 1
      have f2 := R.cell 2
      have f3 := R.cell 3
      simp only [List.getElem?_toArray, List.getElem?_cons_zero, List.getElem?_cons_succ] at f0 f1 f2 f3
      exact bodyPost_ret (v := .agg #[.int .i64 5, .int .i64 0, .string ⟨#[]⟩, .slice q m c]) (by simp [results, Tryd.results32, go_sem, f0, f1, f2, f3]) rfl ⟨q, m, c, rfl, EX, KL⟩
end Go.Proofs.YtopdgmchkoaeeaaDoor
namespace Go.Proofs.YtopdgmchkoaeeaaDoor
open Go.RowKit
set_option linter.unusedVariables false
set_option linter.unusedSimpArgs false

theorem made_at (z : Array Value) (n j : Nat) (h : j < n) : (madeCells z n)[j]? = some (z[j % z.size]!) := by
  simp [madeCells, h]
theorem made_row {w : World} {t e : TypeId} {z : Value} {k : Nat} {y : Int} (ht : Tryd.prog.underlying t = some (.slice e)) (hi : ∃ i, Tryd.prog.info? e = some i ∧ i.zero = some z ∧ i.size = k ∧ (i.bytes : Int) = y) (n : Nat) (c : Int) (hc : c = (n : Int)) (hb : y * n ≤ 281474976710656) (hn : n ≤ 9223372036854775807) :
    (Instr.makeSlice t (.int .i64 c) (.int .i64 c)).run Tryd.prog w = .ok (.slice (some ⟨w.heap.size, 0, none⟩) n n) (w.alloc (.cells (madeCells z.cells (n * k)) e)) := by
  obtain ⟨i, hi, hz, rfl, rfl⟩ := hi
  subst hc
  have h := run_make (P := Tryd.prog) w t e i z ht hi hz .i64 .i64 (n : Int) (n : Int) (by omega) (by omega) hb (by omega)
  simpa using h
theorem info_ex {e : TypeId} {z : Value} {k : Nat} {y : Nat} (h : (Tryd.prog.info? e).map (fun i => (i.zero, i.size, i.bytes)) = some (some z, k, y)) : ∃ i, Tryd.prog.info? e = some i ∧ i.zero = some z ∧ i.size = k ∧ (i.bytes : Int) = (y : Int) := by
  obtain ⟨i, hi, h1, h2, h3⟩ := info_parts h
  exact ⟨i, hi, h1, h2, by rw [h3]⟩
theorem mk_texts (w : World) : ∃ cs : Array Value, (Instr.makeSlice 22 (.int .i64 65537) (.int .i64 65537)).run Tryd.prog w = .ok (.slice (some ⟨w.heap.size, 0, none⟩) 65537 65537) (w.alloc (.cells cs 9)) ∧ ∀ j, j < 65537 → cs[j]? = some (.string ⟨#[]⟩) := by
  refine ⟨_, made_row (w := w) Tryd.underlying22 (info_ex infoStr) 65537 65537 rfl (by decide) (by decide), fun j hj => ?_⟩
  rw [made_at _ _ _ (by omega)]
  show some ((#[Value.string ⟨#[]⟩] : Array Value)[j % 1]!) = _
  rw [Nat.mod_one]
  rfl
theorem mk_bytes (w : World) : ∃ cs : Array Value, (Instr.makeSlice 25 (.int .i64 1048577) (.int .i64 1048577)).run Tryd.prog w = .ok (.slice (some ⟨w.heap.size, 0, none⟩) 1048577 1048577) (w.alloc (.cells cs 5)) ∧ ∀ j, j < 1048577 → cs[j]? = some (.int .u8 0) := by
  refine ⟨_, made_row (w := w) Tryd.underlying25 (info_ex infoU8) 1048577 1048577 rfl (by decide) (by decide), fun j hj => ?_⟩
  rw [made_at _ _ _ (by omega)]
  show some ((#[Value.int .u8 0] : Array Value)[j % 1]!) = _
  rw [Nat.mod_one]
  rfl
theorem mk_reps (w : World) : ∃ cs : Array Value, (Instr.makeSlice 39 (.int .i64 65537) (.int .i64 65537)).run Tryd.prog w = .ok (.slice (some ⟨w.heap.size, 0, none⟩) 65537 65537) (w.alloc (.cells cs 41)) ∧ ∀ j, j < 65537 → cs[j * 4]? = some (.int .i64 0) ∧ cs[j * 4 + 1]? = some (.int .i64 0) ∧ cs[j * 4 + 2]? = some (.string ⟨#[]⟩) ∧ cs[j * 4 + 3]? = some (.slice none 0 0) := by
  refine ⟨_, made_row (w := w) Tryd.underlying39 (info_ex infoRep) 65537 65537 rfl (by decide) (by decide), fun j hj => ?_⟩
  rw [made_at _ _ _ (by omega), made_at _ _ _ (by omega), made_at _ _ _ (by omega), made_at _ _ _ (by omega)]
  have e0 : j * 4 % 4 = 0 := by omega
  have e1 : (j * 4 + 1) % 4 = 1 := by omega
  have e2 : (j * 4 + 2) % 4 = 2 := by omega
  have e3 : (j * 4 + 3) % 4 = 3 := by omega
  have hs : (Value.agg #[.int .i64 0, .int .i64 0, .string ⟨#[]⟩, .slice none 0 0]).cells.size = 4 := rfl
  rw [hs, e0, e1, e2, e3]
  exact ⟨rfl, rfl, rfl, rfl⟩
/-- Empty texts as they lie. -/
theorem txs_made {w : World} {g k c : Nat} {cs : Array Value} (hb : Blk w g 9 cs) (hcs : ∀ j, j < 65537 → cs[j]? = some (.string ⟨#[]⟩)) (hk : k ≤ 65537) : TxAt w (.slice (some ⟨g, 0, none⟩) k c) (List.replicate k (⟨#[]⟩ : ByteArray)) := by
  refine ⟨by rw [List.length_replicate]; omega, some ⟨g, 0, none⟩, c, by rw [List.length_replicate], fun _ => ⟨g, 0, rfl, fun i hi => ?_⟩⟩
  rw [List.length_replicate] at hi
  rw [hb.cell, Nat.zero_add, hcs i (by omega), List.getElem_replicate]
/-- Zero bytes as they lie. -/
theorem bytes_made {w : World} {g : Nat} {cs : Array Value} (hb : Blk w g 5 cs) (hcs : ∀ j, j < 1048577 → cs[j]? = some (.int .u8 0)) (n : Nat) (hn : n = 1048577) : BytesAt w (some ⟨g, 0, none⟩) n (List.replicate n (0 : UInt8)) := by
  refine ⟨fun k hk => ⟨g, 0, rfl, ?_⟩, by rw [List.length_replicate]; omega, .inr ⟨g, 0, rfl, hb.lt⟩, by rw [List.length_replicate]; exact ⟨Nat.le_refl _, by omega⟩⟩
  rw [List.length_replicate] at hk
  rw [hb.cell, Nat.zero_add, hcs k (by omega), List.getElem_replicate]
  rfl
theorem mk_long {w : World} {g : Nat} {cs : Array Value} (hb : Blk w g 5 cs) (hcs : ∀ j, j < 1048577 → cs[j]? = some (.int .u8 0)) : ∃ s : ByteArray, s.size = 1048577 ∧ ∀ w', Ext w w' → (convert 25 9 (.slice (some ⟨g, 0, none⟩) 1048577 1048577)).run Tryd.prog w' = .ok (.string s) w' := by
  obtain ⟨n, hn⟩ : ∃ n, n = 1048577 := ⟨_, rfl⟩
  have h := bytes_made hb hcs n hn
  refine ⟨⟨(List.replicate n (0 : UInt8)).toArray⟩, ?_, fun w' he => ?_⟩
  · show (List.replicate n (0 : UInt8)).toArray.size = _
    rw [List.size_toArray, List.length_replicate, hn]
  · have h2 := conv_any (h.ext he)
    rw [List.length_replicate] at h2
    rw [← hn]
    exact h2
/-- Zero replies as they lie. -/
theorem reps_made {w : World} {g k c : Nat} {ok : Nat → Prop} {cs : Array Value} (hb : Blk w g 41 cs) (hok : ok g)
    (hcs : ∀ j, j < 65537 → cs[j * 4]? = some (.int .i64 0) ∧ cs[j * 4 + 1]? = some (.int .i64 0) ∧ cs[j * 4 + 2]? = some (.string ⟨#[]⟩) ∧ cs[j * 4 + 3]? = some (.slice none 0 0)) (hk : k ≤ 65537) :
    ListAt ok w 1 (.slice (some ⟨g, 0, none⟩) k c) (manyR k).l := by
  have hl : (manyR k).l.length = k := by show (List.replicate k (Rep.mk 0 0 ⟨#[]⟩ [])).length = k; rw [List.length_replicate]
  refine ⟨some ⟨g, 0, none⟩, c, by rw [hl], fun _ => ⟨g, 0, rfl, hok, fun i hi => ?_⟩⟩
  rw [hl] at hi
  obtain ⟨h0, h1, h2, h3⟩ := hcs i (by omega)
  have hg : (manyR k).l[i] = Rep.mk 0 0 ⟨#[]⟩ [] := List.getElem_replicate ..
  rw [hg, hb.cell, hb.cell, hb.cell, hb.cell, Nat.zero_add, h0, h1, h2, h3]
  exact ⟨rfl, rfl, rfl, _, rfl, rfl, none, 0, rfl⟩
end Go.Proofs.YtopdgmchkoaeeaaDoor
namespace Go.Proofs.YtopdgmchkoaeeaaDoor
open Go.RowKit
set_option linter.unusedVariables false
set_option linter.unusedSimpArgs false

/-- What Request answers to texts that it takes, and to those that it does not. -/
theorem req_yes2 (w : World) (v : Value) (ts : List ByteArray) (h : TxAt w v ts) (hpw : Pow w) (hk : reqOk ts) :
    Calls Tryd.prog 14 #[v] w fun e w' => ∃ q c, e = .returned (.tuple #[.slice q (reqB ts).length c, .int .i64 0]) ∧ Ext w w' ∧ BytesAt w' q c (reqB ts) := by
  refine (req_any w v ts h hpw).mono ?_
  intro e w' hs
  obtain ⟨he, hif⟩ := hs
  rw [if_pos ((reqOk_iff ts).2 hk)] at hif
  obtain ⟨v7, rfl, q7, c7, rfl, hb7, _⟩ := hif
  exact ⟨q7, c7, rfl, he, hb7⟩
theorem req_not2 (w : World) (v : Value) (ts : List ByteArray) (h : TxAt w v ts) (hpw : Pow w) (hk : ¬ reqOk ts) :
    Calls Tryd.prog 14 #[v] w fun e w' => e = .returned (.tuple #[.slice none 0 0, .int .i64 2]) ∧ Ext w w' := by
  refine (req_any w v ts h hpw).mono ?_
  intro e w' hs
  obtain ⟨he, hif⟩ := hs
  rw [if_neg (fun h' => hk ((reqOk_iff ts).1 h'))] at hif
  exact ⟨hif, he⟩
theorem prs_yes2 (w : World) (q : Option Addr) (cap : Nat) (l : List UInt8) (h : BytesAt w q cap l) (ts : List ByteArray) (n : Nat) (hp : parseS l = .ok (ts, n)) :
    Calls Tryd.prog 18 #[.slice q l.length cap] w fun e w' => ∃ q' c', e = .returned (.tuple #[.slice q' ts.length c', .int .i64 (n : Int), .int .i64 0]) ∧ Ext w w' := by
  refine (parse_form w q cap l h).mono ?_
  rintro e w' ⟨v, n', c, rfl, he, hs⟩
  unfold PrsP at hs
  rw [hp] at hs
  obtain ⟨rfl, rfl, _, q', c', rfl, _⟩ := hs
  exact ⟨q', c', rfl, he⟩
theorem prs_not2 (w : World) (q : Option Addr) (cap : Nat) (l : List UInt8) (h : BytesAt w q cap l) (z : Int) (hp : parseS l = .error z) :
    Calls Tryd.prog 18 #[.slice q l.length cap] w fun e w' => ∃ v, e = .returned (.tuple #[v, .int .i64 0, .int .i64 z]) ∧ Ext w w' := by
  refine (parse_form w q cap l h).mono ?_
  rintro e w' ⟨v, n', c, rfl, he, hs⟩
  unfold PrsP at hs
  rw [hp] at hs
  obtain ⟨rfl, rfl⟩ := hs
  exact ⟨v, rfl, he⟩
theorem enc_yes2 (w : World) (x : Rep) (q : Option Addr) (m c D : Nat) (hm : x.l.length = m) (hv : ListAt (fun b => b < w.heap.size) w D (.slice q m c) x.l) (h6 : i64R x) (hpw : Pow w) (hk : repOkB x = true) :
    Calls Tryd.prog 27 #[cellsV x.k x.n x.s (.slice q m c)] w fun e w' => ∃ q' c', e = .returned (.tuple #[.slice q' (encR x).length c', .int .i64 0]) ∧ Ext w w' ∧ BytesAt w' q' c' (encR x) := by
  subst hm
  refine (encode_any w x q c D hv h6 hpw).mono ?_
  intro e w' hs
  obtain ⟨he, hif⟩ := hs
  rw [if_pos hk] at hif
  obtain ⟨v7, rfl, q7, c7, rfl, hb7, _⟩ := hif
  exact ⟨q7, c7, rfl, he, hb7⟩
theorem chk_yes2 (w : World) (x : Rep) (q : Option Addr) (m c D : Nat) (hm : x.l.length = m) (hv : ListAt (fun b => b < w.heap.size) w D (.slice q m c) x.l) (h6 : i64R x) (hpw : Pow w) (r : Bool) (hk : repOkB x = r) :
    Calls Tryd.prog 30 #[cellsV x.k x.n x.s (.slice q m c)] w fun e w' => e = .returned (.int .i64 (if r = true then 0 else 2)) ∧ Ext w w' := by
  subst hm
  refine (check_any w x q c D hv h6 hpw).mono ?_
  intro e w' hs
  unfold ChkE at hs
  rw [hk] at hs
  exact hs
theorem dec_yes2 (w : World) (q : Option Addr) (cap : Nat) (l : List UInt8) (h : BytesAt w q cap l) (x : Rep) (s : St) (hp : decodeS l = .ok (x, s)) :
    Calls Tryd.prog 20 #[.slice q l.length cap] w fun e w' => ∃ q' c', e = .returned (.tuple #[cellsV x.k x.n x.s (.slice q' x.l.length c'), .int .i64 (s.p : Int), .int .i64 0]) ∧ Ext w w' := by
  refine (decode_form w q cap l h).mono ?_
  rintro e w' ⟨y, q', m', c', n, z, rfl, he, hl, hs⟩
  rw [hp] at hs
  obtain ⟨rfl, rfl, rfl⟩ := hs
  obtain ⟨q9, c9, e9⟩ := hl.slice
  injection e9 with e1 e2 e3
  subst e1 e2 e3
  exact ⟨_, _, rfl, he⟩
theorem dec_not2 (w : World) (q : Option Addr) (cap : Nat) (l : List UInt8) (h : BytesAt w q cap l) (z : Int) (hp : decodeS l = .error z) :
    Calls Tryd.prog 20 #[.slice q l.length cap] w fun e w' => ∃ (x : Rep) (q' : Option Addr) (m' c' : Nat), e = .returned (.tuple #[cellsV x.k x.n x.s (.slice q' m' c'), .int .i64 0, .int .i64 z]) ∧ Ext w w' := by
  refine (decode_form w q cap l h).mono ?_
  rintro e w' ⟨y, q', m', c', n, z', rfl, he, hl, hs⟩
  rw [hp] at hs
  obtain ⟨rfl, rfl⟩ := hs
  exact ⟨_, _, _, _, rfl, he⟩
end Go.Proofs.YtopdgmchkoaeeaaDoor
namespace Go.Proofs.YtopdgmchkoaeeaaDoor
open Go.RowKit
set_option linter.unusedVariables false
set_option linter.unusedSimpArgs false

set_option maxRecDepth 100000 in
set_option maxHeartbeats 4000000 in
theorem next_nil (w : World) : Calls Tryd.prog 26 #[.pointer none] w fun e w' => ∃ v, e = .returned (.tuple #[v, .int .i64 1]) ∧ Ext w w' := by
  go_enter Tryd.func26, Tryd.ntmps26
  go_wp2_with fail
  exact bodyPost_ret (v := .tuple #[.slice none 0 0, .int .i64 1]) (by simp [results, Tryd.results26, go_sem]) rfl ⟨_, rfl, Ext.refl w⟩
set_option maxRecDepth 100000 in
set_option maxHeartbeats 4000000 in
theorem feed_nil (w : World) : Calls Tryd.prog 24 #[.pointer none, .slice none 0 0] w fun e w' => e = .returned (.int .i64 1) ∧ Ext w w' := by
  go_enter Tryd.func24, Tryd.ntmps24
  go_wp2_with fail
  go_ret
  exact ⟨rfl, Ext.refl w⟩
end Go.Proofs.YtopdgmchkoaeeaaDoor
namespace Go.Proofs.YtopdgmchkoaeeaaDoor
open Go.RowKit
set_option linter.unusedVariables false
set_option linter.unusedSimpArgs false

theorem const_at (w : World) (l : List UInt8) (cs : Array Value) (m : Nat × Nat) (hl : l.length ≤ 1000) (hc : ∀ k (h : k < l.length), cs[k]? = some (.int .u8 (l[k].toNat : Int))) :
    BytesAt (w.alloc (.cells cs 5 m)) (some ⟨w.heap.size, 0, none⟩) l.length l := by
  have hn : (w.alloc (.cells cs 5 m)).heap[w.heap.size]? = some (.cells cs 5 m) := heap_alloc_new w _
  refine ⟨fun k hk => ⟨w.heap.size, 0, rfl, ?_⟩, by omega, .inr ⟨_, 0, rfl, by rw [size_alloc]; omega⟩, Nat.le_refl _, by omega⟩
  rw [cell_of_row _ _ _ cs 5 m hn, Nat.zero_add]
  exact hc k hk
end Go.Proofs.YtopdgmchkoaeeaaDoor
