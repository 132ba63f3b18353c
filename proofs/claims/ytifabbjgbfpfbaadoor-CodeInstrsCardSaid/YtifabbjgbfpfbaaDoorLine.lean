/- A line of numbers. -/
import Derived.Test.YtifabbjgbfpfbaaDoorPow
import Derived.Test.YtifabbjgbfpfbaaDoorCodD
import Derived.Deep.LoopGhost
import Derived.Laws.AppendOwn
import Derived.OwnWalk
namespace Go.Proofs.YtifabbjgbfpfbaaDoor
open Go.RowKit
set_option linter.unusedVariables false
set_option linter.unusedSimpArgs false

def NumsAt (w : World) (v : Value) (l : List Int) : Prop :=
  ∃ (q : Option Addr) (c : Nat), v = .slice q l.length c ∧ (0 < l.length → ∃ b o, q = some ⟨b, o, none⟩ ∧ ∀ i (h : i < l.length), w.cell? ⟨b, o + i, none⟩ = some (.int .i64 l[i]))
theorem infoStr : (Tryd.prog.info? 9).map (fun i => (i.zero, i.size, i.bytes)) = some (some (.string ByteArray.empty), 1, 16) := by kernel_rfl
theorem own_ext {w w' : World} {B : Nat} {e : TypeId} {size : Nat} {v : Value} {n : Nat} {xs : List Value} (h : w.ownsRow B e size v n xs) (he : Ext w w') : w'.ownsRow B e size v n xs :=
  h.kept (row := none) ⟨he.os, he.tape, he.output, he.size, fun k hk _ => he.block k hk⟩ (Classical.em _)
theorem one_new (w : World) (v : Value) (t : TypeId) : ∀ j u, [v][j]? = some u → (w.alloc (.cells #[v] t)).cell? ((⟨w.heap.size, 0, none⟩ : Addr).add j) = some u := by
  intro j u hu
  match j, hu with
  | 0, hu =>
    simp at hu
    subst hu
    exact (Blk.new w t #[v]).cell 0
theorem tk_snoc (pre : List ByteArray) (l : List Int) (k : Nat) (h : k < l.length) : pre ++ (l.take (k + 1)).map itS = (pre ++ (l.take k).map itS) ++ [itS l[k]] := by
  rw [List.take_succ_eq_append_getElem h, List.map_append, List.append_assoc]; rfl
def joinL (xs : List ByteArray) : List UInt8 := Lib.join (xs.map (·.data.toList)) [32]
theorem join_own (xs : List ByteArray) (v : Value) (n : Nat) (w : World) (B : Nat) (h : w.ownsRow B 9 1 v n (xs.map Value.string)) (hn : n ≤ 100000) (hJ : (joinL xs).length ≤ 140737488355328) :
    Calls Tryd.prog 38 #[v, .string ⟨#[32]⟩] w fun e w' => e = .returned (.string ⟨(joinL xs).toArray⟩) ∧ Ext w w' := by
  have h' := h
  obtain ⟨hlen, hx⟩ := h
  have hxl : xs.length = n := by simpa using hlen
  rcases hx with ⟨rfl, rfl⟩ | ⟨g, cap, cur, rfl, hB, hb, hc, hm, hs, ht⟩
  · obtain rfl : xs = [] := List.eq_nil_of_length_eq_zero hxl
    refine (Tryd.strings_Join_none none 0 ⟨#[32]⟩ w).mono ?_
    rintro e w' ⟨rfl, rfl⟩
    exact ⟨rfl, Ext.refl _⟩
  · subst hxl
    refine (Tryd.strings_Join g 0 cap xs ⟨#[32]⟩ w ?_ ?_ (by omega) hc hJ).mono ?_
    · intro j x hj
      have := World.ownsRow.cells h' (g := g) rfl j (.string x) (by rw [List.getElem?_map, hj]; rfl)
      have e : ((⟨g, 0, none⟩ : Addr).add j) = ⟨g, 0 + j, none⟩ := by unfold Addr.add; split <;> simp_all
      rw [e] at this
      exact this
    · exact (Array.getElem?_eq_some_iff.1 hb).1
    · rintro e w' ⟨rfl, hw⟩
      exact ⟨rfl, hw⟩
def lineX (pre : List ByteArray) (l : List Int) : List ByteArray := pre ++ l.map itS
def lineS (pre : List ByteArray) (l : List Int) : ByteArray := ⟨(joinL (lineX pre l)).toArray⟩ ++ ⟨#[10]⟩
set_option maxRecDepth 100000 in
set_option maxHeartbeats 4000000 in
theorem line_none (l : List Int) (v : Value) (w : World) (ht : Pow w) (h0 : NumsAt w v l) (hl : l.length ≤ 1000) (hr : ∀ x ∈ l, i64 x) (hJ : (joinL (lineX [] l)).length ≤ 140737488355328) :
    Calls Tryd.prog 26 #[.string ⟨#[]⟩, v] w fun e w' => e = .returned (.string (lineS [] l)) ∧ Ext w w' := by
  have h := Lib.hid h0
  clear h0
  obtain ⟨pre, hpre⟩ : ∃ pre : List ByteArray, pre = [] := ⟨_, rfl⟩
  obtain ⟨m0, hm0⟩ : ∃ m0 : Nat, m0 = 0 := ⟨_, rfl⟩
  obtain ⟨xs, hxs⟩ : ∃ xs, pre ++ l.map itS = xs := ⟨_, rfl⟩
  have hX : lineX [] l = xs := by rw [← hxs, hpre]; rfl
  unfold lineS
  rw [hX] at hJ ⊢
  clear hX
  replace hxs := Lib.hid hxs
  replace hpre := Lib.hid hpre
  replace hm0 := Lib.hid hm0
  obtain ⟨i0, hi, hz0, hz1, hz2⟩ := info_parts infoStr
  obtain ⟨n, hn⟩ : ∃ n, l.length = n := ⟨_, rfl⟩
  obtain ⟨q, c, rfl, _⟩ := h.out
  rw [hn] at h hl ⊢
  have HN := Lib.hid hn
  clear hn
  go_enter Tryd.func26, Tryd.ntmps26
  go_wp2_with fail
  go_loopg [5, 16] n (fun g s5 s16 wr => ∃ (k : Nat), k + g = n ∧ s16 = .int .i64 k ∧ wr.ownsRow w.heap.size 9 1 s5 (m0 + k) ((pre ++ (l.take k).map itS).map Value.string) ∧ Ext w wr)
  case atStart => exact ⟨0, by omega, rfl, by rw [hpre.out, hm0.out]; exact World.ownsRow_nil _ _ _ _, Ext.refl _⟩
  case round =>
    obtain ⟨k, hkg, rfl, hown, he⟩ := hrel
    cases gk with
    | succ g =>
      have hkz : (k : Int) < (n : Int) := by omega
      have hkl : k < l.length := by rw [HN.out]; omega
      obtain ⟨q1, c1, hqe, hq⟩ := h.out
      cases hqe
      obtain ⟨ib, io, rfl, hc⟩ := hq (by omega)
      have ci := he.cell (hc k hkl)
      have hi1 := hr _ (List.getElem_mem hkl)
      have HT := Lib.hid (tk_snoc pre l k hkl)
      obtain ⟨x, hx⟩ : ∃ x, l[k] = x := ⟨_, rfl⟩
      rw [hx] at ci hi1 HT
      clear hx hc hq hkl
      have HO := Lib.hid hown
      have HE := Lib.hid he
      clear hown he
      go_wp2_with fail
      refine (itoa_any x _ (ht.ext HE.out) hi1.1 hi1.2).mono ?_
      rintro e w1 ⟨rfl, e1⟩
      have hown1 := own_ext HO.out e1
      have he1 := HE.out.trans e1
      clear e1
      go_wp2_with (at_builtin; refine wpList_append_own _ rfl _ _ 24 rfl w.heap.size 9 i0 (.string ByteArray.empty) 1 16 Tryd.underlying24 hi hz0 hz1 hz2 rfl (by decide) _ _ _ rfl (hown1.alloc _) ⟨w1.heap.size, 0, none⟩ 1 1 [.string (itS x)] rfl rfl ?c1 ?c2 ?c3 ?c4 ?c5 ?_)
      case c1 => exact one_new _ _ _
      case c2 => intro u hu; simp at hu; subst hu; rfl
      case c3 => have := hm0.out; unfold maxLen; omega
      case c4 => have := hm0.out; omega
      case c5 => have := he1.le; rw [size_alloc]; omega
      intro v' w2 hown' hgrow _
      have HE2 := Lib.hid (show Ext w w2 from Below.grown (he1.alloc _) hgrow (by have := he1.le; rw [size_alloc]; omega) (fun k hk => (hown1.lt k hk).1))
      have HO2 := Lib.hid (show w2.ownsRow w.heap.size 9 1 v' (m0 + (k + 1)) ((pre ++ (l.take (k + 1)).map itS).map Value.string) by
        rw [HT.out]
        simpa [Nat.add_assoc] using hown')
      clear hown' hgrow hown1 he1 ci
      go_wp2_with fail
      go_roundg g
      case rel => exact ⟨k + 1, by omega, by go_num, HO2.out, HE2.out⟩
      case measure => exact Nat.lt_succ_self _
    | zero =>
      obtain rfl : k = n := by omega
      have hkz : ¬ ((k : Int) < (k : Int)) := by omega
      have hx : pre ++ (l.take k).map itS = xs := by rw [← hxs.out, List.take_of_length_le (by rw [HN.out]; exact Nat.le_refl _)]
      rw [hx] at hown
      have hj := join_own xs _ (m0 + k) wr w.heap.size hown (by have := hm0.out; omega) hJ
      have HE := Lib.hid he
      clear hown he hx
      go_wp2_with fail
      refine hj.mono ?_
      rintro e w1 ⟨rfl, e1⟩
      have HE2 := Lib.hid (HE.out.trans e1)
      clear e1
      go_wp2_with fail
      go_ret
      exact ⟨rfl, HE2.out⟩
set_option maxRecDepth 100000 in
set_option maxHeartbeats 4000000 in
theorem line_word (word : ByteArray) (hw : word.data ≠ #[]) (l : List Int) (v : Value) (w : World) (ht : Pow w) (h0 : NumsAt w v l) (hl : l.length ≤ 1000) (hr : ∀ x ∈ l, i64 x) (hJ : (joinL (lineX [word] l)).length ≤ 140737488355328) :
    Calls Tryd.prog 26 #[.string word, v] w fun e w' => e = .returned (.string (lineS [word] l)) ∧ Ext w w' := by
  have h := Lib.hid h0
  clear h0
  obtain ⟨pre, hpre⟩ : ∃ pre : List ByteArray, pre = [word] := ⟨_, rfl⟩
  obtain ⟨m0, hm0⟩ : ∃ m0 : Nat, m0 = 1 := ⟨_, rfl⟩
  obtain ⟨xs, hxs⟩ : ∃ xs, pre ++ l.map itS = xs := ⟨_, rfl⟩
  have hX : lineX [word] l = xs := by rw [← hxs, hpre]; rfl
  unfold lineS
  rw [hX] at hJ ⊢
  clear hX
  replace hxs := Lib.hid hxs
  replace hpre := Lib.hid hpre
  replace hm0 := Lib.hid hm0
  obtain ⟨i0, hi, hz0, hz1, hz2⟩ := info_parts infoStr
  obtain ⟨n, hn⟩ : ∃ n, l.length = n := ⟨_, rfl⟩
  obtain ⟨q, c, rfl, _⟩ := h.out
  rw [hn] at h hl ⊢
  have HN := Lib.hid hn
  clear hn
  have w1' : word.toList ≠ [] := by rw [Lib.toList_data]; intro e; exact hw (by simpa using e)
  have w2' : (!word.toList.isEmpty) = true := by simpa using w1'
  have w3' : word.toList.isEmpty = false := by simpa using w1'
  go_enter Tryd.func26, Tryd.ntmps26
  go_wp2_with (at_builtin; refine wpList_append_own _ rfl _ _ 24 rfl w.heap.size 9 i0 (.string ByteArray.empty) 1 16 Tryd.underlying24 hi hz0 hz1 hz2 rfl (by decide) _ 0 [] rfl (World.ownsRow_nil _ _ _ _) ⟨w.heap.size, 0, none⟩ 1 1 [.string word] rfl rfl ?c1 ?c2 ?c3 ?c4 ?c5 ?_)
  case c1 => exact one_new _ _ _
  case c2 => intro u hu; simp at hu; subst hu; rfl
  case c3 => unfold maxLen; omega
  case c4 => omega
  case c5 => rw [size_alloc]; omega
  intro v0 w0 hown0 hgrow0 _
  have k0 : Ext w w0 := Below.grown ((Ext.refl w).alloc _) hgrow0 (by rw [size_alloc]; omega) (fun k hk => by cases hk)
  have H0 := Lib.hid (show w0.ownsRow w.heap.size 9 1 v0 (m0 + 0) ((pre ++ (l.take 0).map itS).map Value.string) by rw [hpre.out, hm0.out]; exact hown0)
  clear hown0 hgrow0 w1' w2' w3' hw
  go_wp2_with fail
  go_loopg [5, 16] n (fun g s5 s16 wr => ∃ (k : Nat), k + g = n ∧ s16 = .int .i64 k ∧ wr.ownsRow w.heap.size 9 1 s5 (m0 + k) ((pre ++ (l.take k).map itS).map Value.string) ∧ Ext w wr)
  case atStart => exact ⟨0, by omega, rfl, H0.out, k0⟩
  case round =>
    obtain ⟨k, hkg, rfl, hown, he⟩ := hrel
    cases gk with
    | succ g =>
      have hkz : (k : Int) < (n : Int) := by omega
      have hkl : k < l.length := by rw [HN.out]; omega
      obtain ⟨q1, c1, hqe, hq⟩ := h.out
      cases hqe
      obtain ⟨ib, io, rfl, hc⟩ := hq (by omega)
      have ci := he.cell (hc k hkl)
      have hi1 := hr _ (List.getElem_mem hkl)
      have HT := Lib.hid (tk_snoc pre l k hkl)
      obtain ⟨x, hx⟩ : ∃ x, l[k] = x := ⟨_, rfl⟩
      rw [hx] at ci hi1 HT
      clear hx hc hq hkl
      have HO := Lib.hid hown
      have HE := Lib.hid he
      clear hown he
      go_wp2_with fail
      refine (itoa_any x _ (ht.ext HE.out) hi1.1 hi1.2).mono ?_
      rintro e w1 ⟨rfl, e1⟩
      have hown1 := own_ext HO.out e1
      have he1 := HE.out.trans e1
      clear e1
      go_wp2_with (at_builtin; refine wpList_append_own _ rfl _ _ 24 rfl w.heap.size 9 i0 (.string ByteArray.empty) 1 16 Tryd.underlying24 hi hz0 hz1 hz2 rfl (by decide) _ _ _ rfl (hown1.alloc _) ⟨w1.heap.size, 0, none⟩ 1 1 [.string (itS x)] rfl rfl ?c1 ?c2 ?c3 ?c4 ?c5 ?_)
      case c1 => exact one_new _ _ _
      case c2 => intro u hu; simp at hu; subst hu; rfl
      case c3 => have := hm0.out; unfold maxLen; omega
      case c4 => have := hm0.out; omega
      case c5 => have := he1.le; rw [size_alloc]; omega
      intro v' w2 hown' hgrow _
      have HE2 := Lib.hid (show Ext w w2 from Below.grown (he1.alloc _) hgrow (by have := he1.le; rw [size_alloc]; omega) (fun k hk => (hown1.lt k hk).1))
      have HO2 := Lib.hid (show w2.ownsRow w.heap.size 9 1 v' (m0 + (k + 1)) ((pre ++ (l.take (k + 1)).map itS).map Value.string) by
        rw [HT.out]
        simpa [Nat.add_assoc] using hown')
      clear hown' hgrow hown1 he1 ci
      go_wp2_with fail
      go_roundg g
      case rel => exact ⟨k + 1, by omega, by go_num, HO2.out, HE2.out⟩
      case measure => exact Nat.lt_succ_self _
    | zero =>
      obtain rfl : k = n := by omega
      have hkz : ¬ ((k : Int) < (k : Int)) := by omega
      have hx : pre ++ (l.take k).map itS = xs := by rw [← hxs.out, List.take_of_length_le (by rw [HN.out]; exact Nat.le_refl _)]
      rw [hx] at hown
      have hj := join_own xs _ (m0 + k) wr w.heap.size hown (by have := hm0.out; omega) hJ
      have HE := Lib.hid he
      clear hown he hx
      go_wp2_with fail
      refine hj.mono ?_
      rintro e w1 ⟨rfl, e1⟩
      have HE2 := Lib.hid (HE.out.trans e1)
      clear e1
      go_wp2_with fail
      go_ret
      exact ⟨rfl, HE2.out⟩
end Go.Proofs.YtifabbjgbfpfbaaDoor
