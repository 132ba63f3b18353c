/- Rows of instructions, numbers, texts: slices.Equal. -/
import Derived.Test.YtifabbjgbfpfbaaDoorCod0
import Derived.Deep.LoopGhost
import Derived.Lib.Strings
import Derived.Laws.StructEq
namespace Go.Proofs.YtifabbjgbfpfbaaDoor
open Go.RowKit
set_option linter.unusedVariables false
set_option linter.unusedSimpArgs false

def NumsAt' (w : World) (v : Value) (l : List Int) : Prop :=
  ∃ (q : Option Addr) (c : Nat), v = .slice q l.length c ∧ (0 < l.length → ∃ b o, q = some ⟨b, o, none⟩ ∧ ∀ i (h : i < l.length), w.cell? ⟨b, o + i, none⟩ = some (.int .i64 l[i]))

theorem take_eq_succ {α : Type} {l m : List α} {k : Nat} (h : l.take k = m.take k) (hl : k < l.length) (hm : k < m.length) (e : l[k] = m[k]) : l.take (k + 1) = m.take (k + 1) := by
  rw [List.take_succ_eq_append_getElem hl, List.take_succ_eq_append_getElem hm, h, e]
theorem ne_of_at {α : Type} {l m : List α} (k : Nat) (hl : k < l.length) (hm : k < m.length) (e : l[k] ≠ m[k]) : l ≠ m := by
  rintro rfl; exact e rfl
theorem eq_of_take {α : Type} {l m : List α} {k : Nat} (h : l.take k = m.take k) (hl : l.length = k) (hm : m.length = k) : l = m := by
  rwa [List.take_of_length_le (by omega), List.take_of_length_le (by omega)] at h

theorem ba_eq {x y : ByteArray} (h : x.toList = y.toList) : x = y := by
  rw [Lib.toList_data, Lib.toList_data] at h
  exact ByteArray.ext (Array.ext' h)
theorem ins_guard (a b : Operand) (xs ys : Array Value) (w : World) : (eqGuard .neq 37 a b (.agg xs) (.agg ys)).run Tryd.prog w = .ok () w :=
  run_eqGuard_agg w _ _ _ _ _ _ (by kernel_rfl)
theorem ins_eql (x y : Ins) (w : World) :
    (Op.equalIn 10000 37 (.agg #[.int .i64 x.op, .int .i64 x.a, .int .i64 x.b, .int .i64 x.c]) (.agg #[.int .i64 y.op, .int .i64 y.a, .int .i64 y.b, .int .i64 y.c])).run Tryd.prog w = .ok (x == y) w := by
  have u3 := Tryd.underlying3
  have a3 := Tryd.isAgg3
  have z3 := Tryd.sizeOf3
  have u4 := Tryd.underlying35
  have a4 := Tryd.isAgg35
  have z4 := Tryd.sizeOf35
  rw [show (10000 : Nat) = 9999 + 1 from rfl, run_equalIn_struct (P := Tryd.prog) w 9999 37 _ _ (by kernel_rfl) (by kernel_rfl)]
  simp only [Program.fieldsOf, Tryd.underlying37]
  go_simp
  obtain ⟨x0, x1, x2, x3⟩ := x
  obtain ⟨y0, y1, y2, y3⟩ := y
  have e : ((⟨x0, x1, x2, x3⟩ : Ins) == ⟨y0, y1, y2, y3⟩) = (x0 == y0 && (x1 == y1 && (x2 == y2 && x3 == y3))) := by
    rw [Bool.eq_iff_iff]; simp
  rw [e]
  by_cases h1 : x0 = y0 <;> by_cases h2 : x1 = y1 <;> by_cases h3 : x2 = y2 <;> by_cases h4 : x3 = y3 <;> simp [h1, h2, h3, h4]
theorem ins_neq (x y : Ins) (w : World) :
    (binOp .neq 37 (.agg #[.int .i64 x.op, .int .i64 x.a, .int .i64 x.b, .int .i64 x.c]) (.agg #[.int .i64 y.op, .int .i64 y.a, .int .i64 y.b, .int .i64 y.c])).run Tryd.prog w = .ok (.bool (x != y)) w := by
  rw [run_neq_struct, ins_eql]
  rfl
set_option maxHeartbeats 1000000 in
theorem eq_nums (l m : List Int) (v u : Value) (w : World) (hl : NumsAt' w v l) (hm : NumsAt' w u m) (n1 : l.length ≤ 9223372036854775807) (n2 : m.length ≤ 9223372036854775807) :
    Calls Tryd.prog 23 #[v, u] w fun e w' => e = .returned (.bool (decide (l = m))) ∧ Ext w w' := by
  obtain ⟨q, c, rfl, hx⟩ := hl
  obtain ⟨q', c', rfl, hy⟩ := hm
  have HX := Lib.hid hx
  have HY := Lib.hid hy
  clear hx hy
  by_cases hlen : l.length = m.length
  · obtain ⟨n, hn⟩ : ∃ n, l.length = n := ⟨_, rfl⟩
    have hn' : m.length = n := by omega
    have HN := Lib.hid hn
    have HM := Lib.hid hn'
    rw [hn] at n1
    rw [hn, hn']
    clear n2 hlen hn hn'
    have HT : Hid (l.take 0 = m.take 0) := Lib.hid rfl
    go_enter Tryd.func23, Tryd.ntmps23
    go_wp2
    go_loopw [13] (fun i wr => ∃ k : Nat, k ≤ n ∧ i = .int .i64 k ∧ Hid (l.take k = m.take k) ∧ Ext w wr) (fun i _ => n - (intOf i).toNat)
    case atStart => exact ⟨0, Nat.zero_le _, rfl, HT, Ext.refl w⟩
    case round =>
      obtain ⟨k, hk, rfl, HK, he⟩ := hrel
      have HE := Lib.hid he
      clear he
      by_cases hlt : k < n
      · have kl : k < l.length := by rw [HN.out]; exact hlt
        have km : k < m.length := by rw [HM.out]; exact hlt
        obtain ⟨b, o, rfl, hx⟩ := HX.out (by omega)
        obtain ⟨b', o', rfl, hy⟩ := HY.out (by omega)
        have cx := HE.out.cell (hx k kl)
        have cy := HE.out.cell (hy k km)
        have lx := cell_lt cx
        have ly := cell_lt cy
        simp only at lx ly
        have HS := Lib.hid (take_eq_succ HK.out kl km)
        have HD := Lib.hid (ne_of_at (l := l) (m := m) k kl km)
        obtain ⟨x, hx'⟩ : ∃ x, l[k] = x := ⟨_, rfl⟩
        obtain ⟨y, hy'⟩ : ∃ y, m[k] = y := ⟨_, rfl⟩
        rw [hx'] at cx HS HD
        rw [hy'] at cy HS HD
        clear hx hy hx' hy' kl km
        have k0 : (0 : Int) ≤ (k : Int) := by omega
        have k1 : (k : Int) < (n : Int) := by omega
        cases hb : (x != y)
        · go_wp2
          go_quiet (fail)
          go_wp2
          go_roundw
          case rel => exact ⟨k + 1, hlt, by go_num, Lib.hid (HS.out (by simpa using hb)), HE.out.drewN _⟩
          case measure => simp [intOf]; omega
        · have hd := Lib.hid (decide_eq_false (HD.out (by simpa using hb)))
          go_wp2
          go_quiet (fail)
          go_wp2
          go_ret
          exact ⟨ret_of (bool_eq hd.out.symm), HE.out.drewN _⟩
      · obtain rfl : k = n := by omega
        have hd := Lib.hid (decide_eq_true (eq_of_take HK.out HN.out HM.out))
        go_wp2
        go_ret
        exact ⟨ret_of (bool_eq hd.out.symm), HE.out⟩
  · have hd : decide (l = m) = false := decide_eq_false (fun e => hlen (by rw [e]))
    rw [hd]
    clear hd
    have hb : ((l.length : Int) != (m.length : Int)) = true := by simpa using (by omega : ¬ (l.length : Int) = m.length)
    go_enter Tryd.func23, Tryd.ntmps23
    go_wp2
    go_ret
    exact ⟨rfl, Ext.refl w⟩
set_option maxHeartbeats 1000000 in
theorem eq_code (l m : List Ins) (v u : Value) (w : World) (hl : CodeAt w v l) (hm : CodeAt w u m) (n1 : l.length ≤ 9223372036854775807) (n2 : m.length ≤ 9223372036854775807) :
    Calls Tryd.prog 22 #[v, u] w fun e w' => e = .returned (.bool (decide (l = m))) ∧ Ext w w' := by
  obtain ⟨q, c, rfl, hx⟩ := hl
  obtain ⟨q', c', rfl, hy⟩ := hm
  have HX := Lib.hid hx
  have HY := Lib.hid hy
  clear hx hy
  by_cases hlen : l.length = m.length
  · obtain ⟨n, hn⟩ : ∃ n, l.length = n := ⟨_, rfl⟩
    have hn' : m.length = n := by omega
    have HN := Lib.hid hn
    have HM := Lib.hid hn'
    rw [hn] at n1
    rw [hn, hn']
    clear n2 hlen hn hn'
    have HT : Hid (l.take 0 = m.take 0) := Lib.hid rfl
    go_enter Tryd.func22, Tryd.ntmps22
    go_wp2
    go_loopw [13] (fun i wr => ∃ k : Nat, k ≤ n ∧ i = .int .i64 k ∧ Hid (l.take k = m.take k) ∧ Ext w wr) (fun i _ => n - (intOf i).toNat)
    case atStart => exact ⟨0, Nat.zero_le _, rfl, HT, Ext.refl w⟩
    case round =>
      obtain ⟨k, hk, rfl, HK, he⟩ := hrel
      have HE := Lib.hid he
      clear he
      by_cases hlt : k < n
      · have kl : k < l.length := by rw [HN.out]; exact hlt
        have km : k < m.length := by rw [HM.out]; exact hlt
        obtain ⟨b, o, rfl, hx⟩ := HX.out (by omega)
        obtain ⟨b', o', rfl, hy⟩ := HY.out (by omega)
        have cx0 := HE.out.cell (hx k kl).1
        have cx1 := HE.out.cell (hx k kl).2.1
        have cx2 := HE.out.cell (hx k kl).2.2.1
        have cx3 := HE.out.cell (hx k kl).2.2.2
        have cy0 := HE.out.cell (hy k km).1
        have cy1 := HE.out.cell (hy k km).2.1
        have cy2 := HE.out.cell (hy k km).2.2.1
        have cy3 := HE.out.cell (hy k km).2.2.2
        have lx := cell_lt cx0
        have ly := cell_lt cy0
        simp only at lx ly
        have HS := Lib.hid (take_eq_succ HK.out kl km)
        have HD := Lib.hid (ne_of_at (l := l) (m := m) k kl km)
        obtain ⟨x, hx'⟩ : ∃ x, l[k] = x := ⟨_, rfl⟩
        obtain ⟨y, hy'⟩ : ∃ y, m[k] = y := ⟨_, rfl⟩
        rw [hx'] at cx0 cx1 cx2 cx3 HS HD
        rw [hy'] at cy0 cy1 cy2 cy3 HS HD
        clear hx hy hx' hy' kl km
        have k0 : (0 : Int) ≤ (k : Int) := by omega
        have k1 : (k : Int) < (n : Int) := by omega
        have f1 := ins_guard
        have f2 := fun wq => ins_neq x y wq
        cases hb : (x != y)
        · go_wp2
          go_quiet (fail)
          go_wp2
          go_roundw
          case rel => exact ⟨k + 1, hlt, by go_num, Lib.hid (HS.out (by simpa using hb)), HE.out.drewN _⟩
          case measure => simp [intOf]; omega
        · have hd := Lib.hid (decide_eq_false (HD.out (by simpa using hb)))
          go_wp2
          go_quiet (fail)
          go_wp2
          go_ret
          exact ⟨ret_of (bool_eq hd.out.symm), HE.out.drewN _⟩
      · obtain rfl : k = n := by omega
        have hd := Lib.hid (decide_eq_true (eq_of_take HK.out HN.out HM.out))
        go_wp2
        go_ret
        exact ⟨ret_of (bool_eq hd.out.symm), HE.out⟩
  · have hd : decide (l = m) = false := decide_eq_false (fun e => hlen (by rw [e]))
    rw [hd]
    clear hd
    have hb : ((l.length : Int) != (m.length : Int)) = true := by simpa using (by omega : ¬ (l.length : Int) = m.length)
    go_enter Tryd.func22, Tryd.ntmps22
    go_wp2
    go_ret
    exact ⟨rfl, Ext.refl w⟩
set_option maxHeartbeats 1000000 in
theorem eq_texts (l m : List ByteArray) (v u : Value) (w : World) (hl : TextsAt w v l) (hm : TextsAt w u m) (n1 : l.length ≤ 9223372036854775807) (n2 : m.length ≤ 9223372036854775807) :
    Calls Tryd.prog 24 #[v, u] w fun e w' => e = .returned (.bool (decide (l = m))) ∧ Ext w w' := by
  obtain ⟨q, c, rfl, hx⟩ := hl
  obtain ⟨q', c', rfl, hy⟩ := hm
  have HX := Lib.hid hx
  have HY := Lib.hid hy
  clear hx hy
  by_cases hlen : l.length = m.length
  · obtain ⟨n, hn⟩ : ∃ n, l.length = n := ⟨_, rfl⟩
    have hn' : m.length = n := by omega
    have HN := Lib.hid hn
    have HM := Lib.hid hn'
    rw [hn] at n1
    rw [hn, hn']
    clear n2 hlen hn hn'
    have HT : Hid (l.take 0 = m.take 0) := Lib.hid rfl
    go_enter Tryd.func24, Tryd.ntmps24
    go_wp2
    go_loopw [13] (fun i wr => ∃ k : Nat, k ≤ n ∧ i = .int .i64 k ∧ Hid (l.take k = m.take k) ∧ Ext w wr) (fun i _ => n - (intOf i).toNat)
    case atStart => exact ⟨0, Nat.zero_le _, rfl, HT, Ext.refl w⟩
    case round =>
      obtain ⟨k, hk, rfl, HK, he⟩ := hrel
      have HE := Lib.hid he
      clear he
      by_cases hlt : k < n
      · have kl : k < l.length := by rw [HN.out]; exact hlt
        have km : k < m.length := by rw [HM.out]; exact hlt
        obtain ⟨b, o, rfl, hx⟩ := HX.out (by omega)
        obtain ⟨b', o', rfl, hy⟩ := HY.out (by omega)
        have cx := HE.out.cell (hx k kl)
        have cy := HE.out.cell (hy k km)
        have lx := cell_lt cx
        have ly := cell_lt cy
        simp only at lx ly
        have HS := Lib.hid (take_eq_succ HK.out kl km)
        have HD := Lib.hid (ne_of_at (l := l) (m := m) k kl km)
        obtain ⟨x, hx'⟩ : ∃ x, l[k] = x := ⟨_, rfl⟩
        obtain ⟨y, hy'⟩ : ∃ y, m[k] = y := ⟨_, rfl⟩
        rw [hx'] at cx HS HD
        rw [hy'] at cy HS HD
        clear hx hy hx' hy' kl km
        have k0 : (0 : Int) ≤ (k : Int) := by omega
        have k1 : (k : Int) < (n : Int) := by omega
        cases hb : (!x.toList == y.toList)
        · go_wp2
          go_quiet (fail)
          go_wp2
          go_roundw
          case rel => exact ⟨k + 1, hlt, by go_num, Lib.hid (HS.out (ba_eq (by simpa using hb))), HE.out.drewN _⟩
          case measure => simp [intOf]; omega
        · have hd := Lib.hid (decide_eq_false (HD.out (fun e => by simp [e] at hb)))
          go_wp2
          go_quiet (fail)
          go_wp2
          go_ret
          exact ⟨ret_of (bool_eq hd.out.symm), HE.out.drewN _⟩
      · obtain rfl : k = n := by omega
        have hd := Lib.hid (decide_eq_true (eq_of_take HK.out HN.out HM.out))
        go_wp2
        go_ret
        exact ⟨ret_of (bool_eq hd.out.symm), HE.out⟩
  · have hd : decide (l = m) = false := decide_eq_false (fun e => hlen (by rw [e]))
    rw [hd]
    clear hd
    have hb : ((l.length : Int) != (m.length : Int)) = true := by simpa using (by omega : ¬ (l.length : Int) = m.length)
    go_enter Tryd.func24, Tryd.ntmps24
    go_wp2
    go_ret
    exact ⟨rfl, Ext.refl w⟩
end Go.Proofs.YtifabbjgbfpfbaaDoor
