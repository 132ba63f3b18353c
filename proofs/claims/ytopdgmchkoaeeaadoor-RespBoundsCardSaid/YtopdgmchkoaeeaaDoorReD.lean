/- The document's Parse. -/
import Derived.Test.YtopdgmchkoaeeaaDoorReC
import Derived.OwnWalk
import Derived.Test.YtopdgmchkoaeeaaDoorRtT
namespace Go.Proofs.YtopdgmchkoaeeaaDoor
open Go.RowKit
set_option linter.unusedVariables false
set_option linter.unusedSimpArgs false

theorem rappend_to_none {P : Program} (w : World) (base : Nat) (t ty e : TypeId) (i : TypeInfo) (size : Nat) (ht : P.underlying t = some (.slice e)) (hi : P.info? e = some i) (v : Value) (n : Nat) (xs : List Value) (ho : w.ownsRow base e size v n xs) (c : Nat) :
    (Builtin.append_ #[t, t] ty #[v, .slice none 0 c]).run P w = .ok v w := by
  obtain ⟨_, ⟨rfl, rfl⟩ | ⟨g, cap, cur, rfl, _, _, hn, _⟩⟩ := ho
  · simp [Builtin.append_, run_underlying ht, sizeOf, typeInfo, hi, Builtin.lenOf, Builtin.firstCells]
  · simp [Builtin.append_, run_underlying ht, sizeOf, typeInfo, hi, Builtin.lenOf, Builtin.firstCells, hn, storeCells]
theorem rappend_texts (w : World) (ty : TypeId) (base : Nat) (v : Value) (l : List ByteArray) (ho : w.ownsRow base 9 1 v l.length (l.map Value.string)) (q : Option Addr) (c : Nat) (m : List ByteArray) (hm : TxAt w (.slice q m.length c) m)
    (hlen : l.length + m.length ≤ 100000) (hbase : base ≤ w.heap.size) :
    ∃ v' w', (Builtin.append_ #[22, 22] ty #[v, .slice q m.length c]).run Tryd.prog w = .ok v' w' ∧ w'.ownsRow base 9 1 v' (l ++ m).length ((l ++ m).map Value.string) ∧ w.grownBy w' v.ownBlock := by
  obtain ⟨i0, hi, hz0, hz1, hz2⟩ := info_parts infoStr
  obtain ⟨_, q', c', e, hx⟩ := hm
  injection e with e1 e2 e3
  subst e1 e3
  have hone : ∀ u ∈ m.map Value.string, u.oneCell' = true := by
    intro u hu
    simp only [List.mem_map] at hu
    obtain ⟨s, _, rfl⟩ := hu
    rfl
  rcases Nat.eq_zero_or_pos m.length with h0 | h0
  · obtain rfl := List.eq_nil_of_length_eq_zero h0
    cases q with
    | none => exact ⟨v, w, rappend_to_none w base _ ty _ i0 1 Tryd.underlying22 hi v l.length _ ho c, by simpa using ho, World.grownBy.refl w _⟩
    | some a =>
      obtain ⟨v', w', h1, h2, h3, _⟩ := run_append_own (P := Tryd.prog) w base 22 ty 9 i0 (.string ⟨#[]⟩) 1 16 Tryd.underlying22 hi hz0 hz1 hz2 rfl (by omega) v l.length (l.map Value.string) ho a 0 c [] rfl (fun j u hu => by simp at hu) (fun u hu => by simp at hu) (by unfold maxLen; omega) (by omega) hbase
      exact ⟨v', w', h1, by simpa using h2, h3⟩
  · obtain ⟨b, o, hq, hy⟩ := hx h0
    subst hq
    obtain ⟨v', w', h1, h2, h3, _⟩ := run_append_own (P := Tryd.prog) w base 22 ty 9 i0 (.string ⟨#[]⟩) 1 16 Tryd.underlying22 hi hz0 hz1 hz2 rfl (by omega) v l.length (l.map Value.string) ho ⟨b, o, none⟩ m.length c (m.map Value.string) (by simp) (by
      intro j u hu
      have hj : j < m.length := by
        have := (List.getElem?_eq_some_iff.1 hu).1
        simpa using this
      have hadd : (⟨b, o, none⟩ : Addr).add j = ⟨b, o + j, none⟩ := by unfold Addr.add; split <;> simp_all
      rw [hadd, hy j hj, ← hu]
      simp [List.getElem?_map, List.getElem?_eq_getElem hj]) hone (by unfold maxLen; omega) (by omega) hbase
    exact ⟨v', w', h1, by rw [List.map_append, List.length_append]; exact h2, h3⟩
theorem rtx_one (w : World) (a : ByteArray) : TxAt (w.alloc (.cells #[.string a] 9)) (.slice (some ⟨w.heap.size, 0, none⟩) 1 1) [a] := by
  refine ⟨by simp, _, _, rfl, fun _ => ⟨_, _, rfl, fun i hi => ?_⟩⟩
  have B := Blk.new w 9 #[.string a]
  obtain rfl : i = 0 := by simp at hi; omega
  exact B.cell 0
/-- Digits, behind what may have ended. -/
def digS (l : List UInt8) (least most m n : Nat) : Except Int Nat → Except Int (Nat × Nat)
  | .ok p => numS l least most (l.length - p) m n p
  | .error e => .error e
theorem digits_from (least most : Nat) (w : World) (g : Nat) (s : ByteArray) (t i : Int) (r : Except Int Nat) (h : RefAt w g s t i r) (hl : least ≤ 1) (hm : most ≤ 9223372036854775808) (hs : s.size ≤ 9223372036854775000) :
    Calls Tryd.prog 47 #[.pointer (some ⟨g, 0, none⟩), .int .u64 0, .int .i64 0, .int .u64 least, .int .u64 most] w (DigE w g s t i (digS s.data.toList least most 0 0 r)) := by
  cases r with
  | ok p => exact digits_any 0 0 least most w g s p t i h hl hm hs (by omega) (by omega)
  | error c =>
    refine (digits_bad 0 0 least most w g s t i c h (by omega)).mono ?_
    rintro e w' ⟨rfl, rfl⟩
    exact DigE.err 0 rfl (by omega) rfl h (Only.refl _ _)
theorem bulks_next (l : List UInt8) (k t p : Nat) : bulksS l (k + 1) t p = match rbulkS l t p with | .error e => .error e | .ok (s, q) => (bulksS l k (t - s.size) q).map fun x => (s :: x.1, x.2) := by
  simp only [bulksS, rbulkS]
  cases skipS l [36] p with
  | error e => rfl
  | ok q =>
    cases h : bulkS l t q with
    | error e => simp [h]
    | ok x => simp [h]
theorem rbulk_pos {l : List UInt8} {t p : Nat} {x : ByteArray × Nat} (hp : p ≤ l.length) (h : rbulkS l t p = .ok x) : x.1.size ≤ t ∧ x.2 ≤ l.length := by
  unfold rbulkS at h
  cases hs : skipS l [36] p with
  | error e => rw [hs] at h; cases h
  | ok q =>
    rw [hs] at h
    have h1 := skip_pos _ _ _ hp hs
    have h2 := bulk_pos h1.2 h
    exact ⟨h2.1, h2.2.2⟩
/-- Where the document's Parse stands at its loop's head. -/
def PrAt (w wr : World) (g : Nat) (s : ByteArray) (N k : Nat) (lv : Value) (R : Except Int (List ByteArray × Nat)) : Prop :=
  Ext w wr ∧ g + 1 ≤ wr.heap.size ∧ ((∃ (p t : Nat) (xs : List ByteArray), k ≤ N ∧ N ≤ 65536 ∧ xs.length = k ∧ wr.ownsRow (g + 1) 9 1 lv xs.length (xs.map Value.string) ∧ RBlk wr g s p 0 t 0 ∧ p ≤ s.size ∧ t ≤ 1048576 ∧
      (bulksS s.data.toList (N - k) t p).map (fun x => (xs ++ x.1, x.2)) = R) ∨ (∃ c, RefAt wr g s 0 0 (.error c) ∧ R = .error c))
def bulksF (l : List UInt8) : Except Int (Nat × Nat) → Except Int (List ByteArray × Nat)
  | .ok x => bulksS l x.1 1048576 x.2
  | .error c => .error c
theorem pr_start {w wr : World} {g : Nat} {s : ByteArray} {N : Nat} {r : Except Int (Nat × Nat)} {R : Except Int (List ByteArray × Nat)} (he : Ext w wr) (hg : g + 1 ≤ wr.heap.size)
    (hm : match r with | .ok x => N = x.1 ∧ RBlk wr g s (x.2 : Int) 0 1048576 0 | .error c => RefAt wr g s 1048576 0 (.error c))
    (hb : ∀ x, r = .ok x → x.1 ≤ 65536 ∧ x.2 ≤ s.size)
    (hR : bulksF s.data.toList r = R) : PrAt w wr g s N 0 (.slice none 0 0) R := by
  refine ⟨he, hg, ?_⟩
  cases r with
  | error c => exact .inr ⟨c, hm, hR.symm⟩
  | ok x =>
    obtain ⟨rfl, hk⟩ := hm
    have h2 := hb _ rfl
    refine .inl ⟨x.2, 1048576, [], Nat.zero_le _, h2.1, rfl, ⟨rfl, .inl ⟨rfl, rfl⟩⟩, hk, h2.2, by omega, ?_⟩
    rw [← hR]
    simp only [Nat.sub_zero, bulksF]
    cases bulksS s.data.toList x.1 1048576 x.2 <;> simp [Except.map]
theorem parseS_eq (l : List UInt8) : parseS l = bulksF l (digS l 1 65536 0 0 (skipS l [42] 0)) := by
  unfold parseS
  cases skipS l [42] 0 with
  | error e => rfl
  | ok p =>
    simp only [digS]
    cases numS l 1 65536 (l.length - p) 0 0 p with
    | error e => rfl
    | ok x => rfl

set_option maxRecDepth 100000 in
set_option maxHeartbeats 8000000 in
theorem rparse_any (w : World) (s : ByteArray) (hs : s.size ≤ 9223372036854775000) :
    Calls Tryd.prog 19 #[.string s] w (ParseE w (parseS s.data.toList)) := by
  obtain ⟨R, hR⟩ : ∃ R, parseS s.data.toList = R := ⟨_, rfl⟩
  rw [hR]
  rw [parseS_eq] at hR
  have HR := Lib.hid hR
  have HL := Lib.hid (show s.data.toList.length = s.size from rfl)
  have HB : Hid (RBlk (w.alloc (.cells #[.string s, .int .i64 0, .int .i64 0, .int .i64 1048576, .int .i64 0] 91)) w.heap.size s (0 : Nat) 0 1048576 0) := Lib.hid (Blk.new w _ _)
  have HE := Lib.hid ((Ext.refl w).alloc (.cells #[.string s, .int .i64 0, .int .i64 0, .int .i64 1048576, .int .i64 0] 91))
  have HZ := Lib.hid (show w.heap.size + 1 ≤ (w.alloc (.cells #[.string s, .int .i64 0, .int .i64 0, .int .i64 1048576, .int .i64 0] 91)).heap.size by rw [size_alloc]; omega)
  clear hR
  go_enter Tryd.func19, Tryd.ntmps19
  go_wp2_with fail
  generalize w.alloc (.cells #[.string s, .int .i64 0, .int .i64 0, .int .i64 1048576, .int .i64 0] 91) = w1 at HB HE HZ ⊢
  have hW : Calls Tryd.prog 46 #[.pointer (some ⟨w.heap.size, 0, none⟩), .int .u8 42] w1 fun e w' => e = .returned (.tuple #[]) ∧ RefAt w' w.heap.size s 1048576 0 (skipS s.data.toList [42] 0) ∧ Only w.heap.size w1 w' := want_any 42 w1 w.heap.size s 1048576 0 (.ok 0) HB.out (by decide) (by omega)
  refine hW.mono ?_
  rintro e w2 ⟨rfl, r2, o2⟩
  have R2 := Lib.hid r2
  have HE2 := Lib.hid (Only.to_ext o2 HE.out (Nat.le_refl _))
  have HZ2 := Lib.hid (Nat.le_trans HZ.out o2.le)
  clear hW r2 o2 HE HZ HB
  go_wp2_with fail
  have hD : Calls Tryd.prog 47 #[.pointer (some ⟨w.heap.size, 0, none⟩), .int .u64 0, .int .i64 0, .int .u64 1, .int .u64 65536] w2 (DigE w2 w.heap.size s 1048576 0 (digS s.data.toList 1 65536 0 0 (skipS s.data.toList [42] 0))) := digits_from 1 65536 w2 w.heap.size s 1048576 0 _ R2.out (by omega) (by omega) hs
  refine hD.mono ?_
  rintro e w3 ⟨o3, N, hN, rfl, hm⟩
  have HP : Hid (PrAt w w3 w.heap.size s N 0 (.slice none 0 0) R) := Lib.hid (pr_start (Only.to_ext o3 HE2.out (Nat.le_refl _)) (Nat.le_trans HZ2.out o3.le) hm (by
    intro x hx
    cases hk : skipS s.data.toList [42] 0 with
    | error e => rw [hk] at hx; cases hx
    | ok p =>
      rw [hk] at hx
      have h1 := skip_pos _ _ _ (Nat.zero_le _) hk
      have h2 := num_pos _ _ _ _ _ h1.2 (by omega) hx
      have := HL.out
      exact ⟨h2.1, by omega⟩) HR.out)
  clear hD hm o3 R2 HE2 HZ2 HR
  go_wp2_with fail
  go_loopw [7, 8] (fun v7 v8 wr => ∃ k : Nat, v8 = .int .u64 k ∧ k ≤ 65536 ∧ Hid (PrAt w wr w.heap.size s N k v7 R)) (fun _ v8 _ => N - (intOf v8).toNat)
  case atStart => exact ⟨0, rfl, by omega, HP⟩
  case round =>
    obtain ⟨k, rfl, hk6, HQ⟩ := hrel
    clear HP
    obtain ⟨he, hz, hP⟩ := HQ.out
    have HE := Lib.hid he
    have HZ := Lib.hid hz
    clear HQ he hz
    rcases hP with ⟨p, t, xs, hkN, hN6, hxl, ho, hb, hp, ht, hS⟩ | ⟨c, hc, hRc⟩
    · have HO := Lib.hid ho
      have HB := Lib.hid hb
      have HXL := Lib.hid hxl
      have c1 := hb.cell 1
      have c2 := hb.cell 2
      simp only [List.getElem?_toArray, List.getElem?_cons_zero, List.getElem?_cons_succ] at c1 c2
      by_cases hlt : k < N
      · have d1 : decide ((k : Int) < (N : Int)) = true := decide_eq_true (by omega)
        have d1n : decide (k < N) = true := decide_eq_true hlt
        rw [show N - k = (N - (k + 1)) + 1 by omega, bulks_next] at hS
        have HS := Lib.hid hS
        have HBK := Lib.hid (rbulk_any wr w.heap.size s p t 0 hb hp hs ht)
        clear hS ho hb hxl
        go_wp2_with fail
        refine HBK.out.mono ?_
        rintro e w4 ⟨o4, x, rfl, hm⟩
        have HM := Lib.hid hm
        have O4 := Lib.hid o4
        have ho4 := own_only HO.out o4 (by omega)
        obtain ⟨v', w5, hr5, ho5, hg5⟩ := rappend_texts (w4.alloc (.cells #[.string x] 9)) 22 (w.heap.size + 1) u7 xs (own_ext ho4 ((Ext.refl w4).alloc _)) _ _ [x] (rtx_one w4 x) (by have := HXL.out; simp; omega) (by rw [size_alloc]; have := HZ.out; have := o4.le; omega)
        have HR5 := Lib.hid hr5
        have HO5 := Lib.hid ho5
        have HG5 := Lib.hid hg5
        have HBL := Lib.hid (own_block HO.out)
        clear hm o4 ho4 hr5 ho5 hg5 HBK c1 c2
        go_wp2_with (at_builtin; refine wpList_append_run rfl _ _ 22 rfl _ _ _ _ rfl rfl HR5.out ?_)
        have hE5 : Ext w w5 := ((Only.to_ext O4.out HE.out (Nat.le_refl _)).alloc _).grown HG5.out (fun x hx => by have := HBL.out x hx; omega)
        have hZ5 : w.heap.size + 1 ≤ w5.heap.size := by
          have h1 := HG5.out.size
          rw [size_alloc] at h1
          have := HZ.out
          have := O4.out.le
          omega
        have hNX : PrAt w w5 w.heap.size s N (k + 1) v' R := by
          refine ⟨hE5, hZ5, ?_⟩
          have S := HS.out
          have M := HM.out
          cases hr : rbulkS s.data.toList t p with
          | error c =>
            rw [hr] at S M
            obtain ⟨hc, p', t', i', hb'⟩ := M
            exact .inr ⟨c, ⟨hc, _, _, _, (hb'.alloc _).grown HG5.out (fun x hx => by have := HBL.out x hx; omega)⟩, S.symm⟩
          | ok y =>
            rw [hr] at S M
            obtain ⟨rfl, hb'⟩ := M
            have hy := rbulk_pos (by have := HL.out; omega) hr
            have := HL.out
            refine .inl ⟨y.2, t - y.1.size, xs ++ [y.1], by omega, hN6, by have := HXL.out; simp [this], HO5.out, ?_, by omega, by omega, ?_⟩
            · have hT : ((t - y.1.size : Nat) : Int) = (t : Int) - (y.1.size : Int) := by have := hy.1; omega
              rw [hT]
              exact (hb'.alloc _).grown HG5.out (fun x hx => by have := HBL.out x hx; omega)
            · rw [← S]
              exact (map_two _ _ _).symm
        have NX := Lib.hid hNX
        clear hNX hE5 hZ5
        go_roundw
        case rel => exact ⟨k + 1, by go_num, by omega, NX⟩
        case measure => simp [intOf]; omega
      · have d1 : decide ((k : Int) < (N : Int)) = false := decide_eq_false (by omega)
        have d1n : decide (k < N) = false := decide_eq_false hlt
        rw [show N - k = 0 by omega] at hS
        simp only [bulksS, Except.map, List.append_nil] at hS
        have HS := Lib.hid hS
        clear hS ho hb hxl
        go_wp2_with fail
        go_quiet (fail)
        go_wp2_with fail
        go_ret3
        refine ParseE.ok HS.out.symm ⟨_, rfl, ?_, HE.out.trans ((Ext.refl _).drewN nq)⟩
        refine ((texts_of_row HO.out).low fun b o x hb hx => ?_ : TextsFrom (w.heap.size + 1) _ _ _).from_le (by omega)
        exact ((Ext.refl wr).drewN nq).cell hx
    · obtain ⟨hc0, p', t', i', hb⟩ := hc
      have c2 := hb.cell 2
      have e0 : (c == 0) = false := by simpa using hc0
      have e1 : (c != 0) = true := by simpa using hc0
      simp only [List.getElem?_toArray, List.getElem?_cons_zero, List.getElem?_cons_succ] at c2
      have HRC := Lib.hid hRc
      clear hb hc0 hRc
      by_cases hlt : k < N
      · have d1 : decide ((k : Int) < (N : Int)) = true := decide_eq_true (by omega)
        have d1n : decide (k < N) = true := decide_eq_true hlt
        go_wp2_with fail
        go_quiet (fail)
        go_wp2_with fail
        go_ret3
        exact ParseE.err HRC.out rfl (HE.out.trans ((Ext.refl _).drewN nq))
      · have d1 : decide ((k : Int) < (N : Int)) = false := decide_eq_false (by omega)
        have d1n : decide (k < N) = false := decide_eq_false hlt
        go_wp2_with fail
        go_quiet (fail)
        go_wp2_with fail
        go_ret3
        exact ParseE.err HRC.out rfl (HE.out.trans ((Ext.refl _).drewN nq))
end Go.Proofs.YtopdgmchkoaeeaaDoor
