/- Bytes in digits of sixteen. code.List of any program. Numbers as texts in plain words: a text is read as a number just if it is that number's text, whichever of two ways it is read. -/
import Derived.Test.YtfjipoijbmmjcaaGreatDoorYA1
import Derived.Laws.Bits64b
import Derived.Test.YtfjipoijbmmjcaaGreatDoorYA5
import Derived.Test.YtfjipoijbmmjcaaGreatDoorYA9
import Derived.Lib.ParseIntBCases
import Derived.Lib.ItoaLen
namespace Go.Proofs.YtfjipoijbmmjcaaGreatDoor
open Go.RowKit
set_option linter.unusedVariables false
set_option linter.unusedSimpArgs false

structure AppRuns (P : Program) (t ty : TypeId) (v x' : Value) (w : World) (v' : Value) (w' : World) : Prop where
 run : (Builtin.append_ #[t, t] ty #[v, x']).run P w = .ok v' w'
theorem step_append_run {P : Program} {w : World} {ops : Array Oper} {o : Oper} {a : Act} {K : Act → World → Prop} {Q : Exit → Act → World → Prop} {E : Prop} (hgd : o.guard = none) (s x : Operand) (t : TypeId)
  (ho : o.op = .call { callee := .builtin .append, args := #[s, x], argTypes := #[t, t] }) (v x' v' : Value) (w' : World) (hs : a.eval s = v) (hx : a.eval x = x')
  (hrun : AppRuns P t o.type v x' w v' w') (h : K (a.put o.dst v') w') :
  if Region.wanted o (yielded ops a.tmps) = true then Oper.wp P o a w K Q else E := by
 have hw : Region.wanted o (yielded ops a.tmps) = true := by simp [Region.wanted, hgd]
 rw [if_pos hw]
 unfold Oper.wp execOp
 simp only [ho, resolve, invoke, builtin, Sem.run_bind, Sem.run_pure, Result.andThen_ok, List.map_toArray, List.map_cons, List.map_nil, hs, hx, hrun.run]
 exact h
theorem app_at (W : World) (ty : TypeId) (B g : Nat) (v : Value) (l m : List UInt8) (h : OwnB W B v l) (hb : Blk W g 5 (Lib.byteCells m).toArray) (hB : B ≤ W.heap.size) (hlen : l.length + m.length ≤ 140737488355328) :
  ∃ v' w', AppRuns Tryz.prog 46 ty v (.slice (some ⟨g, 0, none⟩) m.length m.length) W v' w' ∧ AppB W B v (l ++ m) w' v' := by
 obtain ⟨i0, hi, hz0, hz1, hz2⟩ := info_parts infoU8
 obtain ⟨v', w', h1, h2, h3, _⟩ := run_append_own (P := Tryz.prog) W B 46 ty 5 i0 (.int .u8 0) 1 1 Tryz.underlying46 hi hz0 hz1 hz2 rfl (by omega) v l.length (Lib.byteCells l) h ⟨g, 0, none⟩ m.length m.length (Lib.byteCells m) (by rw [Lib.byteCells_length]; omega)
  (fun j u hu => by
   have hadd : (⟨g, 0, none⟩ : Addr).add j = ⟨g, 0 + j, none⟩ := by unfold Addr.add; split <;> simp_all
   rw [hadd, hb.cell, Nat.zero_add]
   simpa using hu) (byte_one m) (by unfold maxLen; omega) (by omega) hB
 exact ⟨v', w', ⟨h1⟩, by unfold OwnB; rw [Lib.byteCells_append, List.length_append]; exact h2, h3, own_block h⟩
def hexT : List UInt8 := [48, 49, 50, 51, 52, 53, 54, 55, 56, 57, 97, 98, 99, 100, 101, 102]
def hd (n : Nat) : UInt8 := hexT.getD n 0
def hexL (l : List UInt8) : List UInt8 := l.flatMap fun b => [hd (b.toNat / 16), hd (b.toNat % 16)]
def hexS (l : List UInt8) : List UInt8 := if l = [] then [45] else hexL l
theorem digit_any (n : Nat) (h : n < 16) (w : World) : Calls Tryz.prog 34 #[.int .u8 (n : Int)] w fun e w' => e = .returned (.int .u8 ((hd n).toNat : Int)) ∧ w' = w := by
 have hsz : n < (⟨#[48, 49, 50, 51, 52, 53, 54, 55, 56, 57, 97, 98, 99, 100, 101, 102]⟩ : ByteArray).size := h
 have hc : (⟨#[48, 49, 50, 51, 52, 53, 54, 55, 56, 57, 97, 98, 99, 100, 101, 102]⟩ : ByteArray)[n] = hd n := by
  show (#[48, 49, 50, 51, 52, 53, 54, 55, 56, 57, 97, 98, 99, 100, 101, 102] : Array UInt8)[n] = _
  unfold hd hexT
  rw [List.getD_eq_getElem?_getD, List.getElem?_eq_getElem (by simpa using h)]
  rfl
 have h0 : (0 : Int) ≤ (n : Int) := by omega
 have hI : (n : Int) < 16 := by omega
 go_enter Tryz.func34, Tryz.ntmps34
 go_wp2_with fail
 go_ret
 exact ⟨rfl, rfl⟩
theorem hexL_snoc (l : List UInt8) (j : Nat) (h : j < l.length) : hexL (l.take (j + 1)) = hexL (l.take j) ++ [hd (l[j].toNat / 16), hd (l[j].toNat % 16)] := by
 unfold hexL
 rw [List.take_succ_eq_append_getElem h, List.flatMap_append]
 rfl
theorem hexL_len (l : List UInt8) : (hexL l).length = 2 * l.length := by
 induction l with
 | nil => rfl
 | cons x l ih => simp only [hexL, List.flatMap_cons, List.length_append, List.length_cons, List.length_nil] at *; omega
theorem and15 (c : UInt8) : bits .and .u8 (c.toNat : Int) 15 = ((c.toNat % 16 : Nat) : Int) := by
 have hall : ∀ n : Nat, n < 256 → bits .and .u8 (n : Int) 15 = ((n % 16 : Nat) : Int) := by decide +kernel
 exact hall c.toNat (by have := c.toNat_lt; omega)
set_option maxRecDepth 100000 in
set_option maxHeartbeats 4000000 in
theorem hex_any (s : ByteArray) (hs : s.size ≤ 1048576) (w : World) : Calls Tryz.prog 17 #[.string s] w fun e w' => e = .returned (.string ⟨(hexS s.data.toList).toArray⟩) ∧ Ext w w' := by
 obtain ⟨m, hm⟩ : ∃ m, s.size = m := ⟨_, rfl⟩
 have hlen : s.data.toList.length = m := by rw [← hm]; rfl
 by_cases h0 : m = 0
 ·have hn : s.data.toList = [] := List.eq_nil_of_length_eq_zero (hlen.trans h0)
  have hz : s.toList = [] := by rw [Lib.toList_data]; exact hn
  have hz2 : s.toList.isEmpty = true := by rw [hz]; rfl
  rw [hn]
  go_enter Tryz.func17, Tryz.ntmps17
  go_wp2_with fail
  go_ret
  exact ⟨rfl, Ext.refl _⟩
 have hz : ¬ s.toList = [] := by rw [Lib.toList_data]; intro h; exact h0 (by rw [← hlen, h]; rfl)
 have hz2 : s.toList.isEmpty = false := by simpa using hz
 have hS : hexS s.data.toList = hexL s.data.toList := by
  unfold hexS
  rw [if_neg (by rw [← Lib.toList_data]; exact hz)]
 rw [hS]
 rw [hm] at hs
 have HLL := Lib.hid hlen
 have hmI : (m : Int) ≤ 1048576 := by omega
 clear hS hlen
 go_enter Tryz.func17, Tryz.ntmps17
 go_wp2_with fail
 go_loopw [3, 9] (fun s3 s9 wr => ∃ j : Nat, s9 = .int .i64 (j : Int) ∧ j ≤ m ∧ Hid (OwnB wr w.heap.size s3 (hexL (s.data.toList.take j))) ∧ Hid (Ext w wr)) (fun _ s9 _ => m - (intOf s9).toNat)
 case atStart => exact ⟨0, rfl, Nat.zero_le _, Lib.hid (OwnB.nil _ _), Lib.hid (Ext.refl _)⟩
 case round =>
  obtain ⟨j, rfl, hj, HO, HE⟩ := hrel
  obtain ⟨q0, k0, rfl⟩ := HO.out.slice
  have hj0 : (0 : Int) ≤ (j : Int) := by omega
  by_cases hlt : j < m
  ·have hd1 : decide ((j : Int) < (m : Int)) = true := decide_eq_true (by omega)
   have hd2 : decide (j < m) = true := decide_eq_true hlt
   have hltI : (j : Int) < (m : Int) := by omega
   have hjs : j < s.size := by omega
   have hjl : j < s.data.toList.length := by have := HLL.out; omega
   have HT := Lib.hid (hexL_snoc s.data.toList j hjl)
   have hcc : s.data.toList[j] = s[j]'hjs := rfl
   rw [hcc] at HT
   obtain ⟨c, hc⟩ : ∃ c, s[j]'hjs = c := ⟨_, rfl⟩
   rw [hc] at HT
   clear hcc hjl
   go_wp2_with fail
   have D1 := Lib.hid (fun (W : World) => (show Calls Tryz.prog 34 #[.int .u8 ((c.toNat : Int) / 16)] W _ from digit_any (c.toNat / 16) (by have := c.toNat_lt; omega) W))
   obtain ⟨x1, hx1⟩ : ∃ x, hd (c.toNat / 16) = x := ⟨_, rfl⟩
   rw [hx1] at D1 HT
   clear hx1
   have D2 := Lib.hid (fun (W : World) => (show Calls Tryz.prog 34 #[.int .u8 (bits .and .u8 (c.toNat : Int) 15)] W _ from by rw [and15]; exact digit_any (c.toNat % 16) (by omega) W))
   obtain ⟨x2, hx2⟩ : ∃ x, hd (c.toNat % 16) = x := ⟨_, rfl⟩
   rw [hx2] at D2 HT
   clear hx2
   have HSL : Hid ((hexL (s.data.toList.take j)).length = 2 * j) := Lib.hid (by rw [hexL_len, List.length_take]; have := HLL.out; omega)
   have EA := Lib.hid (((Ext.refl wr).alloc (.cells #[.int .u8 x1.toNat, .int .u8 x2.toNat] 5)).drew)
   obtain ⟨v', w2, hrun, happ⟩ := app_at (wr.alloc (.cells #[.int .u8 x1.toNat, .int .u8 x2.toNat] 5)).drew 46 w.heap.size wr.heap.size _ _ [x1, x2] (HO.out.ext EA.out) (Blk.new wr _ _).drew (Nat.le_trans HE.out.le EA.out.le) (by rw [HSL.out]; simp; omega)
   have E2 := Lib.hid (happ.ext (HE.out.trans EA.out) (Nat.le_refl _))
   have HA2 := Lib.hid happ.own
   have HRUN := Lib.hid hrun
   clear happ hrun
   go_region_held3 (fun w' => True) (trivial)
    (first
     | (go_at_call 34; with_reducible refine Calls.mono (D1.out _) ?_; rintro e w1 ⟨rfl, rfl⟩)
     | (go_at_call 34; with_reducible refine Calls.mono (D2.out _) ?_; rintro e w1 ⟨rfl, rfl⟩)
     | (refine step_append_run rfl _ _ 46 rfl _ _ _ _ rfl rfl HRUN.out ?_))
   all_goals go_wp2_with fail
   all_goals (
    go_roundw
    case rel => exact ⟨j + 1, by go_num, by omega, Lib.hid (by rw [HT.out]; exact HA2.out), E2⟩
    case measure => simp [intOf]; omega)
  ·obtain rfl : j = m := by omega
   have hd1 : decide ((j : Int) < (j : Int)) = false := decide_eq_false (by omega)
   have hd2 : decide (j < j) = false := decide_eq_false (by omega)
   have hcv := HO.out.conv
   have HTK : Hid (s.data.toList.take j = s.data.toList) := Lib.hid (List.take_of_length_le (by have := HLL.out; omega))
   go_wp2_with fail
   go_ret
   exact ⟨by rw [HTK.out]; rfl, HE.out⟩
theorem hd_at (n : Nat) (h : n < (⟨#[48, 49, 50, 51, 52, 53, 54, 55, 56, 57, 97, 98, 99, 100, 101, 102]⟩ : ByteArray).size) : (⟨#[48, 49, 50, 51, 52, 53, 54, 55, 56, 57, 97, 98, 99, 100, 101, 102]⟩ : ByteArray)[n]'h = hd n := by
 have h' : n < 16 := h
 show (#[48, 49, 50, 51, 52, 53, 54, 55, 56, 57, 97, 98, 99, 100, 101, 102] : Array UInt8)[n]'h = _
 unfold hd hexT
 rw [List.getD_eq_getElem?_getD, List.getElem?_eq_getElem (by simpa using h')]
 rfl
set_option maxRecDepth 100000 in
set_option maxHeartbeats 4000000 in
theorem rhex_any (s : ByteArray) (hs : s.size ≤ 1048576) (w : World) : Calls Tryz.prog 26 #[.string s] w fun e w' => e = .returned (.string ⟨(hexS s.data.toList).toArray⟩) ∧ Ext w w' := by
 obtain ⟨m, hm⟩ : ∃ m, s.size = m := ⟨_, rfl⟩
 have hlen : s.data.toList.length = m := by rw [← hm]; rfl
 by_cases h0 : m = 0
 ·have hn : s.data.toList = [] := List.eq_nil_of_length_eq_zero (hlen.trans h0)
  have hz : s.toList = [] := by rw [Lib.toList_data]; exact hn
  have hz2 : s.toList.isEmpty = true := by rw [hz]; rfl
  rw [hn]
  go_enter Tryz.func26, Tryz.ntmps26
  go_wp2_with fail
  go_ret
  exact ⟨rfl, Ext.refl _⟩
 have hz : ¬ s.toList = [] := by rw [Lib.toList_data]; intro h; exact h0 (by rw [← hlen, h]; rfl)
 have hz2 : s.toList.isEmpty = false := by simpa using hz
 have hS : hexS s.data.toList = hexL s.data.toList := by
  unfold hexS
  rw [if_neg (by rw [← Lib.toList_data]; exact hz)]
 rw [hS]
 rw [hm] at hs
 have HLL := Lib.hid hlen
 have hmI : (m : Int) ≤ 1048576 := by omega
 clear hS hlen
 go_enter Tryz.func26, Tryz.ntmps26
 go_wp2_with fail
 go_loopw [3, 4] (fun s3 s9 wr => ∃ j : Nat, s9 = .int .i64 (j : Int) ∧ j ≤ m ∧ Hid (OwnB wr w.heap.size s3 (hexL (s.data.toList.take j))) ∧ Hid (Ext w wr)) (fun _ s9 _ => m - (intOf s9).toNat)
 case atStart => exact ⟨0, rfl, Nat.zero_le _, Lib.hid (OwnB.nil _ _), Lib.hid (Ext.refl _)⟩
 case round =>
  obtain ⟨j, rfl, hj, HO, HE⟩ := hrel
  obtain ⟨q0, k0, rfl⟩ := HO.out.slice
  have hj0 : (0 : Int) ≤ (j : Int) := by omega
  by_cases hlt : j < m
  ·have hd1 : decide ((j : Int) < (m : Int)) = true := decide_eq_true (by omega)
   have hd2 : decide (j < m) = true := decide_eq_true hlt
   have hltI : (j : Int) < (m : Int) := by omega
   have hjs : j < s.size := by omega
   have hjl : j < s.data.toList.length := by have := HLL.out; omega
   have HT := Lib.hid (hexL_snoc s.data.toList j hjl)
   have hcc : s.data.toList[j] = s[j]'hjs := rfl
   rw [hcc] at HT
   obtain ⟨c, hc⟩ : ∃ c, s[j]'hjs = c := ⟨_, rfl⟩
   rw [hc] at HT
   clear hcc hjl
   go_wp2_with fail
   have hc256 : c.toNat < 256 := by have := c.toNat_lt; omega
   obtain ⟨na, hna⟩ : ∃ n, c.toNat / 16 = n := ⟨_, rfl⟩
   obtain ⟨nb, hnb⟩ : ∃ n, c.toNat % 16 = n := ⟨_, rfl⟩
   have hqa : (c.toNat : Int) / 16 = (na : Int) := by omega
   have hqb : (c.toNat : Int) % 16 = (nb : Int) := by omega
   have hqt : Int.tdiv (c.toNat : Int) 16 = (na : Int) := by rw [Int.tdiv_eq_ediv_of_nonneg (by omega)]; exact hqa
   have hqm : Int.tmod (c.toNat : Int) 16 = (nb : Int) := by rw [Int.tmod_eq_emod_of_nonneg (by omega)]; exact hqb
   have h17 : na < (⟨#[48, 49, 50, 51, 52, 53, 54, 55, 56, 57, 97, 98, 99, 100, 101, 102]⟩ : ByteArray).size := by show na < 16; omega
   have h18 : nb < (⟨#[48, 49, 50, 51, 52, 53, 54, 55, 56, 57, 97, 98, 99, 100, 101, 102]⟩ : ByteArray).size := by show nb < 16; omega
   have k17 := hd_at _ h17
   have k18 := hd_at _ h18
   have i17 : (na : Int) < 16 := by omega
   have i18 : (nb : Int) < 16 := by omega
   have j17 : (0 : Int) ≤ (na : Int) := by omega
   have j18 : (0 : Int) ≤ (nb : Int) := by omega
   have w17 : IntKind.u8.wrap (na : Int) = (na : Int) := by rw [IntKind.wrap_u8]; omega
   have w18 : IntKind.u8.wrap (nb : Int) = (nb : Int) := by rw [IntKind.wrap_u8]; omega
   rw [hna, hnb] at HT
   obtain ⟨x1, hx1⟩ : ∃ x, hd na = x := ⟨_, rfl⟩
   obtain ⟨x2, hx2⟩ : ∃ x, hd nb = x := ⟨_, rfl⟩
   rw [hx1] at HT k17
   rw [hx2] at HT k18
   clear hx1 hx2 hna hnb
   have HSL : Hid ((hexL (s.data.toList.take j)).length = 2 * j) := Lib.hid (by rw [hexL_len, List.length_take]; have := HLL.out; omega)
   have EA := Lib.hid (((Ext.refl wr).alloc (.cells #[.int .u8 x1.toNat, .int .u8 x2.toNat] 5)).drew)
   obtain ⟨v', w2, hrun, happ⟩ := app_at (wr.alloc (.cells #[.int .u8 x1.toNat, .int .u8 x2.toNat] 5)).drew 46 w.heap.size wr.heap.size _ _ [x1, x2] (HO.out.ext EA.out) (Blk.new wr _ _).drew (Nat.le_trans HE.out.le EA.out.le) (by rw [HSL.out]; simp; omega)
   have E2 := Lib.hid (happ.ext (HE.out.trans EA.out) (Nat.le_refl _))
   have HA2 := Lib.hid happ.own
   have HRUN := Lib.hid hrun
   clear happ hrun
   go_region_held3 (fun w' => True) (trivial)
    (first
     | (refine step_append_run rfl _ _ 46 rfl _ _ _ _ rfl rfl HRUN.out ?_))
   all_goals go_wp2_with fail
   all_goals (
    go_roundw
    case rel => exact ⟨j + 1, by go_num, by omega, Lib.hid (by rw [HT.out]; exact HA2.out), E2⟩
    case measure => simp [intOf]; omega)
  ·obtain rfl : j = m := by omega
   have hd1 : decide ((j : Int) < (j : Int)) = false := decide_eq_false (by omega)
   have hd2 : decide (j < j) = false := decide_eq_false (by omega)
   have hcv := HO.out.conv
   have HTK : Hid (s.data.toList.take j = s.data.toList) := Lib.hid (List.take_of_length_le (by have := HLL.out; omega))
   go_wp2_with fail
   go_ret
   exact ⟨by rw [HTK.out]; rfl, HE.out⟩
end Go.Proofs.YtfjipoijbmmjcaaGreatDoor
namespace Go.Proofs.YtfjipoijbmmjcaaGreatDoor
open Go.RowKit
set_option linter.unusedVariables false
set_option linter.unusedSimpArgs false

def sInt : ByteArray := ⟨#[105, 110, 116, 32]⟩
def sText : ByteArray := ⟨#[116, 101, 120, 116, 32]⟩
def sNl : ByteArray := ⟨#[10]⟩
def intL (n : Int) : List UInt8 := (sInt ++ itS n ++ sNl).data.toList
def textL (s : ByteArray) : List UInt8 := (sText ++ (⟨(hexS s.data.toList).toArray⟩ : ByteArray) ++ sNl).data.toList
def pgOf (p : Pf) : Pg := ⟨p.ps, p.is.length, p.ts⟩
def listL (p : Pf) : List UInt8 := p.ps.flatMap protoL ++ p.is.flatMap intL ++ p.ts.flatMap textL
theorem lies_of {w : World} {vp vi vt : Value} {p : Pf} (h : PfAt w vp vi vt p) : Lies w vp vi vt (pgOf p) := by
 obtain ⟨q, c, e, _⟩ := h.is
 exact ⟨h.ps, ⟨q, c, e⟩, h.ts⟩
theorem intL_len {n : Int} (h : i64 n) : (intL n).length ≤ 30 := by
 have := its_len h
 show ((sInt ++ itS n) ++ sNl).data.toList.length ≤ 30
 rw [ByteArray.data_append, ByteArray.data_append]
 simp only [Array.toList_append, List.length_append]
 have h1 : sInt.data.toList.length = 4 := rfl
 have h2 : sNl.data.toList.length = 1 := rfl
 omega
theorem hexS_len (l : List UInt8) : (hexS l).length ≤ 2 * l.length + 1 := by
 unfold hexS
 split
 ·simp
 ·rw [hexL_len]; omega
theorem textL_len {s : ByteArray} (h : s.size ≤ 1048576) : (textL s).length ≤ 2097160 := by
 have := hexS_len s.data.toList
 have h0 : s.data.toList.length = s.size := rfl
 show ((sText ++ (⟨(hexS s.data.toList).toArray⟩ : ByteArray)) ++ sNl).data.toList.length ≤ _
 rw [ByteArray.data_append, ByteArray.data_append]
 simp only [Array.toList_append, List.length_append]
 have h1 : sText.data.toList.length = 5 := rfl
 have h2 : sNl.data.toList.length = 1 := rfl
 omega
theorem proto_len' {f : Pr} (h : PrW f) (hn : f.cd.length ≤ 1000) : (protoL f).length ≤ 101 + 1000 * 101 := by
 have := fm_le insL 101 f.cd (fun i hi => ins_len (h.cd i hi))
 have := head_len h
 have : f.cd.length * 101 ≤ 1000 * 101 := Nat.mul_le_mul_right _ hn
 simp only [protoL, List.length_append]
 omega
theorem fmt_any (n : Int) (w : World) (ht : Pow w) (h : i64 n) : Calls Tryz.prog 16 #[.int .i64 n, .int .i64 10] w fun e w' => e = .returned (.string (itS n)) ∧ Ext w w' := by
 refine (Tryz.strconv_FormatInt_10 n h.1 h.2 w ht).mono ?_
 rintro e w' ⟨rfl, k, os, rfl⟩
 exact ⟨rfl, (Ext.refl w).grow k os⟩
theorem list_no (p : Pf) (vp vi vt : Value) (w : World) (hp : PfAt w vp vi vt p) (hs : Few (pgOf p)) (hz : ∀ s ∈ p.ts, s.size ≤ 9223372036854775807) (hk : chkP (pgOf p) = false) :
  Calls Tryz.prog 7 #[.agg #[vp, vi, vt]] w fun e w' => e = .returned (.tuple #[.string ⟨#[]⟩, .int .i64 2]) ∧ Ext w w' := by
 have cK := fun W (hE : Ext w W) => chk_any (pgOf p) vp vi vt W ((lies_of hp).ext hE) hs hz
 rw [hk] at cK
 obtain ⟨q1, c1, rfl, _⟩ := hp.ps
 obtain ⟨q2, c2, rfl, _⟩ := hp.is
 obtain ⟨q3, c3, rfl, _⟩ := hp.ts
 clear hk hp
 obtain ⟨n1, h1⟩ : ∃ n, p.ps.length = n := ⟨_, rfl⟩
 obtain ⟨n2, h2⟩ : ∃ n, p.is.length = n := ⟨_, rfl⟩
 obtain ⟨n3, h3⟩ : ∃ n, p.ts.length = n := ⟨_, rfl⟩
 rw [h1, h2, h3] at cK ⊢
 clear h1 h2 h3
 go_enter Tryz.func7, Tryz.ntmps7
 go_wp2_with fail
 refine (cK _ ((Ext.refl w).alloc _)).mono ?_
 rintro e w1 ⟨rfl, e1⟩
 have k1 := Lib.hid (((Ext.refl w).alloc _).trans e1)
 clear e1
 go_wp2_with fail
 go_ret2
 exact ⟨rfl, k1.out⟩
set_option maxRecDepth 100000 in
set_option maxHeartbeats 8000000 in
theorem list_all (p : Pf) (vp vi vt : Value) (w : World) (ht : Pow w) (hp : PfAt w vp vi vt p) (hs : Few (pgOf p)) (hw : ∀ f ∈ p.ps, PrW f) (h64 : ∀ n ∈ p.is, i64 n) (hz : ∀ s ∈ p.ts, s.size ≤ 1048576) (hk : chkP (pgOf p) = true) :
  Calls Tryz.prog 7 #[.agg #[vp, vi, vt]] w fun e w' => e = .returned (.tuple #[.string ⟨(listL p).toArray⟩, .int .i64 0]) ∧ Ext w w' := by
 have cK := fun W (hE : Ext w W) => chk_any (pgOf p) vp vi vt W ((lies_of hp).ext hE) hs (fun s h => Nat.le_trans (hz s h) (by omega))
 rw [hk] at cK
 have hpos : 0 < p.ps.length := by
  rcases Nat.eq_zero_or_pos p.ps.length with h | h
  ·have h1 : (pgOf p).ps = [] := List.eq_nil_of_length_eq_zero h
   unfold chkP chkB at hk
   rw [h1] at hk
   simp at hk
  ·exact h
 obtain ⟨qp, cp, rfl, hx0⟩ := hp.ps
 obtain ⟨pb, po, rfl, hx⟩ := hx0 hpos
 clear hx0
 obtain ⟨qi, ci, rfl, hyi⟩ := hp.is
 obtain ⟨qt, ct, rfl, hyt⟩ := hp.ts
 have HYI := Lib.hid hyi
 have HYT := Lib.hid hyt
 obtain ⟨n, hn⟩ : ∃ n, p.ps.length = n := ⟨_, rfl⟩
 have n2 : n ≤ 1000 := by rw [← hn]; exact hs.np
 obtain ⟨ni, hni⟩ : ∃ n, p.is.length = n := ⟨_, rfl⟩
 have ni2 : ni ≤ 1000 := by rw [← hni]; exact hs.ni
 obtain ⟨nt, hnt⟩ : ∃ n, p.ts.length = n := ⟨_, rfl⟩
 have nt2 : nt ≤ 1000 := by rw [← hnt]; exact hs.nt
 have HX := Lib.hid hx
 rw [hn, hni, hnt] at cK ⊢
 have HN := Lib.hid hn
 have HNI := Lib.hid hni
 have HNT := Lib.hid hnt
 have HZ := Lib.hid hz
 have H64 := Lib.hid h64
 have hwp : ∀ f ∈ p.ps, PrW f := hw
 have hnc : ∀ f ∈ p.ps, f.cd.length ≤ 1000 := hs.nc
 obtain ⟨ps, hps⟩ : ∃ ps, p.ps = ps := ⟨_, rfl⟩
 clear hn hx hk hni hnt hyi hyt hz h64 hp hs hpos hps
 go_enter Tryz.func7, Tryz.ntmps7
 go_wp2_with fail
 refine (cK _ ((Ext.refl w).alloc _)).mono ?_
 rintro e w1 ⟨rfl, e1⟩
 have hb1 : Blk w1 w.heap.size 26 #[.slice (some ⟨pb, po, none⟩) n cp, .slice qi ni ci, .slice qt nt ct] := (Blk.new w _ _).ext e1
 have k1 : Ext w w1 := ((Ext.refl w).alloc _).trans e1
 have b0 := hb1.cell 0
 have b1 := hb1.cell 1
 have b2 := hb1.cell 2
 simp only [List.getElem?_toArray, List.getElem?_cons_zero, List.getElem?_cons_succ] at b0 b1 b2
 have l1 := hb1.lt
 have HB1 := Lib.hid hb1
 have HK1 := Lib.hid k1
 clear cK e1 hb1 k1
 go_wp2_with fail
 have HBL : Hid (Lib.IsBuilder 48 5 w.heap.size w1.heap.size (Lib.byteCells []) (w1.alloc (.cells #[.pointer none, .slice none 0 0] 48))) :=
  .inl ⟨HK1.out.le, .slice none 0 0, Blk.new _ _ _, World.ownsRow_nil _ _ _ _, by simp [Value.ownBlock]⟩
 clear b0 b1 b2
 go_loopg [19] n (fun g s19 wr => ∃ (k : Nat), k + g = n ∧ s19 = .int .i64 k ∧ Ext w wr ∧ Blk wr w.heap.size 26 #[.slice (some ⟨pb, po, none⟩) n cp, .slice qi ni ci, .slice qt nt ct] ∧ Hid (Lib.IsBuilder 48 5 w.heap.size w1.heap.size (Lib.byteCells ((p.ps.take k).flatMap protoL)) wr))
 case atStart => exact ⟨0, by omega, rfl, HK1.out.alloc _, HB1.out.alloc _, HBL⟩
 case round =>
  obtain ⟨k, hkg, rfl, he, hbk, HB⟩ := hrel
  cases gk with
  | zero =>
   obtain rfl : k = n := by omega
   have hkz : ¬ ((k : Int) < (k : Int)) := by omega
   have b1 := hbk.cell 1
   have b2 := hbk.cell 2
   simp only [List.getElem?_toArray, List.getElem?_cons_zero, List.getElem?_cons_succ] at b1 b2
   have HE := Lib.hid he
   clear he
   have HL : Hid (Lib.IsBuilder 48 5 w.heap.size w1.heap.size (Lib.byteCells (p.ps.flatMap protoL)) wr) := by
    have := HB.out
    rw [List.take_of_length_le (by rw [HN.out]; exact Nat.le_refl _)] at this
    exact this
   have HBK := Lib.hid hbk
   obtain ⟨A, hA⟩ : ∃ A, p.ps.flatMap protoL = A := ⟨_, rfl⟩
   have hAl : A.length ≤ 1000 * (101 + 1000 * 101) := by
    rw [← hA]
    refine Nat.le_trans (fm_le protoL (101 + 1000 * 101) p.ps (fun f hf => proto_len' (hw f hf) (hnc f hf))) (Nat.mul_le_mul_right _ ?_)
    rw [HN.out]; exact n2
   rw [hA] at HL
   have HA := Lib.hid hA
   have HAL := Lib.hid hAl
   clear hbk hA hAl
   go_wp2_with fail
   clear b1 b2
   obtain ⟨wb, rfl⟩ : ∃ wb : World, wb = wr := ⟨_, rfl⟩
   go_loopg [53] ni (fun g s wx => ∃ j : Nat, j + g = ni ∧ s = .int .i64 j ∧ Hid (Ext w wx) ∧ Hid (Blk wx w.heap.size 26 #[.slice (some ⟨pb, po, none⟩) k cp, .slice qi ni ci, .slice qt nt ct]) ∧ Hid (Lib.IsBuilder 48 5 w.heap.size w1.heap.size (Lib.byteCells (A ++ (p.is.take j).flatMap intL)) wx))
   case atStart => exact ⟨0, by omega, rfl, HE, HBK, by simpa using HL⟩
   case round =>
    obtain ⟨j, hjg, rfl, HEj, HBj, HLj⟩ := hrel
    clear HE HBK HL
    cases gk with
    | zero =>
     obtain rfl : j = ni := by omega
     have hjz : ¬ ((j : Int) < (j : Int)) := by omega
     have b2 := HBj.out.cell 2
     have hbl := HBj.out.lt
     simp only [List.getElem?_toArray, List.getElem?_cons_zero, List.getElem?_cons_succ] at b2
     have HL2 : Hid (Lib.IsBuilder 48 5 w.heap.size w1.heap.size (Lib.byteCells (A ++ p.is.flatMap intL)) wr) := by
      have := HLj.out
      rw [List.take_of_length_le (by rw [HNI.out]; exact Nat.le_refl _)] at this
      exact Lib.hid this
     obtain ⟨C, hC⟩ : ∃ C, A ++ p.is.flatMap intL = C := ⟨_, rfl⟩
     have hCl : C.length ≤ 1000 * (101 + 1000 * 101) + 1000 * 30 := by
      rw [← hC, List.length_append]
      have h1 := HAL.out
      have h2 := fm_le intL 30 p.is (fun n hn => intL_len (H64.out n hn))
      rw [HNI.out] at h2
      omega
     rw [hC] at HL2
     have HC := Lib.hid hC
     have HCL := Lib.hid hCl
     clear hC hCl HLj
     go_wp2_with fail
     clear b2 hbl
     obtain ⟨wc, rfl⟩ : ∃ wc : World, wc = wr := ⟨_, rfl⟩
     go_loopg [66] nt (fun g s wx => ∃ j : Nat, j + g = nt ∧ s = .int .i64 j ∧ Hid (Ext w wx) ∧ Hid (Lib.IsBuilder 48 5 w.heap.size w1.heap.size (Lib.byteCells (C ++ (p.ts.take j).flatMap textL)) wx))
     case atStart => exact ⟨0, by omega, rfl, HEj, by simpa using HL2⟩
     case round =>
      obtain ⟨y, hyg, rfl, HEy, HLy⟩ := hrel
      clear HEj HBj HL2
      cases gk with
      | zero =>
       obtain rfl : y = nt := by omega
       have hyz : ¬ ((y : Int) < (y : Int)) := by omega
       have HF : Hid (Lib.IsBuilder 48 5 w.heap.size w1.heap.size (Lib.byteCells (listL p)) wr) := by
        have := HLy.out
        rw [List.take_of_length_le (by rw [HNT.out]; exact Nat.le_refl _), ← HC.out, ← HA.out] at this
        exact Lib.hid this
       clear HLy
       go_wp2_with fail
       refine (Tryz.Builder_String_any w.heap.size w1.heap.size (listL p) _ HF.out HEy.out.le).mono ?_
       rintro e w9 ⟨rfl, e9⟩
       have HE9 : Hid (Ext w w9) := Below.trans HEy.out e9
       clear e9
       go_wp2_with fail
       go_ret2
       exact ⟨rfl, HE9.out⟩
      | succ g =>
       have hyz : (y : Int) < (nt : Int) := by omega
       have hyl : y < p.ts.length := by rw [HNT.out]; omega
       obtain ⟨tb, to_, rfl, hcell⟩ := HYT.out (by omega)
       have c0 := HEy.out.cell (hcell y hyl)
       have hsz := HZ.out _ (List.getElem_mem hyl)
       have HS := Lib.hid (fm_snoc textL p.ts y hyl)
       have hle := fm_le textL 2097160 (p.ts.take y) (fun s hs => textL_len (HZ.out s (List.mem_of_mem_take hs)))
       have hle2 : ((p.ts.take y).flatMap textL).length ≤ 1000 * 2097160 := by
        refine Nat.le_trans hle (Nat.mul_le_mul_right _ ?_)
        have := List.length_take_le y p.ts
        omega
       obtain ⟨s0, hs0⟩ : ∃ s, p.ts[y] = s := ⟨_, rfl⟩
       rw [hs0] at c0 hsz HS
       obtain ⟨zs, hzs⟩ : ∃ zs, (p.ts.take y).flatMap textL = zs := ⟨_, rfl⟩
       rw [hzs] at HS HLy hle2
       have lb := cell_lt c0
       simp only at lb
       have htl := textL_len hsz
       have HTL := Lib.hid htl
       have hh1 : (hexS s0.data.toList).length ≤ 2097153 := by have := hexS_len s0.data.toList; have h9 : s0.data.toList.length = s0.size := rfl; omega
       have hh2 : (⟨(hexS s0.data.toList).toArray⟩ : ByteArray).size ≤ 2097153 := hh1
       have HLE := Lib.hid hle2
       have HSZ := Lib.hid hsz
       clear hcell hs0 hzs hle hyl htl hle2 hsz
       go_wp2_with fail
       refine (hex_any s0 HSZ.out _).mono ?_
       rintro e w4 ⟨rfl, e4⟩
       have E4 := Lib.hid e4
       clear e4
       go_wp2_with fail
       refine (show Calls Tryz.prog 14 #[.pointer (some ⟨w1.heap.size, 0, none⟩), .string (sText ++ (⟨(hexS s0.data.toList).toArray⟩ : ByteArray) ++ sNl)] _ _ from bwrite_any w.heap.size w1.heap.size _ (sText ++ (⟨(hexS s0.data.toList).toArray⟩ : ByteArray) ++ sNl) _ (Bld.ext HLy.out E4.out) (by
        have h1 := HTL.out
        have h2 := HCL.out
        have h3 := HLE.out
        rw [Lib.byteCells_length, List.length_append]
        have h4 : (textL s0).length = (sText ++ (⟨(hexS s0.data.toList).toArray⟩ : ByteArray) ++ sNl).size := rfl
        omega) (HEy.out.trans E4.out).le).mono ?_
       rintro e w5 ⟨rfl, B5, e5, K5⟩
       have HB5 : Hid (Lib.IsBuilder 48 5 w.heap.size w1.heap.size (Lib.byteCells (C ++ (p.ts.take (y + 1)).flatMap textL)) w5) := by
        have e : Lib.byteCells (C ++ (p.ts.take (y + 1)).flatMap textL) = Lib.byteCells (C ++ zs) ++ Lib.strCells (sText ++ (⟨(hexS s0.data.toList).toArray⟩ : ByteArray) ++ sNl) := by rw [HS.out]; simp [Lib.byteCells, Lib.strCells, textL]
        rw [e]; exact .inr B5
       have HE5 := Lib.hid (show Ext w w5 from Below.trans (HEy.out.trans E4.out) e5)
       clear B5 e5 K5 c0 lb
       go_wp2_with fail
       go_roundg g
       case rel => exact ⟨y + 1, by omega, by go_num, HE5, HB5⟩
       case measure => exact Nat.lt_succ_self _
    | succ g =>
     have hjz : (j : Int) < (ni : Int) := by omega
     have hjl : j < p.is.length := by rw [HNI.out]; omega
     obtain ⟨ib, io, rfl, hcell⟩ := HYI.out (by omega)
     have c0 := HEj.out.cell (hcell j hjl)
     have h6 := H64.out _ (List.getElem_mem hjl)
     have HS := Lib.hid (fm_snoc intL p.is j hjl)
     have hle := fm_le intL 30 (p.is.take j) (fun s hs => intL_len (H64.out s (List.mem_of_mem_take hs)))
     have hle2 : ((p.is.take j).flatMap intL).length ≤ 1000 * 30 := by
      refine Nat.le_trans hle (Nat.mul_le_mul_right _ ?_)
      have := List.length_take_le j p.is
      omega
     obtain ⟨x0, hx0⟩ : ∃ s, p.is[j] = s := ⟨_, rfl⟩
     rw [hx0] at c0 h6 HS
     obtain ⟨zs, hzs⟩ : ∃ zs, (p.is.take j).flatMap intL = zs := ⟨_, rfl⟩
     rw [hzs] at HS HLj hle2
     have lb := cell_lt c0
     simp only at lb
     have HTL := Lib.hid (intL_len h6)
     have hh1 : (itS x0).size ≤ 21 := its_len h6
     have hh2 : (itS x0).data.size ≤ 21 := its_len h6
     have HLE := Lib.hid hle2
     have H6 := Lib.hid h6
     clear hcell hx0 hzs hle hjl hle2 h6
     go_wp2_with fail
     refine (fmt_any x0 _ (ht.ext HEj.out) H6.out).mono ?_
     rintro e w4 ⟨rfl, e4⟩
     have E4 := Lib.hid e4
     clear e4
     go_wp2_with fail
     refine (show Calls Tryz.prog 14 #[.pointer (some ⟨w1.heap.size, 0, none⟩), .string (sInt ++ itS x0 ++ sNl)] _ _ from bwrite_any w.heap.size w1.heap.size _ (sInt ++ itS x0 ++ sNl) _ (Bld.ext HLj.out E4.out) (by
      have h1 := HTL.out
      have h2 := HAL.out
      have h3 := HLE.out
      rw [Lib.byteCells_length, List.length_append]
      have h4 : (intL x0).length = (sInt ++ itS x0 ++ sNl).size := rfl
      omega) (HEj.out.trans E4.out).le).mono ?_
     rintro e w5 ⟨rfl, B5, e5, K5⟩
     have HB5 : Hid (Lib.IsBuilder 48 5 w.heap.size w1.heap.size (Lib.byteCells (A ++ (p.is.take (j + 1)).flatMap intL)) w5) := by
      have e : Lib.byteCells (A ++ (p.is.take (j + 1)).flatMap intL) = Lib.byteCells (A ++ zs) ++ Lib.strCells (sInt ++ itS x0 ++ sNl) := by rw [HS.out]; simp [Lib.byteCells, Lib.strCells, intL]
      rw [e]; exact .inr B5
     have HE5 := Lib.hid (show Ext w w5 from Below.trans (HEj.out.trans E4.out) e5)
     have HBK5 := Lib.hid (K5 _ _ _ (HBj.out.ext E4.out) (by decide) (by decide))
     clear B5 e5 K5 c0 lb
     go_wp2_with fail
     go_roundg g
     case rel => exact ⟨j + 1, by omega, by go_num, HE5, HBK5, HB5⟩
     case measure => exact Nat.lt_succ_self _
  | succ g =>
   have hkz : (k : Int) < (n : Int) := by omega
   have hkn : k < n := by omega
   have hkl : k < p.ps.length := by rw [HN.out]; exact hkn
   obtain ⟨q1, cc, c1, c2, c3, c4⟩ := proto_at HX.out k hkl
   have hpw := hw _ (List.getElem_mem hkl)
   have hln := hnc _ (List.getElem_mem hkl)
   have HS := Lib.hid (fm_snoc protoL p.ps k hkl)
   have hle0 := fm_le protoL (101 + 1000 * 101) (p.ps.take k) (fun f hf => proto_len' (hw f (List.mem_of_mem_take hf)) (hnc f (List.mem_of_mem_take hf)))
   have hle : ((p.ps.take k).flatMap protoL).length ≤ 1000 * (101 + 1000 * 101) := by
    refine Nat.le_trans hle0 (Nat.mul_le_mul_right _ ?_)
    have := List.length_take_le k p.ps
    omega
   clear hle0
   obtain ⟨f0, hf0⟩ : ∃ f, p.ps[k] = f := ⟨_, rfl⟩
   rw [hf0] at c1 c2 c3 c4 hpw hln HS
   obtain ⟨bs, hbs⟩ : ∃ bs, (p.ps.take k).flatMap protoL = bs := ⟨_, rfl⟩
   rw [hbs] at HB HS hle
   clear hf0 hkl hbs
   replace c1 := he.cell c1
   replace c2 := he.cell c2
   replace c3 := he.cell c3
   have C4 := Lib.hid c4
   have HE := Lib.hid he
   have HBK := Lib.hid hbk
   have lb := cell_lt c1
   simp only at lb
   clear c4 he hbk
   go_wp2_with fail
   have cL := line_word sFunc (by decide) [f0.pa, f0.rg] _ _ (ht.ext ((HE.out.alloc (.cells #[.int .i64 f0.pa, .int .i64 f0.rg, .slice q1 f0.cd.length cc] 39)).alloc (.cells #[.int .i64 f0.pa, .int .i64 f0.rg] 3))) (nums_new (wr.alloc (.cells #[.int .i64 f0.pa, .int .i64 f0.rg, .slice q1 f0.cd.length cc] 39)) 3 [f0.pa, f0.rg] (wr.heap.size + 1) (size_alloc _ _).symm) (by simp) (by intro x hx; simp at hx; rcases hx with rfl | rfl; exact hpw.pa; exact hpw.rg) (Nat.le_trans (join2 hpw.pa hpw.rg) (by omega))
   refine cL.mono ?_
   clear cL
   rintro e w2 ⟨rfl, e2⟩
   have HF2 := Lib.hid (((Blk.new wr 39 #[.int .i64 f0.pa, .int .i64 f0.rg, .slice q1 f0.cd.length cc]).alloc (.cells #[.int .i64 f0.pa, .int .i64 f0.rg] 3)).ext e2)
   have r2 := Lib.hid ((((Ext.refl wr).alloc _).alloc _).trans e2)
   clear e2
   go_wp2_with fail
   refine (bwrite_any w.heap.size w1.heap.size _ (lineS [sFunc] [f0.pa, f0.rg]) _ (Bld.ext HB.out r2.out) (by rw [Lib.byteCells_length, line_size]; have := join2 hpw.pa hpw.rg; omega) (HE.out.trans r2.out).le).mono ?_
   rintro e w3 ⟨rfl, B3, e3, K3⟩
   have HB3 : Hid (Lib.IsBuilder 48 5 w.heap.size w1.heap.size (Lib.byteCells (bs ++ headL f0)) w3) := by
    have e : Lib.byteCells (bs ++ headL f0) = Lib.byteCells bs ++ Lib.strCells (lineS [sFunc] [f0.pa, f0.rg]) := by simp [Lib.byteCells, Lib.strCells, headL]
    rw [e]; exact .inr B3
   have HE3 := Lib.hid (show Ext w w3 from Below.trans (HE.out.trans r2.out) e3)
   have HF3 := Lib.hid (K3 _ _ _ HF2.out (by decide) (by decide))
   have HBK3 := Lib.hid (K3 _ _ _ (HBK.out.ext r2.out) (by decide) (by decide))
   have f2 := HF3.out.cell 2
   simp only [List.getElem?_toArray, List.getElem?_cons_zero, List.getElem?_cons_succ] at f2
   clear B3 e3 K3 c1 c2 c3 lb HB HF2
   obtain ⟨m, hm⟩ : ∃ m, f0.cd.length = m := ⟨_, rfl⟩
   rw [hm] at C4 hln f2
   have HM := Lib.hid hm
   clear hm
   go_wp2_with fail
   obtain ⟨wq, rfl⟩ : ∃ wq : World, wq = wr := ⟨_, rfl⟩
   go_loopg [33] m (fun g3 s33 wx => ∃ (j : Nat), j + g3 = m ∧ s33 = .int .i64 j ∧ Ext w wx ∧ Blk wx w.heap.size 26 #[.slice (some ⟨pb, po, none⟩) n cp, .slice qi ni ci, .slice qt nt ct] ∧ Hid (Lib.IsBuilder 48 5 w.heap.size w1.heap.size (Lib.byteCells (bs ++ headL f0 ++ (f0.cd.take j).flatMap insL)) wx))
   case atStart => exact ⟨0, by omega, rfl, HE3.out, HBK3.out, by simpa using HB3⟩
   case round =>
    obtain ⟨j, hjg, rfl, he, hbk, HJ⟩ := hrel
    cases gk with
    | zero =>
     obtain rfl : j = m := by omega
     have hjz : ¬ ((j : Int) < (j : Int)) := by omega
     have HZ : Hid (Lib.IsBuilder 48 5 w.heap.size w1.heap.size (Lib.byteCells ((p.ps.take (k + 1)).flatMap protoL)) wr) := by
      have := HJ.out
      rw [List.take_of_length_le (by rw [HM.out]; exact Nat.le_refl _), List.append_assoc] at this
      rw [HS.out]; exact this
     have HE4 := Lib.hid he
     have HB4 := Lib.hid hbk
     clear he hbk f2
     go_wp2_with fail
     go_roundg g
     case rel => exact ⟨k + 1, by omega, by go_num, HE4.out, HB4.out, HZ⟩
     case measure => exact Nat.lt_succ_self _
    | succ g3 =>
     have hjz : (j : Int) < (m : Int) := by omega
     have hjl : j < f0.cd.length := by rw [HM.out]; omega
     obtain ⟨q2, c5, hqe, hq5⟩ := C4.out
     have hmm := HM.out
     cases hqe
     obtain ⟨cb, co, rfl, hc5⟩ := hq5 (by omega)
     obtain ⟨y0, y1, y2, y3⟩ := hc5 j hjl
     replace y0 := he.cell y0
     replace y1 := he.cell y1
     replace y2 := he.cell y2
     replace y3 := he.cell y3
     have hiw := hpw.cd _ (List.getElem_mem hjl)
     have HP := Lib.hid (fm_snoc insL f0.cd j hjl)
     have hle2 := fm_le insL 101 (f0.cd.take j) (fun i hi => ins_len (hpw.cd i (List.mem_of_mem_take hi)))
     have hle3 : ((f0.cd.take j).flatMap insL).length ≤ 1000 * 101 := by
      refine Nat.le_trans hle2 (Nat.mul_le_mul_right _ ?_)
      have := List.length_take_le j f0.cd
      omega
     have hle4 := head_len hpw
     clear hle2 hc5 hq5
     obtain ⟨i0, hi0⟩ : ∃ i, f0.cd[j] = i := ⟨_, rfl⟩
     rw [hi0] at y0 y1 y2 y3 hiw HP
     obtain ⟨zs, hzs⟩ : ∃ zs, (f0.cd.take j).flatMap insL = zs := ⟨_, rfl⟩
     rw [hzs] at HJ HP hle3
     clear hi0 hzs hjl hmm f2
     have HE4 := Lib.hid he
     have HB4 := Lib.hid hbk
     have ly := cell_lt y0
     simp only at ly
     clear he hbk
     go_wp2_with fail
     have cL := line_none [i0.op, i0.a, i0.b, i0.c] _ _ (ht.ext ((HE4.out.alloc (.cells #[.int .i64 i0.op, .int .i64 i0.a, .int .i64 i0.b, .int .i64 i0.c] 42)).alloc (.cells #[.int .i64 i0.op, .int .i64 i0.a, .int .i64 i0.b, .int .i64 i0.c] 3))) (nums_new (wr.alloc (.cells #[.int .i64 i0.op, .int .i64 i0.a, .int .i64 i0.b, .int .i64 i0.c] 42)) 3 [i0.op, i0.a, i0.b, i0.c] (wr.heap.size + 1) (size_alloc _ _).symm) (by simp) (by intro x hx; simp at hx; rcases hx with rfl | rfl | rfl | rfl; exact hiw.op; exact hiw.a; exact hiw.b; exact hiw.c) (Nat.le_trans (join4 hiw.op hiw.a hiw.b hiw.c) (by omega))
     refine cL.mono ?_
     clear cL
     rintro e w4 ⟨rfl, e4⟩
     have r4 := Lib.hid ((((Ext.refl wr).alloc _).alloc _).trans e4)
     clear e4
     go_wp2_with fail
     refine (bwrite_any w.heap.size w1.heap.size _ (lineS [] [i0.op, i0.a, i0.b, i0.c]) _ (Bld.ext HJ.out r4.out) (by rw [Lib.byteCells_length, line_size]; have := join4 hiw.op hiw.a hiw.b hiw.c; simp only [List.length_append]; omega) (HE4.out.trans r4.out).le).mono ?_
     rintro e w5 ⟨rfl, B5, e5, K5⟩
     have HB5 : Hid (Lib.IsBuilder 48 5 w.heap.size w1.heap.size (Lib.byteCells (bs ++ headL f0 ++ (f0.cd.take (j + 1)).flatMap insL)) w5) := by
      have e : Lib.byteCells (bs ++ headL f0 ++ (f0.cd.take (j + 1)).flatMap insL) = Lib.byteCells (bs ++ headL f0 ++ zs) ++ Lib.strCells (lineS [] [i0.op, i0.a, i0.b, i0.c]) := by rw [HP.out]; simp [Lib.byteCells, Lib.strCells, insL]
      rw [e]; exact .inr B5
     have HE5 := Lib.hid (show Ext w w5 from Below.trans (HE4.out.trans r4.out) e5)
     have HBK5 := Lib.hid (K5 _ _ _ (HB4.out.ext r4.out) (by decide) (by decide))
     clear B5 e5 K5 y0 y1 y2 y3 ly
     go_wp2_with fail
     go_roundg g3
     case rel => exact ⟨j + 1, by omega, by go_num, HE5.out, HBK5.out, HB5⟩
     case measure => exact Nat.lt_succ_self _
end Go.Proofs.YtfjipoijbmmjcaaGreatDoor
namespace Go.Proofs.YtfjipoijbmmjcaaGreatDoor
open Go.Lib
set_option linter.unusedVariables false

theorem ofNat48 {d : Nat} (h : d < 10) : (UInt8.ofNat (48 + d)).toNat = 48 + d := by
 have : ∀ x : Fin 10, (UInt8.ofNat (48 + x.val)).toNat = 48 + x.val := by decide +kernel
 exact this ⟨d, h⟩
theorem ofNat_back {c : UInt8} (h : 48 ≤ c.toNat) : UInt8.ofNat (48 + (c.toNat - 48)) = c := by
 have : 48 + (c.toNat - 48) = c.toNat := by omega
 rw [this]
 exact UInt8.ofNat_toNat
def isDig (c : UInt8) : Prop := 48 ≤ c.toNat ∧ c.toNat ≤ 57
def valD (a : Nat) : List UInt8 → Nat
 | [] => a
 | c :: r => valD (a * 10 + (c.toNat - 48)) r
theorem valD_append : ∀ (l m : List UInt8) (a : Nat), valD a (l ++ m) = valD (valD a l) m
 | [], m, a => rfl
 | c :: l, m, a => valD_append l m _
theorem valD_ge : ∀ (l : List UInt8) (a : Nat), a ≤ valD a l
 | [], a => Nat.le_refl _
 | c :: l, a => by have := valD_ge l (a * 10 + (c.toNat - 48)); show a ≤ valD _ l; omega
theorem decDigits_step (u : Nat) (h : ¬ u < 10) : decDigits u = decDigits (u / 10) ++ [UInt8.ofNat (48 + u % 10)] := by rw [decDigits, dif_neg h]
theorem decDigits_base (u : Nat) (h : u < 10) : decDigits u = [UInt8.ofNat (48 + u)] := by rw [decDigits, dif_pos h]
theorem dec_digs : ∀ u : Nat, ∀ c ∈ decDigits u, isDig c := by
 intro u
 induction u using Nat.strongRecOn with
 | ind u ih =>
  intro c hc
  by_cases h : u < 10
  ·rw [decDigits_base u h, List.mem_singleton] at hc
   subst hc
   unfold isDig; rw [ofNat48 h]; omega
  ·rw [decDigits_step u h, List.mem_append, List.mem_singleton] at hc
   rcases hc with hc | rfl
   ·exact ih (u / 10) (by omega) c hc
   ·unfold isDig; rw [ofNat48 (by omega)]; omega
theorem dec_val : ∀ u : Nat, valD 0 (decDigits u) = u := by
 intro u
 induction u using Nat.strongRecOn with
 | ind u ih =>
  by_cases h : u < 10
  ·rw [decDigits_base u h]; show 0 * 10 + ((UInt8.ofNat (48 + u)).toNat - 48) = u; rw [ofNat48 h]; omega
  ·rw [decDigits_step u h, valD_append, ih (u / 10) (by omega)]
   show u / 10 * 10 + ((UInt8.ofNat (48 + u % 10)).toNat - 48) = u
   rw [ofNat48 (by omega)]; omega
theorem dec_ne (u : Nat) : decDigits u ≠ [] := by
 have h := decDigits_length u
 have := nDigits_pos u
 intro e
 rw [e] at h
 simp at h
 omega
theorem dec_head : ∀ u : Nat, 0 < u → ∀ c r, decDigits u = c :: r → c.toNat ≠ 48 := by
 intro u
 induction u using Nat.strongRecOn with
 | ind u ih =>
  intro hu c r e
  by_cases h : u < 10
  ·rw [decDigits_base u h] at e
   injection e with e _
   rw [← e, ofNat48 h]; omega
  ·rw [decDigits_step u h] at e
   obtain ⟨c', r', e'⟩ : ∃ c' r', decDigits (u / 10) = c' :: r' := by
    cases hd : decDigits (u / 10) with
    | nil => exact absurd hd (dec_ne _)
    | cons a b => exact ⟨a, b, rfl⟩
   rw [e', List.cons_append] at e
   injection e with e _
   rw [← e]
   exact ih (u / 10) (by omega) (by omega) c' r' e'
theorem dec_of : ∀ (d : List UInt8), d ≠ [] → (∀ c ∈ d, isDig c) → (d = [48] ∨ ∀ c r, d = c :: r → c.toNat ≠ 48) → decDigits (valD 0 d) = d := by
 intro d
 induction hn : d.length using Nat.strongRecOn generalizing d with
 | ind n ih =>
  intro hne hd h0
  rcases List.eq_nil_or_concat d with rfl | ⟨l, c, rfl⟩
  ·exact absurd rfl hne
  ·have hc := hd c (by simp)
   have hv : valD 0 (l.concat c) = valD 0 l * 10 + (c.toNat - 48) := by rw [List.concat_eq_append, valD_append]; rfl
   cases l with
   | nil =>
    show decDigits (0 * 10 + (c.toNat - 48)) = [c]
    unfold isDig at hc
    rw [decDigits_base _ (by omega), Nat.zero_mul, Nat.zero_add, ofNat_back hc.1]
   | cons a l =>
    have ha : a.toNat ≠ 48 := by
     rcases h0 with h0 | h0
     ·simp at h0
     ·exact h0 a (l.concat c) (by simp)
    have hlow := hd a (by simp)
    have hpos : 0 < valD 0 (a :: l) := by
     have := valD_ge l (0 * 10 + (a.toNat - 48))
     unfold isDig at hlow
     show 0 < valD _ l
     omega
    have hm := ih (a :: l).length (by rw [← hn]; simp) (a :: l) rfl (by simp) (fun x hx => hd x (by rw [List.concat_eq_append]; exact List.mem_append_left _ hx)) (.inr fun x r e => by injection e with e _; rw [← e]; exact ha)
    unfold isDig at hc
    rw [hv, decDigits_step _ (by omega), List.concat_eq_append]
    have e1 : (valD 0 (a :: l) * 10 + (c.toNat - 48)) / 10 = valD 0 (a :: l) := by omega
    have e2 : (valD 0 (a :: l) * 10 + (c.toNat - 48)) % 10 = c.toNat - 48 := by omega
    rw [e1, e2, hm, ofNat_back hc.1]
theorem pM_ok (M : Nat) (hM : M ≤ 18446744073709551615) : ∀ (l : List UInt8) (a : Nat), (∀ c ∈ l, isDig c) → valD a l ≤ M → parseUintM M a l = .ok (valD a l)
 | [], a, _, _ => rfl
 | c :: l, a, hd, hv => by
  have hc : 48 ≤ c.toNat ∧ c.toNat ≤ 57 := hd c (by simp)
  have hv' : valD (a * 10 + (c.toNat - 48)) l ≤ M := hv
  have := valD_ge l (a * 10 + (c.toNat - 48))
  unfold parseUintM
  rw [if_pos hc, if_neg (by omega), if_neg (by omega)]
  exact pM_ok M hM l _ (fun x hx => hd x (by simp [hx])) hv'
theorem parse_itoa (v : Int) (h0 : -9223372036854775808 ≤ v) (h1 : v ≤ 9223372036854775807) : parseIntB 64 (itoa v) = .ok v := by
 unfold itoa
 have hp : ∀ u : Nat, u ≤ 18446744073709551615 → parseUintB 64 (decDigits u) = .ok u := fun u hu => by
  unfold parseUintB
  rw [if_neg (dec_ne u), pM_ok _ (by decide) _ _ (dec_digs u) (by rw [dec_val]; exact hu), dec_val]
 split
 ·rename_i hn
  rw [parseIntB_minus, hp _ (by omega)]
  unfold signedC
  simp only []
  rw [if_neg (by simp; omega)]
  congr 1
  omega
 ·rename_i hn
  obtain ⟨c, r, e⟩ : ∃ c r, decDigits v.toNat = c :: r := by
   cases hd : decDigits v.toNat with
   | nil => exact absurd hd (dec_ne _)
   | cons a b => exact ⟨a, b, rfl⟩
  have hc := dec_digs v.toNat c (by rw [e]; simp)
  unfold isDig at hc
  rw [e, parseIntB_plain 64 c r (by omega) (by omega), ← e, hp _ (by omega)]
  unfold signlessC
  simp only []
  rw [if_neg (by simp; omega)]
  congr 1
  omega
def tnL (l : List UInt8) : Option Int := match parseIntB 64 l with | .ok v => if itoa v = l then some v else none | _ => none
theorem parse_in {l : List UInt8} {v : Int} (h : parseIntB 64 l = .ok v) : -9223372036854775808 ≤ v ∧ v ≤ 9223372036854775807 := by
 have h63 : (2 : Nat) ^ (64 - 1) = 9223372036854775808 := by decide
 unfold parseIntB at h
 split at h
 ·cases h
 ·simp only [] at h
  split at h
  ·cases h
  ·cases h
  ·rename_i u _
   split at h
   ·cases h
   ·split at h
    ·cases h
    ·rename_i g1 g2
     injection h with h
     rw [h63] at g1 g2
     split at h <;> omega
def digR : Nat → List UInt8 → Option Nat
 | a, [] => some a
 | a, c :: r => if 48 ≤ c.toNat ∧ c.toNat ≤ 57 then (if 9223372036854775808 < a * 10 + (c.toNat - 48) then none else digR (a * 10 + (c.toNat - 48)) r) else none
theorem digR_ok : ∀ (l : List UInt8) (a : Nat), (∀ c ∈ l, isDig c) → valD a l ≤ 9223372036854775808 → digR a l = some (valD a l)
 | [], a, _, _ => rfl
 | c :: l, a, hd, hv => by
  have hc : 48 ≤ c.toNat ∧ c.toNat ≤ 57 := hd c (by simp)
  have hv' : valD (a * 10 + (c.toNat - 48)) l ≤ 9223372036854775808 := hv
  have := valD_ge l (a * 10 + (c.toNat - 48))
  unfold digR
  rw [if_pos hc, if_neg (by omega)]
  exact digR_ok l _ (fun x hx => hd x (by simp [hx])) hv'
theorem digR_some : ∀ (l : List UInt8) (a u : Nat), a ≤ 9223372036854775808 → digR a l = some u → (∀ c ∈ l, isDig c) ∧ u = valD a l ∧ u ≤ 9223372036854775808
 | [], a, u, ha, h => by
  have := Option.some.inj h
  exact ⟨fun c hc => (List.not_mem_nil hc).elim, this.symm, by omega⟩
 | c :: l, a, u, ha, h => by
  unfold digR at h
  split at h
  ·rename_i hc
   split at h
   ·cases h
   ·obtain ⟨h1, h2, h3⟩ := digR_some l _ u (by omega) h
    exact ⟨fun x hx => by
     rcases List.mem_cons.1 hx with rfl | hx
     ·exact hc
     ·exact h1 x hx, h2, h3⟩
  ·cases h
def numD (neg : Bool) (d : List UInt8) : Option Int :=
 if d = [] ∨ (1 < d.length ∧ d.head? = some 48) ∨ (neg = true ∧ d = [48]) then none else
  match digR 0 d with
  | none => none
  | some u => if neg then some (-(u : Int)) else if u = 9223372036854775808 then none else some u
def numR (l : List UInt8) : Option Int := if l = [] ∨ 20 < l.length then none else if l.head? = some 45 then numD true l.tail else numD false l
theorem numD_some {neg : Bool} {d : List UInt8} {v : Int} (h : numD neg d = some v) : -9223372036854775808 ≤ v ∧ v ≤ 9223372036854775807 ∧ (neg = true → itoa v = 45 :: d) ∧ (neg = false → itoa v = d) := by
 unfold numD at h
 split at h
 ·cases h
 ·rename_i hg
  have g1 : d ≠ [] := fun e => hg (.inl e)
  have g2 : ¬ (1 < d.length ∧ d.head? = some 48) := fun e => hg (.inr (.inl e))
  have g3 : ¬ (neg = true ∧ d = [48]) := fun e => hg (.inr (.inr e))
  split at h
  ·cases h
  ·rename_i u hu
   obtain ⟨k1, k2, k3⟩ := digR_some d 0 u (by omega) hu
   have hform : d = [48] ∨ ∀ c r, d = c :: r → c.toNat ≠ 48 := by
    cases d with
    | nil => exact absurd rfl g1
    | cons c r =>
     by_cases hc : c.toNat = 48
     ·have e : c = 48 := UInt8.toNat_inj.1 hc
      subst e
      cases r with
      | nil => exact .inl rfl
      | cons b r => exact absurd ⟨by simp, rfl⟩ g2
     ·exact .inr fun c' r' e => by injection e with e _; rw [← e]; exact hc
   have hdec := dec_of d g1 k1 hform
   rw [← k2] at hdec
   split at h
   ·rename_i hn
    have e := Option.some.inj h
    have hu0 : 0 < u := by
     rcases Nat.eq_zero_or_pos u with h0 | h0
     ·rw [h0] at hdec
      have : decDigits 0 = [48] := by rw [decDigits_base 0 (by omega)]; rfl
      rw [this] at hdec
      exact absurd ⟨hn, hdec.symm⟩ g3
     ·exact h0
    refine ⟨by omega, by omega, fun _ => ?_, fun hf => by rw [hn] at hf; cases hf⟩
    unfold itoa
    rw [if_pos (by omega), ← e]
    have : (-(u : Int)).natAbs = u := by omega
    rw [this, hdec]
   ·rename_i hn
    split at h
    ·cases h
    ·rename_i hm
     have e := Option.some.inj h
     refine ⟨by omega, by omega, fun hf => absurd hf hn, fun _ => ?_⟩
     unfold itoa
     rw [if_neg (by omega), ← e]
     have : ((u : Int)).toNat = u := by omega
     rw [this, hdec]
theorem nDig19 (u : Nat) (h : u ≤ 9223372036854775808) : nDigits u ≤ 19 := by
 rcases Nat.lt_or_ge u 1000000000000000000 with h1 | h1
 ·have : ∀ (k u : Nat), u < 10 ^ (k + 1) → nDigits u ≤ k + 1 := by
   intro k
   induction k with
   | zero => intro u hu; rw [nDigits_small (by omega)]; exact Nat.le_refl _
   | succ k ih =>
    intro u hu
    by_cases hs : u < 10
    ·rw [nDigits_small hs]; omega
    ·rw [nDigits_big hs]
     have := ih (u / 10) (by rw [Nat.pow_succ] at hu; omega)
     omega
  exact Nat.le_trans (this 17 u (by simpa using h1)) (by decide)
 ·rw [nDigits_unique 18 u (by simpa using h1) (by simp; omega)]
  exact Nat.le_refl _
theorem numD_back (neg : Bool) (u : Nat) (h : u ≤ 9223372036854775808) (h0 : neg = true → 0 < u) (h1 : neg = false → u < 9223372036854775808) : numD neg (decDigits u) = some (if neg then -(u : Int) else u) := by
 have hlead : ¬ (1 < (decDigits u).length ∧ (decDigits u).head? = some 48) := by
  rintro ⟨hl, hh⟩
  rcases Nat.eq_zero_or_pos u with rfl | hu
  ·rw [decDigits_base 0 (by omega)] at hl; simp at hl
  ·cases hd : decDigits u with
   | nil => exact dec_ne u hd
   | cons c r =>
    rw [hd] at hh
    have e : c = 48 := by simpa using hh
    exact dec_head u hu c r hd (by rw [e]; rfl)
 have hneg : ¬ (neg = true ∧ decDigits u = [48]) := by
  rintro ⟨hn, hd⟩
  have := dec_val u
  rw [hd] at this
  have hu := h0 hn
  have e : valD 0 [48] = 0 := rfl
  omega
 unfold numD
 rw [if_neg (fun h => h.elim (dec_ne u) (fun h => h.elim hlead hneg)), digR_ok _ _ (dec_digs u) (by rw [dec_val]; exact h), dec_val]
 simp only []
 cases neg with
 | true => simp
 | false =>
  have := h1 rfl
  simp only [Bool.false_eq_true, if_false]
  rw [if_neg (by omega)]
theorem numR_itoa (v : Int) (h0 : -9223372036854775808 ≤ v) (h1 : v ≤ 9223372036854775807) : numR (itoa v) = some v := by
 unfold itoa
 split
 ·rename_i hn
  have hl := decDigits_length v.natAbs
  have := nDig19 v.natAbs (by omega)
  unfold numR
  rw [if_neg (by simp; omega), if_pos (by rfl)]
  show numD true (decDigits v.natAbs) = some v
  rw [numD_back true _ (by omega) (fun _ => by omega) (fun h => by cases h)]
  simp only [if_true]
  congr 1
  omega
 ·rename_i hn
  have hl := decDigits_length v.toNat
  have := nDig19 v.toNat (by omega)
  have hh : ¬ (decDigits v.toNat).head? = some 45 := by
   cases hd : decDigits v.toNat with
   | nil => simp
   | cons c r =>
    have hc := dec_digs v.toNat c (by rw [hd]; simp)
    unfold isDig at hc
    intro e
    have e : c = 45 := by simpa using e
    rw [e] at hc
    exact absurd hc.1 (by decide)
  unfold numR
  rw [if_neg (fun h => h.elim (dec_ne _) (fun h => by omega)), if_neg hh, numD_back false _ (by omega) (fun h => by cases h) (fun _ => by omega)]
  simp only [Bool.false_eq_true, if_false]
  congr 1
  omega
theorem numR_some {l : List UInt8} {v : Int} (h : numR l = some v) : -9223372036854775808 ≤ v ∧ v ≤ 9223372036854775807 ∧ itoa v = l := by
 unfold numR at h
 split at h
 ·cases h
 ·split at h
  ·rename_i hh
   obtain ⟨h1, h2, h3, _⟩ := numD_some h
   refine ⟨h1, h2, ?_⟩
   cases l with
   | nil => simp at hh
   | cons c r =>
    have e : c = 45 := by simpa using hh
    rw [h3 rfl, e]; rfl
  ·obtain ⟨h1, h2, _, h4⟩ := numD_some h
   exact ⟨h1, h2, h4 rfl⟩
theorem num_same (l : List UInt8) : numR l = tnL l := by
 cases hr : numR l with
 | some v =>
  obtain ⟨h1, h2, h3⟩ := numR_some hr
  unfold tnL
  have := parse_itoa v h1 h2
  rw [h3] at this
  rw [this]
  simp only []
  rw [if_pos h3]
 | none =>
  unfold tnL
  cases hp : parseIntB 64 l with
  | ok v =>
   simp only []
   split
   ·rename_i he
    obtain ⟨h1, h2⟩ := parse_in hp
    have := numR_itoa v h1 h2
    rw [he, hr] at this
    cases this
   ·rfl
  | _ => rfl
theorem tnL_itoa (v : Int) (h0 : -9223372036854775808 ≤ v) (h1 : v ≤ 9223372036854775807) : tnL (itoa v) = some v := by rw [← num_same]; exact numR_itoa v h0 h1
end Go.Proofs.YtfjipoijbmmjcaaGreatDoor
