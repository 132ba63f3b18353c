/- What a function asks of its arguments. What is asked, by a function's number. The library's sub. The library's type, tostring, len. The library's find. The library's byte. The library's tonumber. Behind insert at a number remove of it is the value, and the table is as it was: in plain words. -/
import Derived.Test.YtfagldjhibdfhaaGreatDoorYA6
import Derived.Test.YtfagldjhibdfhaaGreatDoorYA8
import Derived.Lib.SliceRun
import Derived.Test.YtfagldjhibdfhaaGreatDoorYA4
namespace Go.Proofs.YtfagldjhibdfhaaGreatDoor
open Go.RowKit
set_option linter.unusedVariables false
set_option linter.unusedSimpArgs false

def idxL : List ByteArray → Nat → Option Nat
 | [], _ => none
 | s :: ks, m => if s.size = m then some 0 else (idxL ks m).map (· + 1)
def idxZ (o : Option Nat) : Int := match o with | some i => (i : Int) | none => -1
def pickK (ks : List ByteArray) (m : Nat) : Option (List UInt8) :=
 if ks = [] then some (List.replicate m 110) else (idxL ks m).map fun i => (ks.getD i sNone).data.toList
def askP (H : Hp) (ks : List ByteArray) (l : List Vl) : ByteArray := match pickK ks l.length with | some k => askL H k l | none => sArgs
def AskE (y : ByteArray) (e : Ending) : Prop := (y = sNone → e = .returned (.tuple #[])) ∧ (¬ y = sNone → Fails y e)
theorem idxL_some : ∀ (ks : List ByteArray) (m i : Nat), idxL ks m = some i → ∃ h : i < ks.length, ks[i].size = m
 | s :: ks, m, i, h => by
  unfold idxL at h
  split at h
  ·cases h; exact ⟨by simp, by simpa⟩
  ·cases hx : idxL ks m with
   | none => rw [hx] at h; cases h
   | some j =>
    rw [hx] at h
    obtain rfl : j + 1 = i := by simpa using h
    obtain ⟨h1, h2⟩ := idxL_some ks m j hx
    exact ⟨by simp; omega, by simpa using h2⟩
theorem idxL_drop (ks : List ByteArray) (m j : Nat) (hj : j < ks.length) : idxL (ks.drop j) m = if ks[j].size = m then some 0 else (idxL (ks.drop (j + 1)) m).map (· + 1) := by
 rw [List.drop_eq_getElem_cons hj]; rfl
set_option maxRecDepth 100000 in
theorem ask1_any (s : ByteArray) (x : Nat) (q : Option Addr) (m cap : Nat) (w : World) (h : w.cell? ⟨x, 0, none⟩ = some (.slice q m cap)) :
  Calls Tryz.prog 74 #[.string s, .pointer (some ⟨x, 0, none⟩)] w fun e w' => e = .returned (.bool (decide (s.size = m))) ∧ w = w' := by
 have hd : ((s.size : Int) == (m : Int)) = decide (s.size = m) := by
  rw [Bool.eq_iff_iff, beq_iff_eq, decide_eq_true_iff]; omega
 go_enter Tryz.func74, Tryz.ntmps74
 go_wp2
 go_ret
 exact ⟨rfl, rfl⟩
set_option maxRecDepth 100000 in
set_option maxHeartbeats 1000000 in
theorem index_ask (w : World) (kv : Value) (ks : List ByteArray) (hk : KindAt w kv ks) (hn : ks.length ≤ 1000) (x : Nat) (q : Option Addr) (m cap : Nat) (h : w.cell? ⟨x, 0, none⟩ = some (.slice q m cap)) :
  Calls Tryz.prog 73 #[kv, .func (.func 74) #[] #[.pointer (some ⟨x, 0, none⟩)]] w fun e w' => e = .returned (.int .i64 (idxZ (idxL ks m))) ∧ w = w' := by
 rcases hk with ⟨rfl, rfl⟩ | ⟨b, rfl, hb, hx⟩
 ·go_enter Tryz.func73, Tryz.ntmps73
  go_wp2
  go_loopw [8] (fun i wr => i = .int .i64 0 ∧ wr = w) (fun _ _ => 0)
  case atStart => exact ⟨rfl, rfl⟩
  case round =>
   obtain ⟨rfl, rfl⟩ := hrel
   go_wp2
   go_ret
   exact ⟨rfl, rfl⟩
 obtain ⟨n, hn'⟩ : ∃ n, ks.length = n := ⟨_, rfl⟩
 rw [hn'] at hn ⊢
 have HN := Lib.hid hn'
 have HX := Lib.hid hx
 clear hx hn'
 go_enter Tryz.func73, Tryz.ntmps73
 go_wp2
 go_loopw [8] (fun i wr => ∃ k : Nat, k ≤ n ∧ i = .int .i64 k ∧ wr = w ∧ Hid (idxL ks m = (idxL (ks.drop k) m).map (· + k))) (fun i _ => n - (intOf i).toNat)
 case atStart => exact ⟨0, Nat.zero_le _, rfl, rfl, Lib.hid (by cases h : idxL ks m <;> simp [h])⟩
 case round =>
  obtain ⟨k, hk, rfl, rfl, HK⟩ := hrel
  by_cases hlt : k < n
  ·have hkl : k < ks.length := by rw [HN.out]; exact hlt
   have c1 := HX.out k hkl
   have HD := Lib.hid (idxL_drop ks m k hkl)
   obtain ⟨y, hy⟩ : ∃ y, ks[k] = y := ⟨_, rfl⟩
   rw [hy] at c1 HD
   clear hy hkl
   have cl := ask1_any y x q m cap wr h
   cases hd : decide (y.size = m)
   ·rw [hd] at cl
    have HZ : Hid (idxL ks m = (idxL (ks.drop (k + 1)) m).map (· + (k + 1))) := Lib.hid (by
     rw [HK.out, HD.out, if_neg (of_decide_eq_false hd), Option.map_map]
     congr 1
     funext z
     show z + 1 + k = z + (k + 1)
     omega)
    clear hd
    go_wp2_with (refine cl.mono ?_; rintro e w' ⟨rfl, rfl⟩)
    go_roundw
    case rel => exact ⟨k + 1, hlt, by go_num, trivial, HZ⟩
    case measure => simp [intOf]; omega
   ·rw [hd] at cl
    have HZ : Hid (idxZ (idxL ks m) = (k : Int)) := Lib.hid (by
     rw [HK.out, HD.out, if_pos (of_decide_eq_true hd)]
     simp [idxZ])
    clear hd
    go_wp2_with (refine cl.mono ?_; rintro e w' ⟨rfl, rfl⟩)
    go_ret
    exact ⟨by rw [HZ.out]; rfl, rfl⟩
  ·obtain rfl : k = n := by omega
   have HZ : Hid (idxZ (idxL ks m) = -1) := Lib.hid (by
    rw [HK.out, List.drop_eq_nil_of_le (by rw [HN.out]; exact Nat.le_refl _)]
    rfl)
   go_wp2
   go_ret
   exact ⟨by rw [HZ.out]; rfl, rfl⟩
theorem rep_one : ∀ m : Nat, Lib.repeatL ([110] : List UInt8) m = List.replicate m 110
 | 0 => rfl
 | m + 1 => by rw [List.replicate_succ, ← rep_one m]; rfl
def kindM : List (Int × Value) := [(116, .int .i64 3), (110, .int .i64 2), (98, .int .i64 4)]
theorem zeroKind (w : World) : (zeroValue 24).run Tryz.prog w = .ok (.int .i64 0) w := by kernel_rfl
theorem kind_look {w : World} {r : Nat} (h : IsMap (κ := Int) (fun n => .int .u8 n) w r kindM) (c : UInt8) (v : Vl) : ∃ kd okb, (Instr.lookup 112 (.map (some r)) (.int .u8 (c.toNat : Int)) true).run Tryz.prog w = .ok (.tuple #[.int .i64 kd, .bool okb]) w ∧ kindBad c v = !(v.ck && (!okb || (v.k == kd))) := by
 have hc (d : UInt8) : (c = d) ↔ ((c.toNat : Int) = (d.toNat : Int)) := ⟨fun e => by rw [e], fun e => UInt8.toNat_inj.1 (by omega)⟩
 have hb (n : Int) : (v.k == n) = decide (v.k = n) := rfl
 by_cases h1 : c = 116
 ·subst h1
  have lk := run_mget (keyed_int .u8) Tryz.underlying112 Tryz.underlying5 h (116 : Int) (.int .i64 3) (by kernel_rfl) true
  exact ⟨3, true, lk, by unfold kindBad; rw [hb]; cases v.ck <;> by_cases hk : v.k = 3 <;> simp [hk]⟩
 by_cases h2 : c = 110
 ·subst h2
  have lk := run_mget (keyed_int .u8) Tryz.underlying112 Tryz.underlying5 h (110 : Int) (.int .i64 2) (by kernel_rfl) true
  exact ⟨2, true, lk, by unfold kindBad; rw [hb]; cases v.ck <;> by_cases hk : v.k = 2 <;> simp [hk]⟩
 by_cases h3 : c = 98
 ·subst h3
  have lk := run_mget (keyed_int .u8) Tryz.underlying112 Tryz.underlying5 h (98 : Int) (.int .i64 4) (by kernel_rfl) true
  exact ⟨4, true, lk, by unfold kindBad; rw [hb]; cases v.ck <;> by_cases hk : v.k = 4 <;> simp [hk]⟩
 have hg : mget kindM (c.toNat : Int) = none := by
  have e1 := mt (hc 116).2 h1
  have e2 := mt (hc 110).2 h2
  have e3 := mt (hc 98).2 h3
  have f1 : (116 : UInt8).toNat = 116 := rfl
  have f2 : (110 : UInt8).toNat = 110 := rfl
  have f3 : (98 : UInt8).toNat = 98 := rfl
  rw [f1] at e1; rw [f2] at e2; rw [f3] at e3
  unfold kindM mget mget mget mget
  rw [if_neg (by simp only; omega), if_neg (by simp only; omega), if_neg (by simp only; omega)]
 have lk := run_mget_none (keyed_int .u8) Tryz.underlying112 Tryz.underlying5 h (c.toNat : Int) _ (zeroKind w) hg true
 exact ⟨0, false, lk, by unfold kindBad; cases v.ck <;> simp [h1, h2, h3]⟩
theorem kind_made (w : World) : ∃ w1 w2 w3, (Instr.mapUpdate 112 (.map (some w.heap.size)) (.int .u8 116) (.int .i64 3)).run Tryz.prog (w.alloc (.map #[] 0)) = .ok () w1 ∧
  (Instr.mapUpdate 112 (.map (some w.heap.size)) (.int .u8 110) (.int .i64 2)).run Tryz.prog w1 = .ok () w2 ∧
  (Instr.mapUpdate 112 (.map (some w.heap.size)) (.int .u8 98) (.int .i64 4)).run Tryz.prog w2 = .ok () w3 ∧ Ext w w3 ∧ IsMap (κ := Int) (fun n => .int .u8 n) w3 w.heap.size kindM := by
 obtain ⟨w1, u1, m1, y1⟩ := run_mput (keyed_int .u8) Tryz.underlying112 Tryz.underlying5 (IsMap.new (κ := Int) (fun n => .int .u8 n) w) 116 (.int .i64 3)
 obtain ⟨w2, u2, m2, y2⟩ := run_mput (keyed_int .u8) Tryz.underlying112 Tryz.underlying5 m1 110 (.int .i64 2)
 obtain ⟨w3, u3, m3, y3⟩ := run_mput (keyed_int .u8) Tryz.underlying112 Tryz.underlying5 m2 98 (.int .i64 4)
 exact ⟨w1, w2, w3, u1, u2, u3, ((Turn.of_mapped y1).trans ((Turn.of_mapped y2).trans (Turn.of_mapped y3))).ext ((Ext.refl w).alloc _) (by exact Nat.le_refl _), m3⟩
set_option maxRecDepth 100000 in
set_option maxHeartbeats 4000000 in
theorem asked_any (g : Nat) (tv : Value) (rs : List (Nat × Nat)) (H : Hp) (w : World) (h : HeapIn w g tv rs H) (hlen : H.tabs.length ≤ 9223372036854775807) (kv : Value) (ks : List ByteArray) (hk : KindAt w kv ks) (hkn : ks = [] → kv = .slice none 0 0) (hn : ks.length ≤ 1000) (q : Option Addr) (l : List Vl) (cap : Nat) (ha : ArgsAt w q l) :
  Calls Tryz.prog 37 #[.pointer (some ⟨g, 0, none⟩), kv, .slice q l.length cap] w fun e w' => AskE (askP H ks l) e ∧ Ext w w' := by
 have HI0 := Lib.hid h
 have HA := Lib.hid ha
 have hm0 := ha.len
 obtain ⟨m, hm⟩ : ∃ m, l.length = m := ⟨_, rfl⟩
 rw [hm] at hm0 ⊢
 have HM := Lib.hid hm
 obtain ⟨y, hy⟩ : ∃ y, askP H ks l = y := ⟨_, rfl⟩
 rw [hy]
 unfold askP at hy
 rw [hm] at hy
 have HY0 := Lib.hid hy
 clear ha h hy hm
 have E1 := Lib.hid ((Ext.refl w).alloc (.cells #[.slice q m cap] 35))
 have cb1 : (w.alloc (.cells #[.slice q m cap] 35)).cell? ⟨w.heap.size, 0, none⟩ = some (.slice q m cap) := (Blk.new w 35 #[.slice q m cap]).cell 0
 by_cases hnil : ks = []
 ·subst hnil
  clear hk
  obtain rfl : kv = .slice none 0 0 := hkn rfl
  have heq : (binOp .eql 55 (.slice none 0 0) (.slice none 0 0)).run Tryz.prog (w.alloc (.cells #[.slice q m cap] 35)) = .ok (.bool true) (w.alloc (.cells #[.slice q m cap] 35)) := Lib.run_eql_slice_nil (P := Tryz.prog) _ 55 9 none 0 0 0 0 Tryz.underlying55
  obtain ⟨k, hk⟩ : ∃ k : ByteArray, ⟨(Lib.repeatL [110] m).toArray⟩ = k := ⟨_, rfl⟩
  have hkl : k.data.toList = List.replicate m 110 := by rw [← hk, rep_one]
  have hks : k.size = m := by
   have : k.data.toList.length = k.size := rfl
   rw [← this, hkl, List.length_replicate]
  have HY : Hid (askL H (k.data.toList.drop 0) (l.drop 0) = y) := Lib.hid (by
   have h1 := HY0.out
   unfold pickK at h1
   rw [if_pos rfl] at h1
   rw [List.drop_zero, List.drop_zero, hkl]
   exact h1)
  have hrp := Tryz.strings_Repeat ⟨#[110]⟩ m (w.alloc (.cells #[.slice q m cap] 35)) (by omega) (by show 1 * m ≤ _; omega)
  rw [show (⟨#[110]⟩ : ByteArray).data.toList = [110] from rfl, hk] at hrp
  have HRP := Lib.hid hrp
  clear hk hkl HY0 hrp
  go_enter Tryz.func37, Tryz.ntmps37
  go_wp2_with fail
  refine HRP.out.mono ?_
  rintro e w2 ⟨rfl, e2⟩
  have cb2 := ((show Ext _ w2 from e2).cells.1 _ _ (by rw [size_alloc]; omega)).trans cb1
  have Z2 := Lib.hid (show w.heap.size < w2.heap.size from Ext.lt1 (show Ext (w.alloc (.cells #[.slice q m cap] 35)) w2 from e2))
  have E2 := Lib.hid (E1.out.trans e2)
  have bx1 : Blk (w2.alloc (.cells #[.string k] 9)) w2.heap.size 9 ([k].map Value.string).toArray := Blk.new _ _ _
  have cb3 : (w2.alloc (.cells #[.string k] 9)).cell? ⟨w.heap.size, 0, none⟩ = some (.slice q m cap) := ((((Ext.refl w2).alloc _).cells.1 _ _ Z2.out)).trans cb2
  have hix := index_ask (w2.alloc (.cells #[.string k] 9)) _ [k] (KindAt.of_blk bx1) (by simp) w.heap.size q m cap cb3
  rw [show idxL [k] m = some 0 from by unfold idxL; rw [if_pos hks]] at hix
  rw [show idxZ (some 0) = 0 from rfl] at hix
  simp only [List.length_cons, List.length_nil, Nat.reduceAdd] at hix
  have HIX := Lib.hid hix
  have ck1 : (w2.alloc (.cells #[.string k] 9)).cell? ⟨w2.heap.size, 0, none⟩ = some (.string k) := bx1.cell 0
  obtain ⟨z1, z2, w5, u1, u2, u3, e5, im⟩ := kind_made (w2.alloc (.cells #[.string k] 9))
  rw [size_alloc] at u1 u2 u3 im
  have IM := Lib.hid im
  have E5 := Lib.hid ((E2.out.alloc (.cells #[.string k] 9)).trans e5)
  have hbw : w2.heap.size < w5.heap.size := e5.lt1
  have CB : Hid (∀ W, Ext w5 W → W.cell? ⟨w.heap.size, 0, none⟩ = some (.slice q m cap)) := Lib.hid (fun W hW => (((e5.trans hW)).cells.1 _ _ (by have := Z2.out; rw [size_alloc]; omega)).trans cb3)
  have CK : Hid (∀ W, Ext w5 W → W.cell? ⟨w2.heap.size, 0, none⟩ = some (.string k)) := Lib.hid (fun W hW => ((e5.trans hW).cells.1 _ _ (by rw [size_alloc]; omega)).trans ck1)
  have cb5 := CB.out w5 (Ext.refl _)
  have hmm := @run_makeMap Tryz.prog
  clear hix e5 im ck1 e2 bx1
  go_wp2_with fail
  refine HIX.out.mono ?_
  rintro e w1 ⟨rfl, rfl⟩
  go_wp2_with fail
  refine (must_yes _ _).mono ?_
  rintro e w1 ⟨rfl, rfl⟩
  have HA5 := Lib.hid (HA.out.ext E5.out)
  go_wp2_with fail
  clear u1 u2 u3 hmm HIX cb5 heq cb2 cb3
  go_loopw [28] (fun jv wr => ∃ j : Nat, jv = .int .i64 j ∧ j ≤ m ∧ Hid (Ext w5 wr) ∧ Hid (askL H (k.data.toList.drop j) (l.drop j) = y)) (fun jv _ => m - (intOf jv).toNat)
  case atStart => exact ⟨0, rfl, Nat.zero_le _, Lib.hid (Ext.refl _), HY⟩
  case round =>
   obtain ⟨j, rfl, hj, HE, HYJ⟩ := hrel
   by_cases hlt : j < m
   ·obtain ⟨v, hv⟩ : ∃ v, l[j]? = some v := ⟨_, List.getElem?_eq_getElem (by rw [HM.out]; exact hlt)⟩
    obtain ⟨b, o, rfl, ax⟩ := HA5.out.at_ j v hv
    have ax2 := ax.ext HE.out
    have c0 := ax2.k
    have c1 := ax2.n
    have c2 := ax2.s
    have cb : wr.cell? ⟨w.heap.size, 0, none⟩ = some (.slice (some ⟨b, o, none⟩) m cap) := CB.out wr HE.out
    have ck : wr.cell? ⟨w2.heap.size, 0, none⟩ = some (.string k) := CK.out wr HE.out
    have hd : decide ((j : Int) < (m : Int)) = true := decide_eq_true (by omega)
    have hd' : decide (j < m) = true := decide_eq_true hlt
    have hjk : j < k.size := by rw [hks]; exact hlt
    have hdk : decide ((j : Int) < (k.size : Int)) = true := decide_eq_true (by omega)
    obtain ⟨kd, okb, hlk, hbad⟩ := kind_look (w := wr.alloc (.cells #[.int .i64 v.k, .int .i64 v.n, .string v.s] 26)) (IM.out.of (((HE.out.alloc _).block _ IM.out.lt))) k[j] v
    have hspl : askL H (k.data.toList.drop j) (l.drop j) = if kindBad k[j] v then sType else if v.k = 4 then (if lenW H v = sNone then askL H (k.data.toList.drop (j + 1)) (l.drop (j + 1)) else lenW H v) else askL H (k.data.toList.drop (j + 1)) (l.drop (j + 1)) := by
     obtain ⟨hl1, hl2⟩ := List.getElem?_eq_some_iff.1 hv
     rw [List.drop_eq_getElem_cons hl1, hl2, List.drop_eq_getElem_cons (show j < k.data.toList.length from hjk)]
     rfl
    rw [HYJ.out] at hspl
    have HHH := Lib.hid ((HI0.out.ext E5.out).ext HE.out)
    have HEE := Lib.hid (E5.out.trans HE.out)
    obtain ⟨kc, hkc⟩ : ∃ kc, k[j] = kc := ⟨_, rfl⟩
    rw [hkc] at hlk hspl hbad
    have hck := fun W => check_any v.k v.n v.s W
    have hlg1 := fun W hh hw => long_yes g tv rs H v W hh hlen hw
    have hlg0 := fun W hh hw => long_no g tv rs H v W hh hlen hw
    have hkk : ∃ vck, v.ck = vck := ⟨_, rfl⟩
    obtain ⟨vck, hvck⟩ := hkk
    have hck2 : ∀ W, Calls Tryz.prog 40 #[.agg #[.int .i64 v.k, .int .i64 v.n, .string v.s]] W fun e w' => e = .returned (.bool vck) ∧ Ext W w' := fun W => by rw [← hvck]; exact hck W
    obtain ⟨lw, hlw⟩ : ∃ lw, lenW H v = lw := ⟨_, rfl⟩
    rw [hvck] at hbad
    rw [hlw] at hspl hlg1 hlg0
    have HSP := Lib.hid hspl
    have HLG1 := Lib.hid hlg1
    have HLG0 := Lib.hid hlg0
    have HCK := Lib.hid hck2
    obtain ⟨vk, vn, vs⟩ := v
    simp only at c0 c1 c2 hbad hlk
    have HBAD := Lib.hid hbad
    have hb2 := ax2.lt
    have hb3 : w2.heap.size < wr.heap.size := Nat.lt_of_lt_of_le hbw HE.out.le
    clear ax ax2 hv hspl hck hlg1 hlg0 hck2 hvck hlw hbad
    have HBX : Hid (Blk (wr.alloc (.cells #[.int .i64 vk, .int .i64 vn, .string vs] 26)) wr.heap.size 26 #[.int .i64 vk, .int .i64 vn, .string vs]) := Lib.hid (Blk.new _ _ _)
    have HEA := Lib.hid (HEE.out.alloc (.cells #[.int .i64 vk, .int .i64 vn, .string vs] 26))
    have HHA := Lib.hid (HHH.out.alloc (.cells #[.int .i64 vk, .int .i64 vn, .string vs] 26))
    have HER := Lib.hid (HE.out.alloc (.cells #[.int .i64 vk, .int .i64 vn, .string vs] 26))
    by_cases hgood : (vck && (!okb || (vk == kd))) = true
    ·have HYS : Hid (y = if vk = 4 then (if lw = sNone then askL H (k.data.toList.drop (j + 1)) (l.drop (j + 1)) else lw) else askL H (k.data.toList.drop (j + 1)) (l.drop (j + 1))) := Lib.hid (by
      have h1 := HSP.out
      rw [HBAD.out, hgood] at h1
      exact h1)
     have hv1 : vck = true := (Bool.and_eq_true _ _ ▸ hgood).1
     subst hv1
     rcases Decidable.em (vk = 4) with h4 | h4
     ·have HYT : Hid (y = if lw = sNone then askL H (k.data.toList.drop (j + 1)) (l.drop (j + 1)) else lw) := Lib.hid (by have h1 := HYS.out; rwa [if_pos h4] at h1)
      clear HYS
      subst h4
      cases okb
      all_goals first
       | (have hq : ((4 : Int) == kd) = true := by simpa using hgood)
       | skip
      all_goals clear hgood HBAD HSP
      all_goals
       go_wp2_with fail
       refine (HCK.out _).mono ?_
       rintro e w6 ⟨rfl, e6⟩
       have E6 := Lib.hid (HEA.out.trans e6)
       have ER6 := Lib.hid (HER.out.trans e6)
       have H6 := Lib.hid (HHA.out.ext e6)
       have BX6 := HBX.out.ext e6
       have x0 := BX6.cell 0
       have x1 := BX6.cell 1
       have x2 := BX6.cell 2
       simp only [List.getElem?_toArray, List.getElem?_cons_zero, List.getElem?_cons_succ] at x0 x1 x2
       have hl6 := BX6.lt
       clear e6 BX6
       go_wp2_with fail
       refine (must_yes _ _).mono ?_
       rintro e w7 ⟨rfl, rfl⟩
       go_wp2_with fail
       rcases Decidable.em (lw = sNone) with hlw0 | hlw0
       ·refine (HLG1.out _ H6.out hlw0).mono ?_
        rintro e w8 ⟨rfl, e8⟩
        have HR : Hid (askL H (k.data.toList.drop (j + 1)) (l.drop (j + 1)) = y) := Lib.hid (by rw [HYT.out, if_pos hlw0])
        have ER8 := Lib.hid (ER6.out.trans e8)
        clear e8 hlw0
        go_wp2_with fail
        go_roundw
        case rel => exact ⟨j + 1, by go_num, by omega, ER8, HR⟩
        case measure => simp [intOf]; omega
       ·refine (HLG0.out _ H6.out hlw0).mono ?_
        rintro e w8 ⟨he, e8⟩
        have HR : Hid (lw = y) := Lib.hid (by rw [HYT.out, if_neg hlw0])
        cases he
        exact ⟨rfl, ⟨fun hn => absurd (HR.out.trans hn) hlw0, fun _ => by rw [← HR.out]; rfl⟩, E6.out.trans e8⟩
     ·have hb4 : (vk == 4) = false := by rw [beq_eq_false_iff_ne]; exact h4
      have HR : Hid (askL H (k.data.toList.drop (j + 1)) (l.drop (j + 1)) = y) := Lib.hid (by rw [HYS.out, if_neg h4])
      cases okb
      all_goals first
       | (have hq : (vk == kd) = true := by simpa using hgood)
       | skip
      all_goals clear hgood HBAD HSP h4
      all_goals
       go_wp2_with fail
       refine (HCK.out _).mono ?_
       rintro e w6 ⟨rfl, e6⟩
       have ER6 := Lib.hid (HER.out.trans e6)
       have BX6 := HBX.out.ext e6
       have x0 := BX6.cell 0
       have x1 := BX6.cell 1
       have x2 := BX6.cell 2
       simp only [List.getElem?_toArray, List.getElem?_cons_zero, List.getElem?_cons_succ] at x0 x1 x2
       have hl6 := BX6.lt
       clear e6 BX6
       go_wp2_with fail
       refine (must_yes _ _).mono ?_
       rintro e w7 ⟨rfl, rfl⟩
       go_wp2_with fail
       go_roundw
       case rel => exact ⟨j + 1, by go_num, by omega, ER6, HR⟩
       case measure => simp [intOf]; omega
    ·have HYS : Hid (sType = y) := Lib.hid (by
      have h1 := HSP.out
      rw [HBAD.out, Bool.eq_false_iff.2 hgood] at h1
      exact h1.symm)
     have hfin : ∀ W, Ext (wr.alloc (.cells #[.int .i64 vk, .int .i64 vn, .string vs] 26)) W → AskE y (.panicked [{ v := failV sType, recovered := false }]) ∧ Ext w W := fun W hW => ⟨⟨fun hn => absurd (HYS.out.trans hn) (by decide), fun _ => by rw [← HYS.out]; rfl⟩, HEA.out.trans hW⟩
     have HFIN := Lib.hid hfin
     clear hfin HSP HBAD
     cases vck
     ·clear hgood
      go_wp2_with fail
      refine (HCK.out _).mono ?_
      rintro e w6 ⟨rfl, e6⟩
      go_wp2_with fail
      refine (must_no _ _).mono ?_
      rintro e w7 ⟨rfl, rfl⟩
      exact ⟨rfl, HFIN.out _ e6⟩
     ·cases okb
      ·simp at hgood
      ·have hq : (vk == kd) = false := by simpa using hgood
       clear hgood
       go_wp2_with fail
       refine (HCK.out _).mono ?_
       rintro e w6 ⟨rfl, e6⟩
       have BX6 := HBX.out.ext e6
       have x0 := BX6.cell 0
       simp only [List.getElem?_toArray, List.getElem?_cons_zero, List.getElem?_cons_succ] at x0
       have hl6 := BX6.lt
       go_wp2_with fail
       refine (must_no _ _).mono ?_
       rintro e w7 ⟨rfl, rfl⟩
       exact ⟨rfl, HFIN.out _ e6⟩
   ·have hd : decide ((j : Int) < (m : Int)) = false := decide_eq_false (by omega)
    have HYE : Hid (y = sNone) := Lib.hid (by
     have h1 := HYJ.out
     rw [show l.drop j = [] from List.drop_eq_nil_of_le (by rw [HM.out]; omega)] at h1
     rw [← h1]
     cases k.data.toList.drop j <;> rfl)
    have HEE := Lib.hid (E5.out.trans HE.out)
    go_wp2_with fail
    go_end0
    exact ⟨⟨fun _ => rfl, fun hn => absurd HYE.out hn⟩, HEE.out⟩
 ·obtain ⟨hc, _⟩ | ⟨bk, rfl, hb, hx⟩ := hk
  ·exact absurd hc hnil
  have hnk : 0 < ks.length := by
   cases ks with
   | nil => exact absurd rfl hnil
   | cons _ _ => simp
  have hix := index_ask (w.alloc (.cells #[.slice q m cap] 35)) _ ks ((KindAt.ext (.inr ⟨bk, rfl, hb, hx⟩) E1.out)) hn w.heap.size q m cap cb1
  obtain ⟨nk, hnk2⟩ : ∃ nk, ks.length = nk := ⟨_, rfl⟩
  rw [hnk2] at hix hn hnk ⊢
  have heq : (binOp .eql 55 (.slice (some ⟨bk, 0, none⟩) nk nk) (.slice none 0 0)).run Tryz.prog (w.alloc (.cells #[.slice q m cap] 35)) = .ok (.bool false) (w.alloc (.cells #[.slice q m cap] 35)) := Lib.run_eql_slice_nil (P := Tryz.prog) _ 55 9 (some ⟨bk, 0, none⟩) nk nk 0 0 Tryz.underlying55
  cases hi : idxL ks m with
  | none =>
   rw [hi] at hix
   have HY : Hid (sArgs = y) := Lib.hid (by
    have h1 := HY0.out
    unfold pickK at h1
    rw [if_neg hnil, hi] at h1
    exact h1)
   have hz : idxZ none = -1 := rfl
   rw [hz] at hix
   have HIX := Lib.hid hix
   clear hi hx hnil HI0 HA HY0 hix
   go_enter Tryz.func37, Tryz.ntmps37
   go_wp2_with fail
   refine HIX.out.mono ?_
   rintro e w1 ⟨rfl, rfl⟩
   go_wp2_with fail
   refine (must_no _ _).mono ?_
   rintro e w1 ⟨rfl, rfl⟩
   exact ⟨rfl, ⟨fun hn => absurd hn (by rw [← HY.out]; decide), fun _ => by rw [← HY.out]; rfl⟩, E1.out⟩
  | some ik =>
   rw [hi] at hix
   obtain ⟨hik, hsz⟩ := idxL_some ks m ik hi
   have ck1 := (E1.out.cells.1 _ _ hb).trans (hx ik hik)
   obtain ⟨k, hkk⟩ : ∃ k, ks[ik] = k := ⟨_, rfl⟩
   rw [hkk] at ck1 hsz
   have HY : Hid (askL H (k.data.toList.drop 0) (l.drop 0) = y) := Lib.hid (by
    have h1 := HY0.out
    unfold pickK at h1
    rw [if_neg hnil, hi] at h1
    simp only [Option.map_some] at h1
    rw [List.getD_eq_getElem?_getD, List.getElem?_eq_getElem hik, Option.getD_some, hkk] at h1
    exact h1)
   have hks : k.size = m := hsz
   rw [hnk2] at hik
   have hd1 : decide (ik < nk) = true := decide_eq_true hik
   have hd2 : decide ((ik : Int) < (nk : Int)) = true := decide_eq_true (by omega)
   have hz : idxZ (some ik) = (ik : Int) := rfl
   rw [hz] at hix
   have HIX := Lib.hid hix
   obtain ⟨z1, z2, w5, u1, u2, u3, e5, im⟩ := kind_made (w.alloc (.cells #[.slice q m cap] 35))
   have E5 := Lib.hid (E1.out.trans e5)
   rw [size_alloc] at u1 u2 u3 im
   have IM := Lib.hid im
   have hbw : bk < w5.heap.size := Nat.lt_of_lt_of_le hb E5.out.le
   have CB : Hid (∀ W, Ext w5 W → W.cell? ⟨w.heap.size, 0, none⟩ = some (.slice q m cap)) := Lib.hid (fun W hW => (((e5.trans hW)).cells.1 _ _ (by rw [size_alloc]; omega)).trans cb1)
   have CK : Hid (∀ W, Ext w5 W → W.cell? ⟨bk, ik, none⟩ = some (.string k)) := Lib.hid (fun W hW => ((e5.trans hW).cells.1 _ _ (by rw [size_alloc]; omega)).trans ck1)
   have cb5 := CB.out w5 (Ext.refl _)
   have hmm := @run_makeMap Tryz.prog
   clear hi hx hnil HY0 hix hsz hkk e5 im ck1
   go_enter Tryz.func37, Tryz.ntmps37
   go_wp2_with fail
   refine HIX.out.mono ?_
   rintro e w1 ⟨rfl, rfl⟩
   go_wp2_with fail
   refine (must_yes _ _).mono ?_
   rintro e w1 ⟨rfl, rfl⟩
   have HA5 := Lib.hid (HA.out.ext E5.out)
   go_wp2_with fail
   clear u1 u2 u3 hmm HIX cb5 heq
   go_loopw [28] (fun jv wr => ∃ j : Nat, jv = .int .i64 j ∧ j ≤ m ∧ Hid (Ext w5 wr) ∧ Hid (askL H (k.data.toList.drop j) (l.drop j) = y)) (fun jv _ => m - (intOf jv).toNat)
   case atStart => exact ⟨0, rfl, Nat.zero_le _, Lib.hid (Ext.refl _), HY⟩
   case round =>
    obtain ⟨j, rfl, hj, HE, HYJ⟩ := hrel
    by_cases hlt : j < m
    ·obtain ⟨v, hv⟩ : ∃ v, l[j]? = some v := ⟨_, List.getElem?_eq_getElem (by rw [HM.out]; exact hlt)⟩
     obtain ⟨b, o, rfl, ax⟩ := HA5.out.at_ j v hv
     have ax2 := ax.ext HE.out
     have c0 := ax2.k
     have c1 := ax2.n
     have c2 := ax2.s
     have cb : wr.cell? ⟨w.heap.size, 0, none⟩ = some (.slice (some ⟨b, o, none⟩) m cap) := CB.out wr HE.out
     have ck : wr.cell? ⟨bk, ik, none⟩ = some (.string k) := CK.out wr HE.out
     have hd : decide ((j : Int) < (m : Int)) = true := decide_eq_true (by omega)
     have hd' : decide (j < m) = true := decide_eq_true hlt
     have hjk : j < k.size := by rw [hks]; exact hlt
     have hdk : decide ((j : Int) < (k.size : Int)) = true := decide_eq_true (by omega)
     obtain ⟨kd, okb, hlk, hbad⟩ := kind_look (w := wr.alloc (.cells #[.int .i64 v.k, .int .i64 v.n, .string v.s] 26)) (IM.out.of (((HE.out.alloc _).block _ IM.out.lt))) k[j] v
     have hspl : askL H (k.data.toList.drop j) (l.drop j) = if kindBad k[j] v then sType else if v.k = 4 then (if lenW H v = sNone then askL H (k.data.toList.drop (j + 1)) (l.drop (j + 1)) else lenW H v) else askL H (k.data.toList.drop (j + 1)) (l.drop (j + 1)) := by
      obtain ⟨hl1, hl2⟩ := List.getElem?_eq_some_iff.1 hv
      rw [List.drop_eq_getElem_cons hl1, hl2, List.drop_eq_getElem_cons (show j < k.data.toList.length from hjk)]
      rfl
     rw [HYJ.out] at hspl
     have HHH := Lib.hid ((HI0.out.ext E5.out).ext HE.out)
     have HEE := Lib.hid (E5.out.trans HE.out)
     obtain ⟨kc, hkc⟩ : ∃ kc, k[j] = kc := ⟨_, rfl⟩
     rw [hkc] at hlk hspl hbad
     have hck := fun W => check_any v.k v.n v.s W
     have hlg1 := fun W hh hw => long_yes g tv rs H v W hh hlen hw
     have hlg0 := fun W hh hw => long_no g tv rs H v W hh hlen hw
     have hkk : ∃ vck, v.ck = vck := ⟨_, rfl⟩
     obtain ⟨vck, hvck⟩ := hkk
     have hck2 : ∀ W, Calls Tryz.prog 40 #[.agg #[.int .i64 v.k, .int .i64 v.n, .string v.s]] W fun e w' => e = .returned (.bool vck) ∧ Ext W w' := fun W => by rw [← hvck]; exact hck W
     obtain ⟨lw, hlw⟩ : ∃ lw, lenW H v = lw := ⟨_, rfl⟩
     rw [hvck] at hbad
     rw [hlw] at hspl hlg1 hlg0
     have HSP := Lib.hid hspl
     have HLG1 := Lib.hid hlg1
     have HLG0 := Lib.hid hlg0
     have HCK := Lib.hid hck2
     obtain ⟨vk, vn, vs⟩ := v
     simp only at c0 c1 c2 hbad hlk
     have HBAD := Lib.hid hbad
     have hb2 := ax2.lt
     have hb3 : bk < wr.heap.size := Nat.lt_of_lt_of_le hbw HE.out.le
     clear ax ax2 hv hspl hck hlg1 hlg0 hck2 hvck hlw hbad
     have HBX : Hid (Blk (wr.alloc (.cells #[.int .i64 vk, .int .i64 vn, .string vs] 26)) wr.heap.size 26 #[.int .i64 vk, .int .i64 vn, .string vs]) := Lib.hid (Blk.new _ _ _)
     have HEA := Lib.hid (HEE.out.alloc (.cells #[.int .i64 vk, .int .i64 vn, .string vs] 26))
     have HHA := Lib.hid (HHH.out.alloc (.cells #[.int .i64 vk, .int .i64 vn, .string vs] 26))
     have HER := Lib.hid (HE.out.alloc (.cells #[.int .i64 vk, .int .i64 vn, .string vs] 26))
     by_cases hgood : (vck && (!okb || (vk == kd))) = true
     ·have HYS : Hid (y = if vk = 4 then (if lw = sNone then askL H (k.data.toList.drop (j + 1)) (l.drop (j + 1)) else lw) else askL H (k.data.toList.drop (j + 1)) (l.drop (j + 1))) := Lib.hid (by
       have h1 := HSP.out
       rw [HBAD.out, hgood] at h1
       exact h1)
      have hv1 : vck = true := (Bool.and_eq_true _ _ ▸ hgood).1
      subst hv1
      rcases Decidable.em (vk = 4) with h4 | h4
      ·have HYT : Hid (y = if lw = sNone then askL H (k.data.toList.drop (j + 1)) (l.drop (j + 1)) else lw) := Lib.hid (by have h1 := HYS.out; rwa [if_pos h4] at h1)
       clear HYS
       subst h4
       cases okb
       all_goals first
        | (have hq : ((4 : Int) == kd) = true := by simpa using hgood)
        | skip
       all_goals clear hgood HBAD HSP
       all_goals
        go_wp2_with fail
        refine (HCK.out _).mono ?_
        rintro e w6 ⟨rfl, e6⟩
        have E6 := Lib.hid (HEA.out.trans e6)
        have ER6 := Lib.hid (HER.out.trans e6)
        have H6 := Lib.hid (HHA.out.ext e6)
        have BX6 := HBX.out.ext e6
        have x0 := BX6.cell 0
        have x1 := BX6.cell 1
        have x2 := BX6.cell 2
        simp only [List.getElem?_toArray, List.getElem?_cons_zero, List.getElem?_cons_succ] at x0 x1 x2
        have hl6 := BX6.lt
        clear e6 BX6
        go_wp2_with fail
        refine (must_yes _ _).mono ?_
        rintro e w7 ⟨rfl, rfl⟩
        go_wp2_with fail
        rcases Decidable.em (lw = sNone) with hlw0 | hlw0
        ·refine (HLG1.out _ H6.out hlw0).mono ?_
         rintro e w8 ⟨rfl, e8⟩
         have HR : Hid (askL H (k.data.toList.drop (j + 1)) (l.drop (j + 1)) = y) := Lib.hid (by rw [HYT.out, if_pos hlw0])
         have ER8 := Lib.hid (ER6.out.trans e8)
         clear e8 hlw0
         go_wp2_with fail
         go_roundw
         case rel => exact ⟨j + 1, by go_num, by omega, ER8, HR⟩
         case measure => simp [intOf]; omega
        ·refine (HLG0.out _ H6.out hlw0).mono ?_
         rintro e w8 ⟨he, e8⟩
         have HR : Hid (lw = y) := Lib.hid (by rw [HYT.out, if_neg hlw0])
         cases he
         exact ⟨rfl, ⟨fun hn => absurd (HR.out.trans hn) hlw0, fun _ => by rw [← HR.out]; rfl⟩, E6.out.trans e8⟩
      ·have hb4 : (vk == 4) = false := by rw [beq_eq_false_iff_ne]; exact h4
       have HR : Hid (askL H (k.data.toList.drop (j + 1)) (l.drop (j + 1)) = y) := Lib.hid (by rw [HYS.out, if_neg h4])
       cases okb
       all_goals first
        | (have hq : (vk == kd) = true := by simpa using hgood)
        | skip
       all_goals clear hgood HBAD HSP h4
       all_goals
        go_wp2_with fail
        refine (HCK.out _).mono ?_
        rintro e w6 ⟨rfl, e6⟩
        have ER6 := Lib.hid (HER.out.trans e6)
        have BX6 := HBX.out.ext e6
        have x0 := BX6.cell 0
        have x1 := BX6.cell 1
        have x2 := BX6.cell 2
        simp only [List.getElem?_toArray, List.getElem?_cons_zero, List.getElem?_cons_succ] at x0 x1 x2
        have hl6 := BX6.lt
        clear e6 BX6
        go_wp2_with fail
        refine (must_yes _ _).mono ?_
        rintro e w7 ⟨rfl, rfl⟩
        go_wp2_with fail
        go_roundw
        case rel => exact ⟨j + 1, by go_num, by omega, ER6, HR⟩
        case measure => simp [intOf]; omega
     ·have HYS : Hid (sType = y) := Lib.hid (by
       have h1 := HSP.out
       rw [HBAD.out, Bool.eq_false_iff.2 hgood] at h1
       exact h1.symm)
      have hfin : ∀ W, Ext (wr.alloc (.cells #[.int .i64 vk, .int .i64 vn, .string vs] 26)) W → AskE y (.panicked [{ v := failV sType, recovered := false }]) ∧ Ext w W := fun W hW => ⟨⟨fun hn => absurd (HYS.out.trans hn) (by decide), fun _ => by rw [← HYS.out]; rfl⟩, HEA.out.trans hW⟩
      have HFIN := Lib.hid hfin
      clear hfin HSP HBAD
      cases vck
      ·clear hgood
       go_wp2_with fail
       refine (HCK.out _).mono ?_
       rintro e w6 ⟨rfl, e6⟩
       go_wp2_with fail
       refine (must_no _ _).mono ?_
       rintro e w7 ⟨rfl, rfl⟩
       exact ⟨rfl, HFIN.out _ e6⟩
      ·cases okb
       ·simp at hgood
       ·have hq : (vk == kd) = false := by simpa using hgood
        clear hgood
        go_wp2_with fail
        refine (HCK.out _).mono ?_
        rintro e w6 ⟨rfl, e6⟩
        have BX6 := HBX.out.ext e6
        have x0 := BX6.cell 0
        simp only [List.getElem?_toArray, List.getElem?_cons_zero, List.getElem?_cons_succ] at x0
        have hl6 := BX6.lt
        go_wp2_with fail
        refine (must_no _ _).mono ?_
        rintro e w7 ⟨rfl, rfl⟩
        exact ⟨rfl, HFIN.out _ e6⟩
    ·have hd : decide ((j : Int) < (m : Int)) = false := decide_eq_false (by omega)
     have HYE : Hid (y = sNone) := Lib.hid (by
      have h1 := HYJ.out
      rw [show l.drop j = [] from List.drop_eq_nil_of_le (by rw [HM.out]; omega)] at h1
      rw [← h1]
      cases k.data.toList.drop j <;> rfl)
     have HEE := Lib.hid (E5.out.trans HE.out)
     go_wp2_with fail
     go_end0
     exact ⟨⟨fun _ => rfl, fun hn => absurd HYE.out hn⟩, HEE.out⟩
end Go.Proofs.YtfagldjhibdfhaaGreatDoor
namespace Go.Proofs.YtfagldjhibdfhaaGreatDoor
open Go.RowKit
set_option linter.unusedVariables false
set_option linter.unusedSimpArgs false

theorem askW_eq (H : Hp) (f : Nat) (l : List Vl) (hf : f < 13) : askW H f l = askP H (kindS f) l := by
  obtain ⟨m, hm⟩ : ∃ m, l.length = m := ⟨_, rfl⟩
  have hm2 : m = 0 ∨ m = 1 ∨ m = 2 ∨ m = 3 ∨ 4 ≤ m := by omega
  have : f = 0 ∨ f = 1 ∨ f = 2 ∨ f = 3 ∨ f = 4 ∨ f = 5 ∨ f = 6 ∨ f = 7 ∨ f = 8 ∨ f = 9 ∨ f = 10 ∨ f = 11 ∨ f = 12 := by omega
  unfold askW askP
  rw [hm]
  rcases this with rfl | rfl | rfl | rfl | rfl | rfl | rfl | rfl | rfl | rfl | rfl | rfl | rfl
  case inr.inl =>
    have e1 : kindsP 1 m = List.replicate m 110 := rfl
    have e2 : pickK (kindS 1) m = some (List.replicate m 110) := rfl
    rw [e1, e2, List.length_replicate, if_pos rfl]
  all_goals
    rcases hm2 with rfl | rfl | rfl | rfl | h4
    all_goals first
      | rfl
      | (have k1 : m ≠ 1 := by omega
         have k2 : m ≠ 2 := by omega
         have k3 : m ≠ 3 := by omega
         simp [kindsP, pickK, kindS, idxL, ByteArray.size, k1, k2, k3, Ne.symm k1, Ne.symm k2, Ne.symm k3])
end Go.Proofs.YtfagldjhibdfhaaGreatDoor
namespace Go.Proofs.YtfagldjhibdfhaaGreatDoor
open Go.RowKit
set_option linter.unusedVariables false
set_option linter.unusedSimpArgs false

set_option maxRecDepth 100000 in
set_option maxHeartbeats 800000 in
theorem sub2_any (g : Nat) (tv : Value) (rs : List (Nat × Nat)) (H : Hp) (w : World) (h : HeapIn w g tv rs H) (b o cap : Nat) (x0 x1 : Vl) (hs : x0.s.size ≤ 1048576) (hf : in64 x1.n)
  (a0 : ArgAt w b o x0) (a1 : ArgAt w b (o + 3) x1) :
  Calls Tryz.prog 60 #[.pointer (some ⟨g, 0, none⟩), .slice (some ⟨b, o, none⟩) 2 cap] w (DoE w g tv rs (mkR H (ba (subL x0.s.data.toList x1.n (-1))))) := by
 obtain ⟨k0, n0, s⟩ := x0
 obtain ⟨k1, f, s1⟩ := x1
 simp only at hs hf ⊢
 have c2 := a0.s
 have c4 := a1.n
 have hb := a0.lt
 simp only at c2 c4
 have HI := Lib.hid (h.alloc (.cells #[.int .i64 0, .int .i64 0, .string ⟨#[]⟩] 26))
 have HB := Lib.hid (Blk.new w 26 #[.int .i64 0, .int .i64 0, .string ⟨#[]⟩])
 have HN : Hid (¬ Foot g tv rs w.heap.size) := Lib.hid (fun hx => Nat.lt_irrefl _ (h.low hx))
 have HW := Lib.hid ((Ext.refl w).alloc (.cells #[.int .i64 0, .int .i64 0, .string ⟨#[]⟩] 26))
 have HD := Lib.hid (sub_bounds f (-1) s.size)
 have HZ : Hid ((ba (subL s.data.toList f (-1))).size ≤ 1048576) := Lib.hid (by rw [ba_size]; have := subL_len s.data.toList f (-1); have e : s.data.toList.length = s.size := rfl; omega)
 have HS0 : Hid (subB (-1) s.size < subA f s.size → (⟨#[]⟩ : ByteArray) = ba (subL s.data.toList f (-1))) := Lib.hid (fun hlt => by
  rw [subL_none _ _ _ hlt]; rfl)
 have HS1 : Hid ((s.extract ((subA f s.size).toNat - 1) (subB (-1) s.size).toNat) = ba (subL s.data.toList f (-1))) := Lib.hid (by
  obtain ⟨d1, d2, d3⟩ := sub_bounds f (-1) s.size
  rw [← ba_of (s.extract _ _), Lib.extract_data]
  unfold subL
  have e : s.data.toList.length = s.size := rfl
  have e1 : (subA f s.size - 1).toNat = (subA f s.size).toNat - 1 := by omega
  rw [e, e1, List.drop_take])
 obtain ⟨r, hr⟩ : ∃ r, mkR H (ba (subL s.data.toList f (-1))) = r := ⟨_, rfl⟩
 rw [hr]
 have HR := Lib.hid hr
 clear h a0 a1 hr
 go_enter Tryz.func60, Tryz.ntmps60
 go_wp2_with fail
 refine (place_any f s.size (by omega) hf _).mono ?_
 rintro e w1 ⟨rfl, rfl⟩
 go_wp2_with fail
 refine (place_any (-1) s.size (by omega) ⟨by decide, by decide⟩ _).mono ?_
 rintro e w1 ⟨rfl, rfl⟩
 go_wp2_with fail
 ·have hlt : min (s.size : Int) (placeI (-1) s.size) < max 1 (placeI f s.size) := by assumption
  have HR0 := Lib.hid (show mkR H ⟨#[]⟩ = r by rw [HS0.out hlt]; exact HR.out)
  clear hlt
  refine (make_step g tv rs H (⟨#[]⟩) _ HI.out (by decide)).mono ?_
  rintro e w2 ⟨rfl, s2⟩
  have hr : mkR H (⟨#[]⟩) = r := HR0.out
  rw [hr] at s2 ⊢
  have S2 := Lib.hid (HS.pre HW.out s2)
  have B2 := Lib.hid (HB.out.step s2 HN.out)
  clear s2 hr HI HB
  rcases Decidable.em (r.w = sNone) with hw | hw
  ·have HWn := Lib.hid hw
   rw [hw]
   clear hw
   go_wp2_with fail
   refine (got_yes _ _).mono ?_
   rintro e w3 ⟨rfl, e3⟩
   have S3 := Lib.hid (S2.out.ext e3)
   obtain ⟨z0, z1, z2, y0, y1, y2⟩ := three (B2.out.ext e3)
   have hlt := (B2.out.ext e3).lt
   clear e3 S2 B2
   go_wp2_with fail
   exact bodyPost_ret (v := r.v.v) (by simp [results, Tryz.results60, go_sem, *]) rfl (DoE.yes HWn.out (S3.out.set3 (Nat.le_refl _) HN.out _ _ _))
  ·go_wp2_with fail
   refine (got_no _ _ hw _).mono ?_
   rintro e w3 ⟨rfl, e3⟩
   go_wp2_with fail
   exact ⟨rfl, DoE.no hw (S2.out.ext e3)⟩
 ·have HR0 := Lib.hid (show mkR H (s.extract ((max 1 (placeI f s.size)).toNat - 1) (min (s.size : Int) (placeI (-1) s.size)).toNat) = r by rw [show s.extract ((max 1 (placeI f s.size)).toNat - 1) (min (s.size : Int) (placeI (-1) s.size)).toNat = _ from HS1.out]; exact HR.out)
  have HZ0 := Lib.hid (show (s.extract ((max 1 (placeI f s.size)).toNat - 1) (min (s.size : Int) (placeI (-1) s.size)).toNat).size ≤ 1048576 by rw [show s.extract ((max 1 (placeI f s.size)).toNat - 1) (min (s.size : Int) (placeI (-1) s.size)).toNat = _ from HS1.out]; exact HZ.out)
  refine (make_step g tv rs H (s.extract ((max 1 (placeI f s.size)).toNat - 1) (min (s.size : Int) (placeI (-1) s.size)).toNat) _ HI.out (by have := HZ0.out; omega)).mono ?_
  rintro e w2 ⟨rfl, s2⟩
  have hr : mkR H (s.extract ((max 1 (placeI f s.size)).toNat - 1) (min (s.size : Int) (placeI (-1) s.size)).toNat) = r := HR0.out
  rw [hr] at s2 ⊢
  have S2 := Lib.hid (HS.pre HW.out s2)
  have B2 := Lib.hid (HB.out.step s2 HN.out)
  clear s2 hr HI HB
  rcases Decidable.em (r.w = sNone) with hw | hw
  ·have HWn := Lib.hid hw
   rw [hw]
   clear hw
   go_wp2_with fail
   refine (got_yes _ _).mono ?_
   rintro e w3 ⟨rfl, e3⟩
   have S3 := Lib.hid (S2.out.ext e3)
   obtain ⟨z0, z1, z2, y0, y1, y2⟩ := three (B2.out.ext e3)
   have hlt := (B2.out.ext e3).lt
   clear e3 S2 B2
   go_wp2_with fail
   exact bodyPost_ret (v := r.v.v) (by simp [results, Tryz.results60, go_sem, *]) rfl (DoE.yes HWn.out (S3.out.set3 (Nat.le_refl _) HN.out _ _ _))
  ·go_wp2_with fail
   refine (got_no _ _ hw _).mono ?_
   rintro e w3 ⟨rfl, e3⟩
   go_wp2_with fail
   exact ⟨rfl, DoE.no hw (S2.out.ext e3)⟩
set_option maxRecDepth 100000 in
set_option maxHeartbeats 800000 in
theorem sub3_any (g : Nat) (tv : Value) (rs : List (Nat × Nat)) (H : Hp) (w : World) (h : HeapIn w g tv rs H) (b o cap : Nat) (x0 x1 : Vl) (x2 : Vl) (hs : x0.s.size ≤ 1048576) (hf : in64 x1.n)
  (a0 : ArgAt w b o x0) (a1 : ArgAt w b (o + 3) x1) (hu : in64 x2.n) (a2 : ArgAt w b (o + 6) x2) :
  Calls Tryz.prog 60 #[.pointer (some ⟨g, 0, none⟩), .slice (some ⟨b, o, none⟩) 3 cap] w (DoE w g tv rs (mkR H (ba (subL x0.s.data.toList x1.n x2.n)))) := by
 obtain ⟨k0, n0, s⟩ := x0
 obtain ⟨k1, f, s1⟩ := x1
 obtain ⟨k2, u, s2⟩ := x2
 simp only at hs hf hu ⊢
 have c2 := a0.s
 have c4 := a1.n
 have c7 := a2.n
 have hb := a0.lt
 simp only at c2 c4 c7
 have HI := Lib.hid (h.alloc (.cells #[.int .i64 0, .int .i64 0, .string ⟨#[]⟩] 26))
 have HB := Lib.hid (Blk.new w 26 #[.int .i64 0, .int .i64 0, .string ⟨#[]⟩])
 have HN : Hid (¬ Foot g tv rs w.heap.size) := Lib.hid (fun hx => Nat.lt_irrefl _ (h.low hx))
 have HW := Lib.hid ((Ext.refl w).alloc (.cells #[.int .i64 0, .int .i64 0, .string ⟨#[]⟩] 26))
 have HD := Lib.hid (sub_bounds f u s.size)
 have HZ : Hid ((ba (subL s.data.toList f u)).size ≤ 1048576) := Lib.hid (by rw [ba_size]; have := subL_len s.data.toList f u; have e : s.data.toList.length = s.size := rfl; omega)
 have HS0 : Hid (subB u s.size < subA f s.size → (⟨#[]⟩ : ByteArray) = ba (subL s.data.toList f u)) := Lib.hid (fun hlt => by
  rw [subL_none _ _ _ hlt]; rfl)
 have HS1 : Hid ((s.extract ((subA f s.size).toNat - 1) (subB u s.size).toNat) = ba (subL s.data.toList f u)) := Lib.hid (by
  obtain ⟨d1, d2, d3⟩ := sub_bounds f u s.size
  rw [← ba_of (s.extract _ _), Lib.extract_data]
  unfold subL
  have e : s.data.toList.length = s.size := rfl
  have e1 : (subA f s.size - 1).toNat = (subA f s.size).toNat - 1 := by omega
  rw [e, e1, List.drop_take])
 obtain ⟨r, hr⟩ : ∃ r, mkR H (ba (subL s.data.toList f u)) = r := ⟨_, rfl⟩
 rw [hr]
 have HR := Lib.hid hr
 clear h a0 a1 hr a2
 go_enter Tryz.func60, Tryz.ntmps60
 go_wp2_with fail
 refine (place_any f s.size (by omega) hf _).mono ?_
 rintro e w1 ⟨rfl, rfl⟩
 go_wp2_with fail
 refine (place_any u s.size (by omega) hu _).mono ?_
 rintro e w1 ⟨rfl, rfl⟩
 go_wp2_with fail
 ·have hlt : min (s.size : Int) (placeI u s.size) < max 1 (placeI f s.size) := by assumption
  have HR0 := Lib.hid (show mkR H ⟨#[]⟩ = r by rw [HS0.out hlt]; exact HR.out)
  clear hlt
  refine (make_step g tv rs H (⟨#[]⟩) _ HI.out (by decide)).mono ?_
  rintro e w2 ⟨rfl, s2⟩
  have hr : mkR H (⟨#[]⟩) = r := HR0.out
  rw [hr] at s2 ⊢
  have S2 := Lib.hid (HS.pre HW.out s2)
  have B2 := Lib.hid (HB.out.step s2 HN.out)
  clear s2 hr HI HB
  rcases Decidable.em (r.w = sNone) with hw | hw
  ·have HWn := Lib.hid hw
   rw [hw]
   clear hw
   go_wp2_with fail
   refine (got_yes _ _).mono ?_
   rintro e w3 ⟨rfl, e3⟩
   have S3 := Lib.hid (S2.out.ext e3)
   obtain ⟨z0, z1, z2, y0, y1, y2⟩ := three (B2.out.ext e3)
   have hlt := (B2.out.ext e3).lt
   clear e3 S2 B2
   go_wp2_with fail
   exact bodyPost_ret (v := r.v.v) (by simp [results, Tryz.results60, go_sem, *]) rfl (DoE.yes HWn.out (S3.out.set3 (Nat.le_refl _) HN.out _ _ _))
  ·go_wp2_with fail
   refine (got_no _ _ hw _).mono ?_
   rintro e w3 ⟨rfl, e3⟩
   go_wp2_with fail
   exact ⟨rfl, DoE.no hw (S2.out.ext e3)⟩
 ·have HR0 := Lib.hid (show mkR H (s.extract ((max 1 (placeI f s.size)).toNat - 1) (min (s.size : Int) (placeI u s.size)).toNat) = r by rw [show s.extract ((max 1 (placeI f s.size)).toNat - 1) (min (s.size : Int) (placeI u s.size)).toNat = _ from HS1.out]; exact HR.out)
  have HZ0 := Lib.hid (show (s.extract ((max 1 (placeI f s.size)).toNat - 1) (min (s.size : Int) (placeI u s.size)).toNat).size ≤ 1048576 by rw [show s.extract ((max 1 (placeI f s.size)).toNat - 1) (min (s.size : Int) (placeI u s.size)).toNat = _ from HS1.out]; exact HZ.out)
  refine (make_step g tv rs H (s.extract ((max 1 (placeI f s.size)).toNat - 1) (min (s.size : Int) (placeI u s.size)).toNat) _ HI.out (by have := HZ0.out; omega)).mono ?_
  rintro e w2 ⟨rfl, s2⟩
  have hr : mkR H (s.extract ((max 1 (placeI f s.size)).toNat - 1) (min (s.size : Int) (placeI u s.size)).toNat) = r := HR0.out
  rw [hr] at s2 ⊢
  have S2 := Lib.hid (HS.pre HW.out s2)
  have B2 := Lib.hid (HB.out.step s2 HN.out)
  clear s2 hr HI HB
  rcases Decidable.em (r.w = sNone) with hw | hw
  ·have HWn := Lib.hid hw
   rw [hw]
   clear hw
   go_wp2_with fail
   refine (got_yes _ _).mono ?_
   rintro e w3 ⟨rfl, e3⟩
   have S3 := Lib.hid (S2.out.ext e3)
   obtain ⟨z0, z1, z2, y0, y1, y2⟩ := three (B2.out.ext e3)
   have hlt := (B2.out.ext e3).lt
   clear e3 S2 B2
   go_wp2_with fail
   exact bodyPost_ret (v := r.v.v) (by simp [results, Tryz.results60, go_sem, *]) rfl (DoE.yes HWn.out (S3.out.set3 (Nat.le_refl _) HN.out _ _ _))
  ·go_wp2_with fail
   refine (got_no _ _ hw _).mono ?_
   rintro e w3 ⟨rfl, e3⟩
   go_wp2_with fail
   exact ⟨rfl, DoE.no hw (S2.out.ext e3)⟩
end Go.Proofs.YtfagldjhibdfhaaGreatDoor
namespace Go.Proofs.YtfagldjhibdfhaaGreatDoor
open Go.RowKit
set_option linter.unusedVariables false
set_option linter.unusedSimpArgs false

set_option maxRecDepth 100000 in
set_option maxHeartbeats 800000 in
theorem type_any (g : Nat) (tv : Value) (rs : List (Nat × Nat)) (H : Hp) (w : World) (h : HeapIn w g tv rs H) (b o cap nb : Nat) (x0 : Vl) (hk : 0 ≤ x0.k ∧ x0.k ≤ 4) (a0 : ArgAt w b o x0) (hnb : nb < w.heap.size)
  (hn : ∀ i : Nat, i < 5 → w.cell? ⟨nb, i, none⟩ = some (.string (kindName i))) :
  Calls Tryz.prog 52 #[.pointer (some ⟨g, 0, none⟩), .slice (some ⟨b, o, none⟩) 1 cap, .pointer (some ⟨nb, 0, none⟩)] w (DoE w g tv rs (mkR H (kindName x0.k))) := by
 obtain ⟨k, n0, s⟩ := x0
 simp only at hk ⊢
 have c0 := a0.k
 simp only at c0
 have hb := a0.lt
 obtain ⟨kk, rfl⟩ : ∃ kk : Nat, k = (kk : Int) := ⟨k.toNat, by omega⟩
 have cn := hn kk (by omega)
 have hkk : kk < 5 := by omega
 have hkI : (kk : Int) < 5 := by omega
 obtain ⟨nm, hnm⟩ : ∃ nm, kindName (kk : Int) = nm := ⟨_, rfl⟩
 rw [hnm] at cn ⊢
 have hz : nm.size ≤ 1048576 := by
  rw [← hnm]; unfold kindName
  split
  ·decide
  ·split
   ·decide
   ·split
    ·decide
    ·split <;> decide
 have HZ := Lib.hid hz
 have HI := Lib.hid (h.alloc (.cells #[.int .i64 0, .int .i64 0, .string ⟨#[]⟩] 26))
 have HB := Lib.hid (Blk.new w 26 #[.int .i64 0, .int .i64 0, .string ⟨#[]⟩])
 have HN : Hid (¬ Foot g tv rs w.heap.size) := Lib.hid (fun hx => Nat.lt_irrefl _ (h.low hx))
 have HW := Lib.hid ((Ext.refl w).alloc (.cells #[.int .i64 0, .int .i64 0, .string ⟨#[]⟩] 26))
 obtain ⟨r, hr⟩ : ∃ r, mkR H nm = r := ⟨_, rfl⟩
 rw [hr]
 have HR := Lib.hid hr
 clear h a0 hn hr hz hnm hk
 go_enter Tryz.func52, Tryz.ntmps52
 go_wp2_with fail
 refine (make_step g tv rs H (nm) _ HI.out (by have := HZ.out; omega)).mono ?_
 rintro e w2 ⟨rfl, s2⟩
 have hr : mkR H (nm) = r := HR.out
 rw [hr] at s2 ⊢
 have S2 := Lib.hid (HS.pre HW.out s2)
 have B2 := Lib.hid (HB.out.step s2 HN.out)
 clear s2 hr HI HB
 rcases Decidable.em (r.w = sNone) with hw | hw
 ·have HWn := Lib.hid hw
  rw [hw]
  clear hw
  go_wp2_with fail
  refine (got_yes _ _).mono ?_
  rintro e w3 ⟨rfl, e3⟩
  have S3 := Lib.hid (S2.out.ext e3)
  obtain ⟨z0, z1, z2, y0, y1, y2⟩ := three (B2.out.ext e3)
  have hlt := (B2.out.ext e3).lt
  clear e3 S2 B2
  go_wp2_with fail
  exact bodyPost_ret (v := r.v.v) (by simp [results, Tryz.results52, go_sem, *]) rfl (DoE.yes HWn.out (S3.out.set3 (Nat.le_refl _) HN.out _ _ _))
 ·go_wp2_with fail
  refine (got_no _ _ hw _).mono ?_
  rintro e w3 ⟨rfl, e3⟩
  go_wp2_with fail
  exact ⟨rfl, DoE.no hw (S2.out.ext e3)⟩
set_option maxRecDepth 100000 in
set_option maxHeartbeats 800000 in
theorem tostring_any (g : Nat) (tv : Value) (rs : List (Nat × Nat)) (H : Hp) (w : World) (h : HeapIn w g tv rs H) (hL : Pow w) (b o cap : Nat) (x0 : Vl) (hk : 0 ≤ x0.k ∧ x0.k ≤ 4) (hn : in64 x0.n) (hs : x0.s.size ≤ 1048576) (a0 : ArgAt w b o x0) :
  Calls Tryz.prog 55 #[.pointer (some ⟨g, 0, none⟩), .slice (some ⟨b, o, none⟩) 1 cap] w (DoE w g tv rs (mkR H (toldV x0))) := by
 obtain ⟨k, n0, s⟩ := x0
 have c0 := a0.k
 have c1 := a0.n
 have c2 := a0.s
 simp only at c0 c1 c2
 have hb := a0.lt
 have HZ := Lib.hid (toldV_size ⟨k, n0, s⟩ hs hn)
 have cT := Lib.hid (told_any ⟨k, n0, s⟩ hk hn _ (hL.alloc (.cells #[.int .i64 0, .int .i64 0, .string ⟨#[]⟩] 26)))
 obtain ⟨nm, hnm⟩ : ∃ nm, toldV ⟨k, n0, s⟩ = nm := ⟨_, rfl⟩
 rw [hnm] at HZ cT ⊢
 have HI := Lib.hid (h.alloc (.cells #[.int .i64 0, .int .i64 0, .string ⟨#[]⟩] 26))
 have HB := Lib.hid (Blk.new w 26 #[.int .i64 0, .int .i64 0, .string ⟨#[]⟩])
 have HN : Hid (¬ Foot g tv rs w.heap.size) := Lib.hid (fun hx => Nat.lt_irrefl _ (h.low hx))
 have HW := Lib.hid ((Ext.refl w).alloc (.cells #[.int .i64 0, .int .i64 0, .string ⟨#[]⟩] 26))
 obtain ⟨r, hr⟩ : ∃ r, mkR H nm = r := ⟨_, rfl⟩
 rw [hr]
 have HR := Lib.hid hr
 clear h a0 hr hnm hk hs hn hL
 go_enter Tryz.func55, Tryz.ntmps55
 go_wp2_with fail
 refine cT.out.mono ?_
 rintro e w1 ⟨rfl, e1⟩
 have W1 := Lib.hid (HW.out.trans e1)
 replace HI := Lib.hid (HI.out.ext e1)
 replace HB := Lib.hid (HB.out.ext e1)
 replace HW := Lib.hid W1.out
 clear W1 e1
 clear cT
 go_wp2_with fail
 refine (make_step g tv rs H (nm) _ HI.out (by have := HZ.out; omega)).mono ?_
 rintro e w2 ⟨rfl, s2⟩
 have hr : mkR H (nm) = r := HR.out
 rw [hr] at s2 ⊢
 have S2 := Lib.hid (HS.pre HW.out s2)
 have B2 := Lib.hid (HB.out.step s2 HN.out)
 clear s2 hr HI HB
 rcases Decidable.em (r.w = sNone) with hw | hw
 ·have HWn := Lib.hid hw
  rw [hw]
  clear hw
  go_wp2_with fail
  refine (got_yes _ _).mono ?_
  rintro e w3 ⟨rfl, e3⟩
  have S3 := Lib.hid (S2.out.ext e3)
  obtain ⟨z0, z1, z2, y0, y1, y2⟩ := three (B2.out.ext e3)
  have hlt := (B2.out.ext e3).lt
  clear e3 S2 B2
  go_wp2_with fail
  exact bodyPost_ret (v := r.v.v) (by simp [results, Tryz.results55, go_sem, *]) rfl (DoE.yes HWn.out (S3.out.set3 (Nat.le_refl _) HN.out _ _ _))
 ·go_wp2_with fail
  refine (got_no _ _ hw _).mono ?_
  rintro e w3 ⟨rfl, e3⟩
  go_wp2_with fail
  exact ⟨rfl, DoE.no hw (S2.out.ext e3)⟩
set_option maxRecDepth 100000 in
set_option maxHeartbeats 800000 in
theorem len_do (g : Nat) (tv : Value) (rs : List (Nat × Nat)) (H : Hp) (w : World) (h : HeapIn w g tv rs H) (hlen : H.tabs.length ≤ 9223372036854775807) (b o cap : Nat) (x0 : Vl) (a0 : ArgAt w b o x0) :
  Calls Tryz.prog 58 #[.pointer (some ⟨g, 0, none⟩), .slice (some ⟨b, o, none⟩) 1 cap] w (DoE w g tv rs (lenR H x0)) := by
 have HI0 := Lib.hid h
 have hb := a0.lt
 have HI := Lib.hid (h.alloc (.cells #[.int .i64 0, .int .i64 0, .string ⟨#[]⟩] 26))
 have HB := Lib.hid (Blk.new w 26 #[.int .i64 0, .int .i64 0, .string ⟨#[]⟩])
 have HN : Hid (¬ Foot g tv rs w.heap.size) := Lib.hid (fun hx => Nat.lt_irrefl _ (h.low hx))
 have HW := Lib.hid ((Ext.refl w).alloc (.cells #[.int .i64 0, .int .i64 0, .string ⟨#[]⟩] 26))
 rcases Decidable.em (lenW H x0 = sNone) with hw | hw
 ·have cT := Lib.hid (long_yes g tv rs H x0 _ HI.out hlen hw)
  have HV : Hid (Rs.ok H (iK (lenV H x0)) = lenR H x0) := Lib.hid (by unfold lenR; rw [if_pos hw])
  obtain ⟨k, n0, s⟩ := x0
  have c0 := a0.k
  have c1 := a0.n
  have c2 := a0.s
  simp only at c0 c1 c2
  obtain ⟨n, hn⟩ : ∃ n, lenV H ⟨k, n0, s⟩ = n := ⟨_, rfl⟩
  rw [hn] at cT HV
  clear h a0 hw hn hlen
  go_enter Tryz.func58, Tryz.ntmps58
  go_wp2_with fail
  refine cT.out.mono ?_
  rintro e w1 ⟨rfl, e1⟩
  have W1 := Lib.hid (HW.out.trans e1)
  replace HI := Lib.hid (HI.out.ext e1)
  replace HB := Lib.hid (HB.out.ext e1)
  replace HW := Lib.hid W1.out
  clear W1 e1
  clear cT
  go_wp2_with fail
  refine (int_any _ _).mono ?_
  rintro e w1 ⟨rfl, e1⟩
  have W1 := Lib.hid (HW.out.trans e1)
  replace HI := Lib.hid (HI.out.ext e1)
  replace HB := Lib.hid (HB.out.ext e1)
  replace HW := Lib.hid W1.out
  clear W1 e1
  obtain ⟨z0, z1, z2, y0, y1, y2⟩ := three HB.out
  have hlt := HB.out.lt
  go_wp2_with fail
  exact bodyPost_ret (v := (iK n).v) (by simp [results, Tryz.results58, go_sem, iK, sNone, Vl.zero, *]) rfl (by have hv := HV.out; rw [← hv]; exact DoE.yes (r := Rs.ok H _) rfl ((HS.of_ext HI0.out HW.out).set3 (Nat.le_refl _) HN.out _ _ _))
 ·have cT := Lib.hid (long_no g tv rs H x0 _ HI.out hlen hw)
  have HV : Hid (Rs.no H (lenW H x0) = lenR H x0) := Lib.hid (by unfold lenR; rw [if_neg hw])
  have HNE := Lib.hid hw
  obtain ⟨k, n0, s⟩ := x0
  have c0 := a0.k
  have c1 := a0.n
  have c2 := a0.s
  simp only at c0 c1 c2
  obtain ⟨n, hn⟩ : ∃ n, lenW H ⟨k, n0, s⟩ = n := ⟨_, rfl⟩
  rw [hn] at cT HV HNE
  clear h a0 hw hn hlen
  go_enter Tryz.func58, Tryz.ntmps58
  go_wp2_with fail
  refine cT.out.mono ?_
  rintro e w1 ⟨rfl, e1⟩
  have W1 := Lib.hid (HW.out.trans e1)
  replace HI := Lib.hid (HI.out.ext e1)
  replace HB := Lib.hid (HB.out.ext e1)
  replace HW := Lib.hid W1.out
  clear W1 e1
  clear cT
  go_wp2_with fail
  exact ⟨rfl, by rw [← HV.out]; exact DoE.no (r := Rs.no H n) HNE.out (HS.of_ext HI0.out HW.out)⟩
end Go.Proofs.YtfagldjhibdfhaaGreatDoor
namespace Go.Proofs.YtfagldjhibdfhaaGreatDoor
open Go.RowKit
set_option linter.unusedVariables false
set_option linter.unusedSimpArgs false

set_option maxRecDepth 100000 in
set_option maxHeartbeats 1600000 in
theorem find_do (g : Nat) (tv : Value) (rs : List (Nat × Nat)) (H : Hp) (w : World) (h : HeapIn w g tv rs H) (hL : LLaid w) (b o cap : Nat) (x0 x1 : Vl) (hs : x0.s.size ≤ 1048576) (a0 : ArgAt w b o x0) (a1 : ArgAt w b (o + 3) x1) :
  Calls Tryz.prog 64 #[.pointer (some ⟨g, 0, none⟩), .slice (some ⟨b, o, none⟩) 2 cap] w (DoE w g tv rs (Rs.ok H (findV x0.s x1.s))) := by
 obtain ⟨k0, n0, s⟩ := x0
 obtain ⟨k1, n, t⟩ := x1
 simp only at hs ⊢
 have HI0 := Lib.hid h
 have c2 := a0.s
 have c4 := a1.s
 simp only at c2 c4
 have hb := a0.lt
 obtain ⟨m, hm⟩ := (hL.ext ((Ext.refl w).alloc (.cells #[.int .i64 0, .int .i64 0, .string ⟨#[]⟩] 26))).mx
 have hx := fun (W : World) (hW : W.cell? ⟨0, 0, none⟩ = some (.int .i64 m)) => Tryz.strings_Index s t m W (by omega) hW
 obtain ⟨i, hi⟩ : ∃ i, Lib.index s.data.toList t.data.toList = i := ⟨_, rfl⟩
 have hge := Lib.index_ge s.data.toList t.data.toList
 have hle := Lib.index_le s.data.toList t.data.toList
 have hsz : s.data.toList.length = s.size := rfl
 rw [hsz] at hle
 have hfv : findV s t = if 0 ≤ i then iK (i + 1) else Vl.zero := by unfold findV; rw [hi]
 rw [hi] at hx hge hle
 have HX := Lib.hid hx
 have HM := Lib.hid hm
 have HI := Lib.hid (h.alloc (.cells #[.int .i64 0, .int .i64 0, .string ⟨#[]⟩] 26))
 have HB := Lib.hid (Blk.new w 26 #[.int .i64 0, .int .i64 0, .string ⟨#[]⟩])
 have HN : Hid (¬ Foot g tv rs w.heap.size) := Lib.hid (fun hx => Nat.lt_irrefl _ (h.low hx))
 have HW := Lib.hid ((Ext.refl w).alloc (.cells #[.int .i64 0, .int .i64 0, .string ⟨#[]⟩] 26))
 by_cases h0 : 0 ≤ i
 ·rw [hfv, if_pos h0]
  have hd : decide (0 ≤ i) = true := decide_eq_true h0
  have hub : i ≤ 1048576 := by omega
  clear a0 a1 h hs hfv hx hm hi hL hsz
  go_enter Tryz.func64, Tryz.ntmps64
  go_wp2_with fail
  go_quiet ((go_at_call 65; refine Calls.quiet_of_same (HX.out _ ?_); exact HM.out))
  go_wp2_with fail
  refine (int_any _ _).mono ?_
  rintro e w1 ⟨rfl, e2⟩
  have e1 := Ext.trans ((Ext.refl _).drewN _) e2
  clear e2
  have W1 := Lib.hid (HW.out.trans e1)
  replace HI := Lib.hid (HI.out.ext e1)
  replace HB := Lib.hid (HB.out.ext e1)
  replace HW := Lib.hid W1.out
  clear W1 e1
  obtain ⟨z0, z1, z2, y0, y1, y2⟩ := three HB.out
  have hlt := HB.out.lt
  go_wp2_with fail
  exact bodyPost_ret (v := (iK (i + 1)).v) (by simp [results, Tryz.results64, go_sem, iK, sNone, Vl.zero, *]) rfl (by have hv := (rfl : Rs.ok H (iK (i + 1)) = Rs.ok H (iK (i + 1))); rw [← hv]; exact DoE.yes (r := Rs.ok H _) rfl ((HS.of_ext HI0.out HW.out).set3 (Nat.le_refl _) HN.out _ _ _))
 ·rw [hfv, if_neg h0]
  have hd : decide (0 ≤ i) = false := decide_eq_false h0
  clear a0 a1 h hs hfv hx hm hi hL hsz
  go_enter Tryz.func64, Tryz.ntmps64
  go_wp2_with fail
  go_quiet ((go_at_call 65; refine Calls.quiet_of_same (HX.out _ ?_); exact HM.out))
  obtain ⟨z0, z1, z2, y0, y1, y2⟩ := three HB.out
  have hlt := HB.out.lt
  go_wp2_with fail
  exact bodyPost_ret (v := Vl.zero.v) (by simp [results, Tryz.results64, go_sem, Vl.zero, *]) rfl (DoE.yes (r := Rs.ok H _) rfl ((HS.of_ext HI0.out (HW.out.drewN _)).set3 (Nat.le_refl _) HN.out _ _ _))
end Go.Proofs.YtfagldjhibdfhaaGreatDoor
namespace Go.Proofs.YtfagldjhibdfhaaGreatDoor
open Go.RowKit
set_option linter.unusedVariables false
set_option linter.unusedSimpArgs false

set_option maxRecDepth 100000 in
set_option maxHeartbeats 1600000 in
theorem byte_do (g : Nat) (tv : Value) (rs : List (Nat × Nat)) (H : Hp) (w : World) (h : HeapIn w g tv rs H) (b o cap : Nat) (x0 x1 : Vl) (hs : x0.s.size ≤ 1048576) (hn : in64 x1.n) (a0 : ArgAt w b o x0) (a1 : ArgAt w b (o + 3) x1) :
  Calls Tryz.prog 66 #[.pointer (some ⟨g, 0, none⟩), .slice (some ⟨b, o, none⟩) 2 cap] w (DoE w g tv rs (Rs.ok H (byteV x0.s x1.n))) := by
 obtain ⟨k0, n0, s⟩ := x0
 obtain ⟨k1, n, t⟩ := x1
 simp only at hs hn ⊢
 have HI0 := Lib.hid h
 have c2 := a0.s
 have c4 := a1.n
 simp only at c2 c4
 have hb := a0.lt
 have HP := Lib.hid (fun (W : World) => (place_any n s.size (by omega) hn W).mono (R' := fun e w' => e = .returned (.int .i64 (placeI n s.size)) ∧ w' = W) fun e w' h => ⟨h.1, h.2.symm⟩)
 have hat : atL s.data.toList n = if placeI n s.size < 1 ∨ (s.size : Int) < placeI n s.size then none else some (s.data.toList.getD (placeI n s.size - 1).toNat 0) := rfl
 obtain ⟨p, hp⟩ : ∃ p, placeI n s.size = p := ⟨_, rfl⟩
 rw [hp] at HP hat
 have HI := Lib.hid (h.alloc (.cells #[.int .i64 0, .int .i64 0, .string ⟨#[]⟩] 26))
 have HB := Lib.hid (Blk.new w 26 #[.int .i64 0, .int .i64 0, .string ⟨#[]⟩])
 have HN : Hid (¬ Foot g tv rs w.heap.size) := Lib.hid (fun hx => Nat.lt_irrefl _ (h.low hx))
 have HW := Lib.hid ((Ext.refl w).alloc (.cells #[.int .i64 0, .int .i64 0, .string ⟨#[]⟩] 26))
 by_cases h1 : p < 1
 ·have HV : Hid (byteV s n = Vl.zero) := Lib.hid (by unfold byteV; rw [hat, if_pos (.inl h1)])
  have hd : decide (p < 1) = true := decide_eq_true h1
  clear a0 a1 h hs hn hat hp
  go_enter Tryz.func66, Tryz.ntmps66
  go_wp2_with fail
  go_quiet ((go_at_call 67; refine Calls.quiet_of_same (HP.out _)))
  obtain ⟨z0, z1, z2, y0, y1, y2⟩ := three HB.out
  have hlt := HB.out.lt
  go_wp2_with fail
  rw [HV.out]
  exact bodyPost_ret (v := Vl.zero.v) (by simp [results, Tryz.results66, go_sem, Vl.zero, *]) rfl (DoE.yes (r := Rs.ok H _) rfl ((HS.of_ext HI0.out (HW.out.drewN _)).set3 (Nat.le_refl _) HN.out _ _ _))
 ·by_cases h2 : (s.size : Int) < p
  ·have HV : Hid (byteV s n = Vl.zero) := Lib.hid (by unfold byteV; rw [hat, if_pos (.inr h2)])
   have hd : decide (p < 1) = false := decide_eq_false h1
   have hd2 : decide ((s.size : Int) < p) = true := decide_eq_true h2
   clear a0 a1 h hs hn hat hp
   go_enter Tryz.func66, Tryz.ntmps66
   go_wp2_with fail
   go_quiet ((go_at_call 67; refine Calls.quiet_of_same (HP.out _)))
   obtain ⟨z0, z1, z2, y0, y1, y2⟩ := three HB.out
   have hlt := HB.out.lt
   go_wp2_with fail
   rw [HV.out]
   exact bodyPost_ret (v := Vl.zero.v) (by simp [results, Tryz.results66, go_sem, Vl.zero, *]) rfl (DoE.yes (r := Rs.ok H _) rfl ((HS.of_ext HI0.out (HW.out.drewN _)).set3 (Nat.le_refl _) HN.out _ _ _))
  ·obtain ⟨q, rfl⟩ : ∃ q : Nat, p = (q : Int) + 1 := ⟨(p - 1).toNat, by omega⟩
   have hq : q < s.size := by omega
   have hqi : (q : Int) < (s.size : Int) := by omega
   have e3 : (s.data.toList.getD ((q : Int) + 1 - 1).toNat 0) = s[q] := by
    have e4 : ((q : Int) + 1 - 1).toNat = q := by omega
    rw [e4, List.getD_eq_getElem?_getD, List.getElem?_eq_getElem (by simpa using hq)]; rfl
   have HV : Hid (byteV s n = iK (s[q].toNat : Int)) := Lib.hid (by unfold byteV; rw [hat, if_neg (by omega), e3])
   have hd : decide ((q : Int) + 1 < 1) = false := decide_eq_false h1
   have hd2 : decide ((s.size : Int) < (q : Int) + 1) = false := decide_eq_false h2
   have hqm : (q : Int) ≤ 1048576 := by omega
   have hcb : (s[q].toNat : Int) ≤ 255 := by have := s[q].toNat_lt; omega
   have hq0 : (0 : Int) ≤ (q : Int) := by omega
   clear a0 a1 h hs hn hat hp e3
   go_enter Tryz.func66, Tryz.ntmps66
   go_wp2_with fail
   go_quiet ((go_at_call 67; refine Calls.quiet_of_same (HP.out _)))
   go_wp2_with fail
   refine (int_any _ _).mono ?_
   rintro e w1 ⟨rfl, e2⟩
   have e1 := Ext.trans ((Ext.refl _).drewN _) e2
   clear e2
   have W1 := Lib.hid (HW.out.trans e1)
   replace HI := Lib.hid (HI.out.ext e1)
   replace HB := Lib.hid (HB.out.ext e1)
   replace HW := Lib.hid W1.out
   clear W1 e1
   obtain ⟨z0, z1, z2, y0, y1, y2⟩ := three HB.out
   have hlt := HB.out.lt
   go_wp2_with fail
   rw [HV.out]
   exact bodyPost_ret (v := (iK (s[q].toNat : Int)).v) (by simp [results, Tryz.results66, go_sem, iK, sNone, *]) rfl (DoE.yes (r := Rs.ok H _) rfl ((HS.of_ext HI0.out HW.out).set3 (Nat.le_refl _) HN.out _ _ _))
end Go.Proofs.YtfagldjhibdfhaaGreatDoor
namespace Go.Proofs.YtfagldjhibdfhaaGreatDoor
open Go.RowKit
set_option linter.unusedVariables false
set_option linter.unusedSimpArgs false

def PIntE (s : ByteArray) (w : World) (e : Ending) (w' : World) : Prop :=
 ∃ u ev, e = .returned (.tuple #[.int .i64 u, ev]) ∧ Ext w w' ∧ Hid ((Lib.parseIntB 64 s.data.toList = .ok u ∧ ev = .nilIface) ∨ ((∀ v, ¬ Lib.parseIntB 64 s.data.toList = .ok v) ∧ ∃ T p, ev = .iface T p))
theorem pint_any (s : ByteArray) (hs : s.size ≤ 1048576) (w : World) (hL : LLaid w) : Calls Tryz.prog 93 #[.string s, .int .i64 10, .int .i64 64] w (PIntE s w) := by
 cases hp : Lib.parseIntB 64 s.data.toList with
 | ok v =>
  refine (Tryz.strconv_ParseInt_10_at64_ok s (by omega) v hp w).mono ?_
  rintro e w' ⟨rfl, hw⟩
  refine ⟨v, .nilIface, rfl, ?_, Lib.hid (.inl ⟨hp, rfl⟩)⟩
  rcases hw with rfl | ⟨t, rfl⟩
  ·exact Ext.refl _
  ·exact Lib.bytesWorld_below w _ t
 | range =>
  obtain ⟨te, pe, hc⟩ := hL.rng
  refine (Tryz.strconv_ParseInt_10_at64_range s (by omega) hp _ w hc (.inr ⟨_, _, rfl⟩)).mono ?_
  rintro e w' ⟨n, rfl, _, _, hb⟩
  exact ⟨_, _, rfl, hb, Lib.hid (.inr ⟨fun v => (by rw [hp]; exact fun h => by cases h), _, _, rfl⟩)⟩
 | _ =>
  obtain ⟨te, pe, hc⟩ := hL.syn
  refine (Tryz.strconv_ParseInt_10_at64_syntax s (by omega) (fun v h => by rw [hp] at h; cases h) (fun h => by rw [hp] at h; cases h) _ w hc (.inr ⟨_, _, rfl⟩)).mono ?_
  rintro e w' ⟨n, rfl, _, _, hb⟩
  exact ⟨_, _, rfl, hb, Lib.hid (.inr ⟨fun v => (by rw [hp]; exact fun h => by cases h), _, _, rfl⟩)⟩
set_option maxRecDepth 100000 in
set_option maxHeartbeats 1600000 in
theorem tonum_do (g : Nat) (tv : Value) (rs : List (Nat × Nat)) (H : Hp) (w : World) (h : HeapIn w g tv rs H) (hL : LLaid w) (b o cap : Nat) (x0 : Vl) (hk : 0 ≤ x0.k ∧ x0.k ≤ 4) (hs : x0.s.size ≤ 1048576) (hn : in64 x0.n) (a0 : ArgAt w b o x0) :
  Calls Tryz.prog 57 #[.pointer (some ⟨g, 0, none⟩), .slice (some ⟨b, o, none⟩) 1 cap] w (DoE w g tv rs (Rs.ok H (tonumV x0))) := by
 obtain ⟨k0, n0, s⟩ := x0
 simp only at hk hs hn ⊢
 have HI0 := Lib.hid h
 have c0 := a0.k
 have c1 := a0.n
 have c2 := a0.s
 simp only at c0 c1 c2
 have hb := a0.lt
 have HL := Lib.hid (hL.ext ((Ext.refl w).alloc (.cells #[.int .i64 0, .int .i64 0, .string ⟨#[]⟩] 26)))
 have HZ := Lib.hid hs
 have HI := Lib.hid (h.alloc (.cells #[.int .i64 0, .int .i64 0, .string ⟨#[]⟩] 26))
 have HB := Lib.hid (Blk.new w 26 #[.int .i64 0, .int .i64 0, .string ⟨#[]⟩])
 have HN : Hid (¬ Foot g tv rs w.heap.size) := Lib.hid (fun hx => Nat.lt_irrefl _ (h.low hx))
 have HW := Lib.hid ((Ext.refl w).alloc (.cells #[.int .i64 0, .int .i64 0, .string ⟨#[]⟩] 26))
 by_cases h2 : k0 = 2
 ·subst h2
  clear a0 h hs hn hk hL
  go_enter Tryz.func57, Tryz.ntmps57
  obtain ⟨z0, z1, z2, y0, y1, y2⟩ := three HB.out
  have hlt := HB.out.lt
  go_wp2_with fail
  rw [show tonumV ⟨2, n0, s⟩ = ⟨2, n0, s⟩ from by unfold tonumV; rw [if_pos rfl]]
  exact bodyPost_ret (v := (⟨2, n0, s⟩ : Vl).v) (by simp [results, Tryz.results57, go_sem, *]) rfl (DoE.yes (r := Rs.ok H ⟨2, n0, s⟩) rfl (HS.of_ext HI0.out ((Ext.refl w).alloc _)))
 ·have hk2 : (k0 == 2) = false := by simpa using h2
  by_cases h3 : k0 = 3
  ·subst h3
   clear a0 h hs hn hk hL h2
   go_enter Tryz.func57, Tryz.ntmps57
   go_wp2_with fail
   refine (pint_any s HZ.out _ HL.out).mono ?_
   rintro e w1 ⟨u, ev, rfl, e1, hu⟩
   have c22 := (HW.out.trans e1).cells.1 b (o + 2) hb
   rw [c2] at c22
   have c20 := (HW.out.trans e1).cells.1 b o hb
   rw [c0] at c20
   have HLL := Lib.hid (HL.out.ext e1)
   have W1 := Lib.hid (HW.out.trans e1)
   replace HI := Lib.hid (HI.out.ext e1)
   replace HB := Lib.hid (HB.out.ext e1)
   replace HW := Lib.hid W1.out
   clear W1 e1
   clear c0 c2 hk2 HL
   rcases hu.out with ⟨hu1, rfl⟩ | ⟨hu1, T, p, rfl⟩
   ·have HU := Lib.hid hu1
    have HF := Lib.hid (fun (W : World) (hW : Ext w1 W) => fint_any u W (HLL.out.pow.ext hW) (parse_in HU.out))
    clear hu1 hu
    by_cases hq : ba (Lib.itoa u) = s
    ·have hqb : ((ba (Lib.itoa u)).toList == s.toList) = true := by rw [hq]; simp
     have HV : Hid (tonumV ⟨3, n0, s⟩ = iK u) := Lib.hid (by unfold tonumV tnL; rw [if_neg (by decide : ¬ (3 : Int) = 2), if_pos rfl, HU.out]; simp only []; rw [if_pos (by rw [← hq, ba_list])])
     clear hq
     go_wp2_with fail
     go_region_held3 (fun w' => w'.cell? ⟨b, o, none⟩ = some (.int .i64 3) ∧ w'.cell? ⟨b, o + 2, none⟩ = some (.string s)) (go_keep)
      (first
       | (go_at_call 92; refine (HF.out _ (by repeat (first | exact Ext.refl _ | refine Ext.drew ?_))).mono ?_; rintro e w3 ⟨rfl, e3⟩; have E3 := Lib.hid (show Ext w1 w3 from Ext.trans (by repeat (first | exact Ext.refl _ | refine Ext.drew ?_)) e3); have hbb : b < w1.heap.size := Nat.lt_of_lt_of_le hb (Nat.le_trans (by simp) HW.out.le); have x0 := (E3.out.cells.1 _ _ hbb).trans c20; have x1 := (E3.out.cells.1 _ _ hbb).trans c22; clear e3))
     have e1 := E3.out
     have W1 := Lib.hid (HW.out.trans e1)
     replace HI := Lib.hid (HI.out.ext e1)
     replace HB := Lib.hid (HB.out.ext e1)
     replace HW := Lib.hid W1.out
     clear W1 e1
     clear x0 x1 c20 c22
     go_wp2_with fail
     refine (int_any _ _).mono ?_
     rintro e w4 ⟨rfl, e1⟩
     have W1 := Lib.hid (HW.out.trans e1)
     replace HI := Lib.hid (HI.out.ext e1)
     replace HB := Lib.hid (HB.out.ext e1)
     replace HW := Lib.hid W1.out
     clear W1 e1
     obtain ⟨z0, z1, z2, y0, y1, y2⟩ := three HB.out
     have hlt := HB.out.lt
     go_wp2_with fail
     rw [HV.out]
     exact bodyPost_ret (v := (iK u).v) (by simp [results, Tryz.results57, go_sem, iK, sNone, Vl.zero, *]) rfl (by have hv := (rfl : Rs.ok H (iK u) = Rs.ok H (iK u)); rw [← hv]; exact DoE.yes (r := Rs.ok H _) rfl ((HS.of_ext HI0.out HW.out).set3 (Nat.le_refl _) HN.out _ _ _))
    ·have hqb : ((ba (Lib.itoa u)).toList == s.toList) = false := by
      rw [beq_eq_false_iff_ne]; intro e; rw [Lib.toList_data, Lib.toList_data] at e; exact hq (by rw [← ba_of s, ← e, ba_of])
     have HV : Hid (tonumV ⟨3, n0, s⟩ = Vl.zero) := Lib.hid (by unfold tonumV tnL; rw [if_neg (by decide : ¬ (3 : Int) = 2), if_pos rfl, HU.out]; simp only []; rw [if_neg (fun e => hq (by rw [e, ba_of]))])
     clear hq
     go_wp2_with fail
     go_region_held3 (fun w' => w'.cell? ⟨b, o, none⟩ = some (.int .i64 3) ∧ w'.cell? ⟨b, o + 2, none⟩ = some (.string s)) (go_keep)
      (first
       | (go_at_call 92; refine (HF.out _ (by repeat (first | exact Ext.refl _ | refine Ext.drew ?_))).mono ?_; rintro e w3 ⟨rfl, e3⟩; have E3 := Lib.hid (show Ext w1 w3 from Ext.trans (by repeat (first | exact Ext.refl _ | refine Ext.drew ?_)) e3); have hbb : b < w1.heap.size := Nat.lt_of_lt_of_le hb (Nat.le_trans (by simp) HW.out.le); have x0 := (E3.out.cells.1 _ _ hbb).trans c20; have x1 := (E3.out.cells.1 _ _ hbb).trans c22; clear e3))
     have e1 := E3.out
     have W1 := Lib.hid (HW.out.trans e1)
     replace HI := Lib.hid (HI.out.ext e1)
     replace HB := Lib.hid (HB.out.ext e1)
     replace HW := Lib.hid W1.out
     clear W1 e1
     clear x0 x1 c20 c22
     obtain ⟨z0, z1, z2, y0, y1, y2⟩ := three HB.out
     have hlt := HB.out.lt
     go_wp2_with fail
     rw [HV.out]
     exact bodyPost_ret (v := Vl.zero.v) (by simp [results, Tryz.results57, go_sem, Vl.zero, *]) rfl (DoE.yes (r := Rs.ok H _) rfl ((HS.of_ext HI0.out HW.out).set3 (Nat.le_refl _) HN.out _ _ _))
   ·have HV : Hid (tonumV ⟨3, n0, s⟩ = Vl.zero) := Lib.hid (by unfold tonumV tnL; rw [if_neg (by decide : ¬ (3 : Int) = 2), if_pos rfl]; cases hq : Lib.parseIntB 64 s.data.toList with | ok v => exact absurd hq (hu1 v) | _ => rfl)
    clear hu1 hu
    go_wp2_with fail
    go_quiet (fail)
    obtain ⟨z0, z1, z2, y0, y1, y2⟩ := three HB.out
    have hlt := HB.out.lt
    go_wp2_with fail
    rw [HV.out]
    exact bodyPost_ret (v := Vl.zero.v) (by simp [results, Tryz.results57, go_sem, Vl.zero, *]) rfl (DoE.yes (r := Rs.ok H _) rfl ((HS.of_ext HI0.out (HW.out.drewN _)).set3 (Nat.le_refl _) HN.out _ _ _))
  ·have HV : Hid (tonumV ⟨k0, n0, s⟩ = Vl.zero) := Lib.hid (by unfold tonumV; rw [if_neg h2, if_neg h3])
   have hk3 : (k0 != 3) = true := by simpa using h3
   clear a0 h hs hn hk hL h2 h3
   go_enter Tryz.func57, Tryz.ntmps57
   go_wp2_with fail
   refine (pint_any s HZ.out _ HL.out).mono ?_
   rintro e w1 ⟨u, ev, rfl, e1, hu⟩
   have c20 := (HW.out.trans e1).cells.1 b o hb
   rw [c0] at c20
   have W1 := Lib.hid (HW.out.trans e1)
   replace HI := Lib.hid (HI.out.ext e1)
   replace HB := Lib.hid (HB.out.ext e1)
   replace HW := Lib.hid W1.out
   clear W1 e1
   clear c0 c2 HL hu
   go_wp2_with fail
   go_quiet (fail)
   obtain ⟨z0, z1, z2, y0, y1, y2⟩ := three HB.out
   have hlt := HB.out.lt
   go_wp2_with fail
   rw [HV.out]
   exact bodyPost_ret (v := Vl.zero.v) (by simp [results, Tryz.results57, go_sem, Vl.zero, *]) rfl (DoE.yes (r := Rs.ok H _) rfl ((HS.of_ext HI0.out (HW.out.drewN _)).set3 (Nat.le_refl _) HN.out _ _ _))
end Go.Proofs.YtfagldjhibdfhaaGreatDoor
namespace Go.Proofs.YtfagldjhibdfhaaGreatDoor
open Go.RowKit
set_option linter.unusedVariables false
set_option linter.unusedSimpArgs false

theorem zero_of {v : Vl} (h : v.ck = true) (h0 : v.k = 0) : v = Vl.zero := by
 unfold Vl.ck checkB at h
 simp [h0] at h
 exact Vl.eta h0 h.1 (by have := h.2; exact toList_nil (by first | exact this | simpa using this))
theorem tget_put {T : Tb} (ho : Once T) (k j v : Vl) (hv : v.k = 0 → v = Vl.zero) : tget (tput T k v) j = if k = j then v else tget T j := by
 unfold tget tput
 by_cases h0 : v.k = 0
 ·rw [if_pos h0, mget_del _ _ _ ho]
  by_cases e : k = j
  ·rw [if_pos e, if_pos e, hv h0]; rfl
  ·rw [if_neg e, if_neg e]
 ·rw [if_neg h0, mget_put]
  by_cases e : k = j
  ·rw [if_pos e, if_pos e]; rfl
  ·rw [if_neg e, if_neg e]
theorem len_tput {T : Tb} (h : TbOk T) (k v : Vl) : ((tput T k v).length : Int) = T.length + (if ¬ v.k = 0 ∧ (tget T k).k = 0 then 1 else 0) - (if v.k = 0 ∧ ¬ (tget T k).k = 0 then 1 else 0) := by
 have hs := h.some k
 unfold tput
 by_cases h0 : v.k = 0
 ·rw [if_pos h0, len_del _ _ h.once]
  by_cases hm : mget T k = none
  ·have hz := hs.2 hm
   rw [if_pos hm, if_neg (fun c => c.1 h0), if_neg (fun c => c.2 hz)]; omega
  ·have hp := len_pos_of hm
   have hn : ¬ (tget T k).k = 0 := fun e => hm (hs.1 e)
   rw [if_neg hm, if_neg (fun c => c.1 h0), if_pos ⟨h0, hn⟩]; omega
 ·rw [if_neg h0, len_put]
  by_cases hm : mget T k = none
  ·have hz := hs.2 hm
   rw [if_pos hm, if_pos ⟨h0, hz⟩, if_neg (fun c => h0 c.1)]; omega
  ·have hn : ¬ (tget T k).k = 0 := fun e => hm (hs.1 e)
   rw [if_neg hm, if_neg (fun c => hn c.2), if_neg (fun c => h0 c.1)]; omega
theorem ck_iK (i : Int) : (iK i).ck = true := by
 unfold Vl.ck checkB iK
 have : sNone.toList = [] := sNone_list
 simp [this]
theorem getW_int {H : Hp} {t : Vl} (h : ofW H t = sNone) (i : Int) : getW H t (iK i) = sNone := by
 unfold getW
 rw [if_pos (ck_iK i), if_pos h, if_pos (.inl rfl)]
theorem getV_int {H : Hp} {t : Vl} (h : ofW H t = sNone) (i : Int) : getV H t (iK i) = tget (tabOf H t) (iK i) := by
 unfold getV
 rw [if_pos (getW_int h i)]
theorem ofW_set (H : Hp) (t k v s : Vl) : ofW (setH H t k v) s = ofW H s := by unfold ofW; rw [setH_len]
theorem tabOf_setH {H : Hp} {t k v : Vl} (hof : ofW H t = sNone) (hw : setW H t k v = sNone) : tabOf (setH H t k v) t = tput (tabOf H t) k v := by
 unfold setH
 rw [if_pos hw]
 exact tabOf_set (ofW_none hof).2.2.2.2 _ _ _
theorem setW_old {H : Hp} {t v : Vl} {i : Int} (hof : ofW H t = sNone) (hv : v.ck = true) (h : ¬ (tget (tabOf H t) (iK i)).k = 0 ∨ v.k = 0) : setW H t (iK i) v = sNone := by
 unfold setW
 rw [if_pos hv, if_pos (getW_int hof i)]
 have : freshB H t (iK i) v = false := by
  unfold freshB
  rw [getV_int hof]
  rcases h with h | h
  ·rw [decide_eq_false h]; rfl
  ·rw [decide_eq_true h]; simp
 rw [this]
 simp
structure Put1 (H : Hp) (t : Vl) (i : Int) (v : Vl) (H' : Hp) : Prop where
 ok : HOk H'
 of : ofW H' t = sNone
 get : ∀ j, tget (tabOf H' t) j = if iK i = j then v else tget (tabOf H t) j
 len : ((tabOf H' t).length : Int) = (tabOf H t).length + (if ¬ v.k = 0 ∧ (tget (tabOf H t) (iK i)).k = 0 then 1 else 0) - (if v.k = 0 ∧ ¬ (tget (tabOf H t) (iK i)).k = 0 then 1 else 0)
theorem put1 {H : Hp} (h : HOk H) {t v : Vl} {i : Int} (hof : ofW H t = sNone) (hi : in64 i) (hv : in64 v.n) (hw : setW H t (iK i) v = sNone) : Put1 H t i v (setH H t (iK i) v) := by
 have hT := tabOf_ok h (ofW_none hof).2.2.2.2
 refine ⟨setH_ok h hi hv, by rw [ofW_set]; exact hof, fun j => ?_, ?_⟩
 ·rw [tabOf_setH hof hw, tget_put hT.once _ _ _ (fun h0 => zero_of (setW_none hw).1 h0)]
 ·rw [tabOf_setH hof hw, len_tput hT]
theorem iK_eq {a b : Int} : iK a = iK b ↔ a = b := ⟨iK_inj, fun e => by rw [e]⟩
theorem up_get (t : Vl) (a : Int) (ha : 1 ≤ a) : ∀ (k : Nat) (H : Hp), HOk H → ofW H t = sNone → a + k + 1 ≤ 9223372036854775807 → (upP t a k H).2 = sNone →
  HOk (upP t a k H).1 ∧ ofW (upP t a k H).1 t = sNone ∧
  (∀ i : Int, tget (tabOf (upP t a k H).1 t) (iK i) = if a < i ∧ i ≤ a + k then tget (tabOf H t) (iK (i - 1)) else tget (tabOf H t) (iK i)) ∧
  (∀ s, tget (tabOf (upP t a k H).1 t) (tK s) = tget (tabOf H t) (tK s)) ∧
  ((∀ i : Int, a ≤ i → i ≤ a + k → ¬ (tget (tabOf H t) (iK i)).k = 0) → (tabOf (upP t a k H).1 t).length = (tabOf H t).length)
 | 0, H, h, hof, hb, hw => ⟨h, hof, fun i => by show tget (tabOf H t) (iK i) = _; rw [if_neg (by omega)], fun s => rfl, fun _ => rfl⟩
 | k + 1, H, h, hof, hb, hw => by
  unfold upP at hw ⊢
  by_cases hs : setW H t (iK (a + k + 1)) (getV H t (iK (a + k))) = sNone
  ·rw [if_pos hs] at hw ⊢
   have p := put1 h hof ⟨by omega, by omega⟩ (getV_ok h t _).1 hs
   obtain ⟨r1, r2, r3, r4, r5⟩ := up_get t a ha k _ p.ok p.of (by omega) hw
   have hg := getV_int hof (a + k)
   refine ⟨r1, r2, fun i => ?_, fun s => ?_, fun hall => ?_⟩
   ·rw [r3]
    by_cases hi : a < i ∧ i ≤ a + k
    ·rw [if_pos hi, if_pos (by omega), p.get, if_neg (by rw [iK_eq]; omega)]
    ·rw [if_neg hi, p.get]
     by_cases he : a + k + 1 = i
     ·rw [if_pos (by rw [he]), if_pos (by omega), hg]
      have : i - 1 = a + k := by omega
      rw [this]
     ·rw [if_neg (by rw [iK_eq]; exact he), if_neg (by omega)]
   ·rw [r4, p.get, if_neg (iK_tK _ _)]
   ·have hl := p.len
    have h1 := hall (a + k) (by omega) (by omega)
    have h2 := hall (a + k + 1) (by omega) (by omega)
    rw [if_neg (fun c => h2 c.2), if_neg (fun c => h1 (by rw [← hg]; exact c.1))] at hl
    have := r5 (fun i h3 h4 => by rw [p.get, if_neg (by rw [iK_eq]; omega)]; exact hall i h3 (by omega))
    omega
  ·rw [if_neg hs] at hw
   exact absurd hw hs
theorem dn_get (t : Vl) (n : Int) (hn : n ≤ 9223372036854775807) : ∀ (k : Nat) (H : Hp), HOk H → ofW H t = sNone → 1 ≤ n - k → (∀ i : Int, n - k ≤ i → i ≤ n → ¬ (tget (tabOf H t) (iK i)).k = 0) →
  (dnP t n k H).2 = sNone ∧ HOk (dnP t n k H).1 ∧ ofW (dnP t n k H).1 t = sNone ∧
  (∀ i : Int, tget (tabOf (dnP t n k H).1 t) (iK i) = if n - k ≤ i ∧ i < n then tget (tabOf H t) (iK (i + 1)) else tget (tabOf H t) (iK i)) ∧
  (∀ s, tget (tabOf (dnP t n k H).1 t) (tK s) = tget (tabOf H t) (tK s)) ∧ (tabOf (dnP t n k H).1 t).length = (tabOf H t).length
 | 0, H, h, hof, hb, hall => ⟨rfl, h, hof, fun i => by show tget (tabOf H t) (iK i) = _; rw [if_neg (by omega)], fun s => rfl, rfl⟩
 | k + 1, H, h, hof, hb, hall => by
  have hg := getV_int hof (n - k)
  have hs : setW H t (iK (n - k - 1)) (getV H t (iK (n - k))) = sNone := setW_old hof (getV_ok h t _).2.1 (.inl (hall _ (by omega) (by omega)))
  unfold dnP
  rw [if_pos hs]
  have p := put1 h hof ⟨by omega, by omega⟩ (getV_ok h t _).1 hs
  have h1 := hall (n - k - 1) (by omega) (by omega)
  have h2 := hall (n - k) (by omega) (by omega)
  obtain ⟨r0, r1, r2, r3, r4, r5⟩ := dn_get t n hn k _ p.ok p.of (by omega) (fun i h3 h4 => by rw [p.get, if_neg (by rw [iK_eq]; omega)]; exact hall i (by omega) h4)
  refine ⟨r0, r1, r2, fun i => ?_, fun s => ?_, ?_⟩
  ·rw [r3]
   by_cases hi : n - k ≤ i ∧ i < n
   ·rw [if_pos hi, if_pos (by omega), p.get, if_neg (by rw [iK_eq]; omega)]
   ·rw [if_neg hi, p.get]
    by_cases he : n - k - 1 = i
    ·rw [if_pos (by rw [he]), if_pos (by omega), hg]
     have : i + 1 = n - k := by omega
     rw [this]
    ·rw [if_neg (by rw [iK_eq]; exact he), if_neg (by omega)]
  ·rw [r4, p.get, if_neg (iK_tK _ _)]
  ·have hl := p.len
   rw [if_neg (fun c => h1 c.2), if_neg (fun c => h2 (by rw [← hg]; exact c.1))] at hl
   omega
theorem keysL_nodup {T : Tb} (h : TbOk T) : (keysL T).Nodup := (keysL_perm h).nodup_iff.2 h.once
theorem keysL_ext {T U : Tb} (hT : TbOk T) (hU : TbOk U) (h : ∀ k, KOk k → ((tget T k).k = 0 ↔ (tget U k).k = 0)) : keysL T = keysL U := by
 have mem : ∀ k, k ∈ keysL T ↔ k ∈ keysL U := fun k => by
  have hm : ∀ {V : Tb} (hV : TbOk V), k ∈ keysL V ↔ (KOk k ∧ ¬ (tget V k).k = 0) := fun {V} hV => by
   rw [keysL_mem hV, hV.some]
   constructor
   ·intro hk
    obtain ⟨x, hx, rfl⟩ := List.mem_map.1 hk
    exact ⟨hV.key x hx, fun e => (mget_mem V x.1).1 e hk⟩
   ·rintro ⟨_, hn⟩
    rcases Decidable.em (k ∈ V.map (·.1)) with h1 | h1
    ·exact h1
    ·exact absurd ((mget_mem V k).2 h1) hn
  rw [hm hT, hm hU]
  exact ⟨fun ⟨a, b⟩ => ⟨a, fun e => b ((h k a).2 e)⟩, fun ⟨a, b⟩ => ⟨a, fun e => b ((h k a).1 e)⟩⟩
 have hp : (keysL T).Perm (keysL U) := (List.perm_ext_iff_of_nodup (keysL_nodup hT) (keysL_nodup hU)).2 mem
 exact hp.eq_of_pairwise (le := fun a b => leK a b = true) (fun a b ha hb h1 h2 => leK_antisymm (keysL_ok hT a ha) (keysL_ok hU b hb) h1 h2) (keysL_sorted T) (keysL_sorted U)
theorem tget_nil {T : Tb} (h : TbOk T) {k : Vl} (h0 : (tget T k).k = 0) : tget T k = Vl.zero := by
 unfold tget
 rw [(h.some k).1 h0]; rfl
theorem lenV_tab {H : Hp} {t : Vl} (hof : ofW H t = sNone) : lenV H t = tlen (tabOf H t) ∧ lenW H t = sNone := by
 have h4 := (ofW_none hof).2.1
 unfold lenV lenW
 have hc : (t.ck && decide (t.k = 3)) = false := by simp [h4]
 simp only [hc, Bool.false_eq_true, if_false, if_pos hof]
 exact ⟨trivial, hof⟩
theorem tlen_more {T : Tb} (h : TbOk T) (m : Nat) (hm : ∀ i : Int, 1 ≤ i → i ≤ m → ¬ (tget T (iK i)).k = 0) : m ≤ tlen T := by
 have he := tlen_end h
 rcases Nat.lt_or_ge (tlen T) m with hl | hl
 ·exact absurd he (hm _ (by omega) (by omega))
 ·exact hl
theorem tlen_some {T : Tb} (h : TbOk T) (i : Int) (h1 : 1 ≤ i) (h2 : i ≤ tlen T) : ¬ (tget T (iK i)).k = 0 := by
 have := tlen_in h (i - 1).toNat (by omega)
 have e : (((i - 1).toNat : Nat) : Int) + 1 = i := by omega
 rwa [e] at this
structure Ins (H : Hp) (t : Vl) (p : Int) (v : Vl) (H1 : Hp) : Prop where
 p1 : 1 ≤ p
 p2 : p ≤ tlen (tabOf H t) + 1
 some : ¬ v.k = 0
 ok : HOk H1
 of : ofW H1 t = sNone
 get : ∀ i : Int, tget (tabOf H1 t) (iK i) = if i = p then v else if p < i ∧ i ≤ tlen (tabOf H t) + 1 then tget (tabOf H t) (iK (i - 1)) else tget (tabOf H t) (iK i)
 txt : ∀ s, tget (tabOf H1 t) (tK s) = tget (tabOf H t) (tK s)
 len : (tabOf H1 t).length = (tabOf H t).length + 1
theorem ins_any {H : Hp} (h : HOk H) {t v : Vl} {p : Int} (hof : ofW H t = sNone) (hv : in64 v.n) (hw : (insertR H t p v).w = sNone) : Ins H t p v (insertR H t p v).H := by
 have hT := tabOf_ok h (ofW_none hof).2.2.2.2
 have hlen := (lenV_tab hof).1
 have hmost := Nat.le_trans (tlen_le hT) hT.most
 unfold insertR at hw ⊢
 rw [hlen] at hw ⊢
 by_cases hr : p < 1 ∨ (tlen (tabOf H t) : Int) + 1 < p
 ·rw [if_pos hr] at hw; exact absurd (show sRange = sNone from hw) (by decide)
 rw [if_neg hr] at hw ⊢
 by_cases h0 : v.k = 0
 ·rw [if_pos h0] at hw; exact absurd (show sType = sNone from hw) (by decide)
 rw [if_neg h0] at hw ⊢
 obtain ⟨k, hk⟩ : ∃ k : Nat, ((tlen (tabOf H t) : Int) + 1 - p).toNat = k := ⟨_, rfl⟩
 have hpk : p + k = tlen (tabOf H t) + 1 := by omega
 simp only [hk] at hw ⊢
 by_cases hx : (upP t p k H).2 = sNone
 ·rw [if_pos hx] at hw ⊢
  obtain ⟨r1, r2, r3, r4, r5⟩ := up_get t p (by omega) k H h hof (by omega) hx
  have q := put1 r1 r2 (i := p) (v := v) ⟨by omega, by omega⟩ hv hw
  refine ⟨by omega, by omega, h0, q.ok, q.of, fun i => ?_, fun s => ?_, ?_⟩
  ·show tget (tabOf (setH (upP t p k H).1 t (iK p) v) t) (iK i) = _
   rw [q.get, r3, hpk]
   by_cases e : i = p
   ·rw [if_pos (by rw [e]), if_pos e]
   ·rw [if_neg (by rw [iK_eq]; omega), if_neg e]
  ·show tget (tabOf (setH (upP t p k H).1 t (iK p) v) t) (tK s) = _
   rw [q.get, if_neg (iK_tK _ _), r4]
  ·show (tabOf (setH (upP t p k H).1 t (iK p) v) t).length = _
   have hl := q.len
   have hend := tlen_end hT
   cases k with
   | zero =>
    have he : p = tlen (tabOf H t) + 1 := by omega
    have e1 : upP t p 0 H = (H, sNone) := rfl
    rw [e1] at hl ⊢
    simp only [] at hl ⊢
    rw [he] at hl ⊢
    rw [if_pos ⟨h0, hend⟩, if_neg (by omega)] at hl
    omega
   | succ k =>
    have hpm : p + k = tlen (tabOf H t) := by omega
    have hsome : ∀ i : Int, 1 ≤ i → i ≤ tlen (tabOf H t) → ¬ (tget (tabOf H t) (iK i)).k = 0 := fun i a b => tlen_some hT i a b
    have hxx := hx
    unfold upP at hxx
    have hs : setW H t (iK (p + k + 1)) (getV H t (iK (p + k))) = sNone := by
     by_cases hs : setW H t (iK (p + k + 1)) (getV H t (iK (p + k))) = sNone
     ·exact hs
     ·rw [if_neg hs] at hxx; exact absurd hxx hs
    rw [if_pos hs] at hxx
    have p1 := put1 h hof ⟨by omega, by omega⟩ (getV_ok h t _).1 hs
    have hg := getV_int hof (p + k)
    have hl1 := p1.len
    have hn1 := hsome (p + k) (by omega) (by omega)
    have e2 : p + (k : Int) + 1 = tlen (tabOf H t) + 1 := by omega
    rw [e2, if_pos ⟨by rw [hg]; exact hn1, hend⟩, if_neg (fun c => absurd (by rw [← hg]; exact c.1) hn1)] at hl1
    have r6 := (up_get t p (by omega) k _ p1.ok p1.of (by omega) hxx).2.2.2.2 (fun i a b => by rw [p1.get, if_neg (by rw [iK_eq]; omega)]; exact hsome i (by omega) (by omega))
    have e3 : upP t p (k + 1) H = upP t p k (setH H t (iK (p + k + 1)) (getV H t (iK (p + k)))) := by
     rw [upP, if_pos hs]
    have hgp : ¬ (tget (tabOf (upP t p (k + 1) H).1 t) (iK p)).k = 0 := by
     rw [r3, if_neg (by omega)]; exact hsome p (by omega) (by omega)
    rw [if_neg (fun c => hgp c.2), if_neg (fun c => h0 c.1)] at hl
    rw [e2] at r6 e3
    rw [e3] at hl ⊢
    omega
 ·rw [if_neg hx] at hw; exact absurd hw hx
structure BackS (H : Hp) (t : Vl) (p : Int) (v : Vl) (H1 : Hp) : Prop where
 long : lenV H t < lenV H1 t
 fine : (removeR H1 t (some p)).w = sNone
 val : (removeR H1 t (some p)).v = v
 ok : HOk (removeR H1 t (some p)).H
 of : ofW (removeR H1 t (some p)).H t = sNone
 few : (keysV (removeR H1 t (some p)).H t).length ≤ (keysV H t).length
 same : (∀ k ∈ keysV H t, ¬ (k.k = 2 ∧ lenV H t < k.n)) → keysV (removeR H1 t (some p)).H t = keysV H t ∧ ∀ k ∈ keysV H t, getV (removeR H1 t (some p)).H t k = getV H t k
theorem back_any {H : Hp} (h : HOk H) {t v : Vl} {p : Int} (hof : ofW H t = sNone) (hv : in64 v.n) (hw : (insertR H t p v).w = sNone) : BackS H t p v (insertR H t p v).H := by
 have I := ins_any h hof hv hw
 obtain ⟨H1, hH1⟩ : ∃ H1, H1 = (insertR H t p v).H := ⟨_, rfl⟩
 rw [← hH1] at I ⊢
 clear hw hH1
 have hT := tabOf_ok h (ofW_none hof).2.2.2.2
 have hT1 := tabOf_ok I.ok (ofW_none I.of).2.2.2.2
 have hl0 := (lenV_tab hof).1
 have hl1 := (lenV_tab I.of).1
 have p1 := I.p1
 have p2 := I.p2
 have hmore : tlen (tabOf H t) + 1 ≤ tlen (tabOf H1 t) := tlen_more hT1 _ fun i a b => by
  rw [I.get]
  by_cases e : i = p
  ·rw [if_pos e]; exact I.some
  ·rw [if_neg e]
   split
   ·exact tlen_some hT _ (by omega) (by omega)
   ·exact tlen_some hT _ a (by omega)
 have hmost := Nat.le_trans (tlen_le hT1) hT1.most
 obtain ⟨n, hn⟩ : ∃ n, tlen (tabOf H1 t) = n := ⟨_, rfl⟩
 have hsome1 : ∀ i : Int, 1 ≤ i → i ≤ n → ¬ (tget (tabOf H1 t) (iK i)).k = 0 := fun i a b => tlen_some hT1 i a (by omega)
 obtain ⟨k, hk⟩ : ∃ k : Nat, ((n : Int) - p).toNat = k := ⟨_, rfl⟩
 have hpk : (n : Int) - k = p := by omega
 obtain ⟨d0, d1, d2, d3, d4, d5⟩ := dn_get t n (by omega) k H1 I.ok I.of (by omega) (fun i a b => hsome1 i (by omega) b)
 have hlast : ¬ (tget (tabOf (dnP t n k H1).1 t) (iK n)).k = 0 := by rw [d3, if_neg (by omega)]; exact hsome1 n (by omega) (by omega)
 have hset : setW (dnP t n k H1).1 t (iK n) Vl.zero = sNone := setW_old d2 ck_zero (.inr rfl)
 have q := put1 d1 d2 (i := n) (v := Vl.zero) ⟨by omega, by omega⟩ ⟨by decide, by decide⟩ hset
 have hrem : removeR H1 t (some p) = .ok (setH (dnP t n k H1).1 t (iK n) Vl.zero) (getV H1 t (iK p)) := by
  unfold removeR
  simp only [hl1, hn, Option.getD_some, hk]
  rw [if_neg (by simp), if_neg (by omega), if_pos d0, if_pos hset]
 have hget : ∀ i : Int, tget (tabOf (setH (dnP t n k H1).1 t (iK n) Vl.zero) t) (iK i) = if i = n then Vl.zero else if p ≤ i ∧ i < n then tget (tabOf H1 t) (iK (i + 1)) else tget (tabOf H1 t) (iK i) := fun i => by
  rw [q.get, d3, hpk]
  by_cases e : i = n
  ·rw [if_pos (by rw [e]), if_pos e]
  ·rw [if_neg (by rw [iK_eq]; omega), if_neg e]
 have htxt : ∀ s, tget (tabOf (setH (dnP t n k H1).1 t (iK n) Vl.zero) t) (tK s) = tget (tabOf H t) (tK s) := fun s => by rw [q.get, if_neg (iK_tK _ _), d4, I.txt]
 have hU := tabOf_ok q.ok (ofW_none q.of).2.2.2.2
 have hlen := q.len
 rw [if_neg (fun c => c.1 rfl), if_pos ⟨rfl, hlast⟩] at hlen
 have hlen1 := I.len
 have kv : ∀ {G : Hp}, ofW G t = sNone → keysV G t = keysL (tabOf G t) := fun {G} hG => by unfold keysV; rw [if_pos hG]
 refine ⟨by rw [hl0, hl1]; omega, by rw [hrem]; rfl, ?_, by rw [hrem]; exact q.ok, by rw [hrem]; exact q.of, ?_, fun hno => ?_⟩
 ·rw [hrem]
  show getV H1 t (iK p) = v
  rw [getV_int I.of, I.get, if_pos rfl]
 ·rw [hrem]
  show (keysV (setH (dnP t n k H1).1 t (iK n) Vl.zero) t).length ≤ _
  rw [kv q.of, kv hof, keysL_len hU, keysL_len hT]
  omega
 ·rw [hrem]
  rw [kv hof, hl0] at hno
  have hnil : ∀ i : Int, (tlen (tabOf H t) : Int) < i → in64 i → tget (tabOf H t) (iK i) = Vl.zero := fun i hi h64 => by
   refine tget_nil hT ?_
   rcases Decidable.em ((tget (tabOf H t) (iK i)).k = 0) with e | e
   ·exact e
   ·refine absurd ⟨rfl, hi⟩ (hno (iK i) ((keysL_mem hT _).2 ?_))
    rw [hT.some] at e
    rcases Decidable.em (iK i ∈ (tabOf H t).map (·.1)) with h1 | h1
    ·exact h1
    ·exact absurd ((mget_mem _ _).2 h1) e
  have hn1 : n = tlen (tabOf H t) + 1 := by
   rcases Nat.lt_or_ge (tlen (tabOf H t) + 1) n with hlt | hge
   ·have h1 := hsome1 (tlen (tabOf H t) + 2) (by omega) (by omega)
    rw [I.get, if_neg (by omega), if_neg (by omega), hnil _ (by omega) ⟨by omega, by omega⟩] at h1
    exact absurd rfl h1
   ·omega
  have all : ∀ x, KOk x → tget (tabOf (setH (dnP t n k H1).1 t (iK n) Vl.zero) t) x = tget (tabOf H t) x := fun x hx => by
   rcases hx.form with ⟨_, e⟩ | ⟨_, e⟩
   ·rw [e, hget]
    have h64 := hx.num
    by_cases e1 : x.n = n
    ·rw [if_pos e1, hnil _ (by omega) h64]
    ·rw [if_neg e1]
     by_cases e2 : p ≤ x.n ∧ x.n < n
     ·rw [if_pos e2, I.get, if_neg (by omega), if_pos (by omega)]
      have : x.n + 1 - 1 = x.n := by omega
      rw [this]
     ·rw [if_neg e2, I.get]
      rw [if_neg (by omega), if_neg (by omega)]
   ·rw [e, htxt]
  have hkeys : keysL (tabOf (setH (dnP t n k H1).1 t (iK n) Vl.zero) t) = keysL (tabOf H t) := keysL_ext hU hT fun x hx => by rw [all x hx]
  refine ⟨by show keysV (setH (dnP t n k H1).1 t (iK n) Vl.zero) t = _; rw [kv q.of, kv hof]; exact hkeys, fun x hx => ?_⟩
  rw [kv hof] at hx
  have hx' := keysL_ok hT x hx
  have gv : ∀ {G : Hp}, ofW G t = sNone → getV G t x = tget (tabOf G t) x := fun {G} hG => by
   unfold getV
   have : getW G t x = sNone := by
    unfold getW
    rw [if_pos hx'.ck, if_pos hG, if_pos hx'.kind]
   rw [if_pos this]
  show getV (setH (dnP t n k H1).1 t (iK n) Vl.zero) t x = getV H t x
  rw [gv q.of, gv hof, all x hx']
end Go.Proofs.YtfagldjhibdfhaaGreatDoor
