/- The document's Names, Has, kinds. What the document asks of arguments; how its heap is behind a step. The document's small functions: number, made, at, find. The document's find. The document's Sub. -/
import Derived.Test.YtfagldjhibdfhaaGreatDoorYA5
import Derived.Test.YtfagldjhibdfhaaGreatDoorYA3
import Derived.Test.YtfagldjhibdfhaaGreatDoorYA9
import Derived.Test.YtfagldjhibdfhaaGreatDoorYD5
import Derived.Test.YtfagldjhibdfhaaGreatDoorYA4
import Derived.Test.YtfagldjhibdfhaaGreatDoorYD1
namespace Go.Proofs.YtfagldjhibdfhaaGreatDoor
open Go.RowKit
set_option linter.unusedVariables false
set_option linter.unusedSimpArgs false

def namesO : Obj := .cells (libNames.map Value.string).toArray 9
theorem rnames_any (w : World) : Calls Tryz.prog 32 #[] w fun e w' => e = .returned (.slice (some ⟨w.heap.size, 0, none⟩) 13 13) ∧ w' = w.alloc namesO := by
 go_enter Tryz.func32, Tryz.ntmps32
 go_wp2
 go_ret
 exact ⟨rfl, rfl⟩
theorem names_cell (w : World) (j : Nat) (hj : j < 13) : (w.alloc namesO).cell? ⟨w.heap.size, j, none⟩ = some (.string (libNames.getD j sNone)) := by
 have hb : Blk (w.alloc namesO) w.heap.size 9 (libNames.map Value.string).toArray := Blk.new w _ _
 rw [hb.cell j]
 have h9 : j < libNames.length := hj
 simp only [List.getElem?_toArray, List.getElem?_map, List.getElem?_eq_getElem h9, Option.map_some, List.getD_eq_getElem?_getD, Option.getD_some]
def hasFrom (s : ByteArray) (j : Nat) : Bool := (libNames.drop j).any fun x => decide (x = s)
theorem has_from (s : ByteArray) : callB s = hasFrom s 0 := by
 unfold callB libIdx hasFrom
 rw [List.drop_zero, List.findIdx?_isSome]
theorem hasFrom_step (s : ByteArray) (j : Nat) (hj : j < 13) : hasFrom s j = (decide (libNames.getD j sNone = s) || hasFrom s (j + 1)) := by
 have h9 : j < libNames.length := hj
 unfold hasFrom
 rw [List.drop_eq_getElem_cons h9, List.any_cons, List.getD_eq_getElem?_getD, List.getElem?_eq_getElem h9]
 rfl
theorem str_eq (a b : ByteArray) : (a.toList == b.toList) = decide (a = b) := by
 rw [Bool.eq_iff_iff, beq_iff_eq, decide_eq_true_iff, Lib.toList_data, Lib.toList_data]
 exact ⟨fun h => by cases a; cases b; simp only [Array.toList_inj] at h; rw [h], fun h => by rw [h]⟩
set_option maxRecDepth 100000 in
theorem rhas_any (s : ByteArray) (w : World) : Calls Tryz.prog 23 #[.string s] w fun e w' => e = .returned (.bool (callB s)) ∧ Ext w w' := by
 have HC := Lib.hid (names_cell w)
 have HE := Lib.hid ((Ext.refl w).alloc namesO)
 have HS := Lib.hid (has_from s)
 obtain ⟨cb, hcb⟩ : ∃ cb, callB s = cb := ⟨_, rfl⟩
 rw [hcb] at HS ⊢
 have hz : (w.alloc namesO).heap.size = w.heap.size + 1 := size_alloc _ _
 go_enter Tryz.func23, Tryz.ntmps23
 go_wp2_with fail
 refine (rnames_any _).mono ?_
 rintro e w1 ⟨rfl, rfl⟩
 go_wp2_with fail
 generalize w.alloc namesO = w1 at HC HE hz ⊢
 go_loopw [4] (fun jv wr => ∃ j : Nat, jv = .int .i64 j ∧ j ≤ 13 ∧ wr = w1 ∧ Hid (cb = hasFrom s j)) (fun jv _ => 13 - (intOf jv).toNat)
 case atStart => exact ⟨0, rfl, Nat.zero_le _, rfl, HS⟩
 case round =>
  obtain ⟨j, rfl, hj, rfl, HJ⟩ := hrel
  by_cases hlt : j < 13
  ·have c1 := HC.out j hlt
   have HD := Lib.hid (hasFrom_step s j hlt)
   obtain ⟨y, hy⟩ : ∃ y, libNames.getD j sNone = y := ⟨_, rfl⟩
   rw [hy] at c1 HD
   have hlt' : (j : Int) < 13 := by omega
   have hb : w.heap.size < wr.heap.size := by omega
   clear hy
   cases hd : decide (y = s)
   ·have h1 : (y.toList == s.toList) = false := by rw [str_eq]; exact hd
    have HZ : Hid (cb = hasFrom s (j + 1)) := Lib.hid (by rw [HJ.out, HD.out, hd, Bool.false_or])
    clear hd
    go_wp2_with fail
    go_roundw
    case rel => exact ⟨j + 1, by go_num, hlt, trivial, HZ⟩
    case measure => simp [intOf]; omega
   ·have h1 : (y.toList == s.toList) = true := by rw [str_eq]; exact hd
    have HZ : Hid (cb = true) := Lib.hid (by rw [HJ.out, HD.out, hd, Bool.true_or])
    clear hd
    go_wp2_with fail
    go_ret
    exact ⟨by rw [HZ.out]; rfl, HE.out⟩
  ·obtain rfl : j = 13 := by omega
   have HZ : Hid (cb = false) := Lib.hid (by rw [HJ.out]; rfl)
   go_wp2_with fail
   go_ret
   exact ⟨by rw [HZ.out]; rfl, HE.out⟩
def kindsB (f m : Nat) : ByteArray := ⟨(kindsP f m).toArray⟩
set_option maxRecDepth 100000 in
set_option maxHeartbeats 1000000 in
theorem rkinds_char (m : Nat) (hm : m ≤ 1048576) (w : World) : Calls Tryz.prog 86 #[.string ⟨#[99, 104, 97, 114]⟩, .int .i64 m] w fun e w' => e = .returned (.string (kindsB 1 m)) ∧ w = w' := by
 have hk : kindsB 1 m = ⟨(List.replicate m 110).toArray⟩ := rfl
 rw [hk]
 clear hk
 go_enter Tryz.func86, Tryz.ntmps86
 go_wp2_with fail
 go_loopw [5, 6] (fun sv jv wr => ∃ j : Nat, sv = .string ⟨(List.replicate j 110).toArray⟩ ∧ jv = .int .i64 j ∧ j ≤ m ∧ wr = w) (fun _ jv _ => m - (intOf jv).toNat)
 case atStart => exact ⟨0, rfl, rfl, Nat.zero_le _, rfl⟩
 case round =>
  obtain ⟨j, rfl, rfl, hj, rfl⟩ := hrel
  by_cases hlt : j < m
  ·have hd : decide ((j : Int) < (m : Int)) = true := decide_eq_true (by omega)
   go_wp2_with fail
   go_roundw
   case rel => exact ⟨j + 1, by rw [List.replicate_succ']; apply congrArg; simp [ByteArray.ext_iff]; rw [← List.push_toArray, List.toArray_replicate], by go_num, hlt, trivial⟩
   case measure => simp [intOf]; omega
  ·obtain rfl : j = m := by omega
   go_wp2_with fail
   go_ret
   exact ⟨rfl, rfl⟩
set_option maxRecDepth 100000 in
set_option maxHeartbeats 4000000 in
theorem rkinds_any (f m : Nat) (hf : f < 13) (hm : m ≤ 1048576) (w : World) : Calls Tryz.prog 86 #[.string (libNames.getD f sNone), .int .i64 m] w fun e w' => e = .returned (.string (kindsB f m)) ∧ w = w' := by
 have hc : f = 0 ∨ f = 1 ∨ f = 2 ∨ f = 3 ∨ f = 4 ∨ f = 5 ∨ f = 6 ∨ f = 7 ∨ f = 8 ∨ f = 9 ∨ f = 10 ∨ f = 11 ∨ f = 12 := by omega
 rcases hc with rfl | rfl | rfl | rfl | rfl | rfl | rfl | rfl | rfl | rfl | rfl | rfl | rfl
 case inr.inl => exact rkinds_char m hm w
 case inr.inr.inr.inr.inl =>
  simp only [libNames, List.getD_cons_zero, List.getD_cons_succ]
  by_cases h2 : m = 2
  ·subst h2
   go_enter Tryz.func86, Tryz.ntmps86
   go_wp2
   go_ret
   exact ⟨rfl, rfl⟩
  ·have hd : ((m : Int) == 2) = false := by rw [beq_eq_false_iff_ne]; omega
   have hk : kindsB 4 m = ⟨#[98, 110, 118]⟩ := by unfold kindsB kindsP; simp only [if_neg h2]
   rw [hk]
   go_enter Tryz.func86, Tryz.ntmps86
   go_wp2
   go_ret
   exact ⟨rfl, rfl⟩
 case inr.inr.inr.inr.inr.inr.inr.inl =>
  simp only [libNames, List.getD_cons_zero, List.getD_cons_succ]
  by_cases h2 : m = 1
  ·subst h2
   go_enter Tryz.func86, Tryz.ntmps86
   go_wp2
   go_ret
   exact ⟨rfl, rfl⟩
  ·have hd : ((m : Int) == 1) = false := by rw [beq_eq_false_iff_ne]; omega
   have hk : kindsB 7 m = ⟨#[98, 110]⟩ := by unfold kindsB kindsP; simp only [if_neg h2]
   rw [hk]
   go_enter Tryz.func86, Tryz.ntmps86
   go_wp2
   go_ret
   exact ⟨rfl, rfl⟩
 case inr.inr.inr.inr.inr.inr.inr.inr.inr.inl =>
  simp only [libNames, List.getD_cons_zero, List.getD_cons_succ]
  by_cases h2 : m = 2
  ·subst h2
   go_enter Tryz.func86, Tryz.ntmps86
   go_wp2
   go_ret
   exact ⟨rfl, rfl⟩
  ·have hd : ((m : Int) == 2) = false := by rw [beq_eq_false_iff_ne]; omega
   have hk : kindsB 9 m = ⟨#[116, 110, 110]⟩ := by unfold kindsB kindsP; simp only [if_neg h2]
   rw [hk]
   go_enter Tryz.func86, Tryz.ntmps86
   go_wp2
   go_ret
   exact ⟨rfl, rfl⟩
 all_goals
  simp only [libNames, List.getD_cons_zero, List.getD_cons_succ]
  go_enter Tryz.func86, Tryz.ntmps86
  go_wp2
  go_ret
  exact ⟨rfl, rfl⟩
end Go.Proofs.YtfagldjhibdfhaaGreatDoor
namespace Go.Proofs.YtfagldjhibdfhaaGreatDoor
open Go.RowKit
set_option linter.unusedVariables false
set_option linter.unusedSimpArgs false

structure RS (w : World) (g : Nat) (tv : Value) (w' : World) (tv' : Value) (H' : Hp) : Prop where
 heap : RHeapIn w' g tv' H'
 touch : Touch (RFoot g tv) w w'
 foot : ∀ x, RFoot g tv' x → RFoot g tv x ∨ w.heap.size ≤ x
def RStep (w : World) (g : Nat) (tv : Value) (w' : World) (H' : Hp) : Prop := ∃ tv', RS w g tv w' tv' H'
section
variable {w w1 w2 : World} {g : Nat} {tv tv1 tv2 : Value} {H H1 H2 : Hp}
theorem RS.of_ext (h : RHeapIn w g tv H) (he : Ext w w1) : RS w g tv w1 tv H := ⟨h.ext he, .of_ext he, fun _ hx => .inl hx⟩
theorem RS.of_touch (h : RHeapIn w1 g tv H1) (ht : Touch (RFoot g tv) w w1) : RS w g tv w1 tv H1 := ⟨h, ht, fun _ hx => .inl hx⟩
theorem RS.trans (a : RS w g tv w1 tv1 H1) (b : RS w1 g tv1 w2 tv2 H2) : RS w g tv w2 tv2 H2 :=
 ⟨b.heap, a.touch.transn b.touch a.foot, fun x hx => by
  rcases b.foot x hx with h | h
  ·exact a.foot x h
  ·exact .inr (Nat.le_trans a.touch.size h)⟩
theorem RS.ext (a : RS w g tv w1 tv1 H1) (he : Ext w1 w2) : RS w g tv w2 tv1 H1 := ⟨a.heap.ext he, a.touch.ext he, a.foot⟩
theorem RS.pre (he : Ext w w1) (a : RS w1 g tv w2 tv2 H2) : RS w g tv w2 tv2 H2 :=
 ⟨a.heap, Touch.pre he a.touch, fun x hx => (a.foot x hx).imp id (fun h => Nat.le_trans he.size h)⟩
theorem RS.step (a : RS w g tv w1 tv1 H1) : RStep w g tv w1 H1 := ⟨_, a⟩
end
def RdE (w : World) (g : Nat) (tv : Value) (r : Rs) (e : Ending) (w' : World) : Prop := e = .returned (.tuple #[(if r.w = sNone then r.v else Vl.zero).v, .string r.w]) ∧ RStep w g tv w' r.H
def askB (H : Hp) (k : ByteArray) (l : List Vl) : ByteArray := if k.size = l.length then askL H k.data.toList l else sArgs
theorem askW_B (H : Hp) (f : Nat) (l : List Vl) : askW H f l = askB H (kindsB f l.length) l := by
 unfold askW askB kindsB
 have e : (⟨(kindsP f l.length).toArray⟩ : ByteArray).size = (kindsP f l.length).length := by show (kindsP f l.length).toArray.size = _; simp
 rw [e]
theorem byte_ne {c d : UInt8} (h : ¬ c = d) : ((c.toNat : Int) == (d.toNat : Int)) = false := by
 rw [beq_eq_false_iff_ne]
 exact fun e => h (UInt8.toNat_inj.1 (by omega))
theorem sNone_empty : sNone.toList.isEmpty = true := by rw [sNone_list]; rfl
set_option maxRecDepth 100000 in
set_option maxHeartbeats 4000000 in
theorem rasked_any (g : Nat) (tv : Value) (H : Hp) (w : World) (h : RHeapIn w g tv H) (hlen : H.tabs.length ≤ 9223372036854775807) (k : ByteArray) (q : Option Addr) (l : List Vl) (cap : Nat) (ha : ArgsAt w q l) (hkz : k.size ≤ 9223372036854775807) :
  Calls Tryz.prog 85 #[.pointer (some ⟨g, 0, none⟩), .string k, .slice q l.length cap] w fun e w' => e = .returned (.string (askB H k l)) ∧ Ext w w' := by
 have HI0 := Lib.hid h
 have HA := Lib.hid ha
 have hm0 := ha.len
 obtain ⟨m, hm⟩ : ∃ m, l.length = m := ⟨_, rfl⟩
 rw [hm] at hm0 ⊢
 have HM := Lib.hid hm
 obtain ⟨y, hy⟩ : ∃ y, askB H k l = y := ⟨_, rfl⟩
 rw [hy]
 unfold askB at hy
 rw [hm] at hy
 have hq : sNone.toList = [] := sNone_list
 by_cases hkm : k.size = m
 rotate_left
 ·rw [if_neg hkm] at hy
  subst hy
  have hd : ((k.size : Int) != (m : Int)) = true := by rw [bne_iff_ne]; omega
  clear ha h hm HI0 HA HM hkm
  go_enter Tryz.func85, Tryz.ntmps85
  go_wp2_with fail
  go_ret
  exact ⟨rfl, Ext.refl _⟩
 rw [if_pos hkm] at hy
 have hd0 : ((k.size : Int) != (m : Int)) = false := by rw [bne_eq_false_iff_eq]; omega
 have HY : Hid (askL H (k.data.toList.drop 0) (l.drop 0) = y) := Lib.hid hy
 clear ha h hm hy
 go_enter Tryz.func85, Tryz.ntmps85
 go_wp2_with fail
 clear hd0
 go_loopw [7] (fun jv wr => ∃ j : Nat, jv = .int .i64 j ∧ j ≤ m ∧ Hid (Ext w wr) ∧ Hid (askL H (k.data.toList.drop j) (l.drop j) = y)) (fun jv _ => m - (intOf jv).toNat)
 case atStart => exact ⟨0, rfl, Nat.zero_le _, Lib.hid (Ext.refl _), HY⟩
 case round =>
  obtain ⟨j, rfl, hj, HE, HYJ⟩ := hrel
  by_cases hlt : j < m
  ·obtain ⟨v, hv⟩ : ∃ v, l[j]? = some v := ⟨_, List.getElem?_eq_getElem (by rw [HM.out]; exact hlt)⟩
   obtain ⟨b, o, rfl, ax⟩ := HA.out.at_ j v hv
   have ax2 := ax.ext HE.out
   have HAX := Lib.hid ax2
   have c0 := ax2.k
   have c1 := ax2.n
   have c2 := ax2.s
   have hb := ax2.lt
   have hd : decide ((j : Int) < (m : Int)) = true := decide_eq_true (by omega)
   have hd' : decide (j < m) = true := decide_eq_true hlt
   have hjk : j < k.size := by omega
   have hdk : decide ((j : Int) < (k.size : Int)) = true := decide_eq_true (by omega)
   have hspl : askL H (k.data.toList.drop j) (l.drop j) = if kindBad k[j] v then sType else if v.k = 4 then (if lenW H v = sNone then askL H (k.data.toList.drop (j + 1)) (l.drop (j + 1)) else lenW H v) else askL H (k.data.toList.drop (j + 1)) (l.drop (j + 1)) := by
    obtain ⟨hl1, hl2⟩ := List.getElem?_eq_some_iff.1 hv
    rw [List.drop_eq_getElem_cons hl1, hl2, List.drop_eq_getElem_cons (show j < k.data.toList.length from hjk)]
    rfl
   rw [HYJ.out] at hspl
   obtain ⟨rest, hrest⟩ : ∃ rest, askL H (k.data.toList.drop (j + 1)) (l.drop (j + 1)) = rest := ⟨_, rfl⟩
   rw [hrest] at hspl
   have HREST := Lib.hid hrest
   have HHH := Lib.hid (HI0.out.ext HE.out)
   obtain ⟨kc, hkc⟩ : ∃ kc, k[j] = kc := ⟨_, rfl⟩
   rw [hkc] at hspl
   have hlg := fun W hh => rlen_any g tv H v W hh hlen
   obtain ⟨vck, hvck⟩ : ∃ vck, v.ck = vck := ⟨_, rfl⟩
   have hck2 : ∀ W, Calls Tryz.prog 110 #[.agg #[.int .i64 v.k, .int .i64 v.n, .string v.s]] W fun e w' => e = .returned (.bool vck) ∧ Ext W w' := fun W => by rw [← hvck]; exact rcheck_any v.k v.n v.s W
   obtain ⟨lw, hlw⟩ : ∃ lw, lenW H v = lw := ⟨_, rfl⟩
   obtain ⟨lv, hlv⟩ : ∃ lv, lenV H v = lv := ⟨_, rfl⟩
   unfold kindBad at hspl
   rw [hvck] at hspl
   rw [hlw] at hspl hlg
   rw [hlv] at hlg
   obtain ⟨vk, vn, vs⟩ := v
   simp only at c0 c1 c2 hspl
   have HSP := Lib.hid hspl
   have HLG := Lib.hid (show ∀ W, RHeapIn W g tv H → Calls Tryz.prog 112 #[.pointer (some ⟨g, 0, none⟩), .agg #[.int .i64 vk, .int .i64 vn, .string vs]] W fun e w' => e = .returned (.tuple #[.int .i64 lv, .string lw]) ∧ Ext W w' from hlg)
   have HCK := Lib.hid hck2
   clear ax ax2 hv hspl hlg hck2 hvck hlw hlv hrest
   cases vck
   ·have HY1 : Hid (y = sType) := Lib.hid (by have h1 := HSP.out; simpa using h1)
    clear HSP
    go_wp2_with fail
    refine (HCK.out _).mono ?_
    rintro e w6 ⟨rfl, e6⟩
    have E6 := Lib.hid (HE.out.trans e6)
    have HH6 := Lib.hid (HHH.out.ext e6)
    have d0 := (HAX.out.ext e6).k
    have d1 := (HAX.out.ext e6).n
    have d2 := (HAX.out.ext e6).s
    simp only at d0 d1 d2
    have hb6 := Nat.lt_of_lt_of_le hb e6.le
    clear e6 c0 c1 c2
    go_wp2_with fail
    go_ret
    exact ⟨by rw [HY1.out]; rfl, E6.out⟩
   ·by_cases h4 : vk = 4
    ·subst h4
     have HYT0 := HSP.out
     clear HSP
     by_cases h116 : kc = 116
     ·subst h116
      have HY1 : Hid (y = sType) := Lib.hid (by simpa using HYT0)
      clear HYT0
      go_wp2_with fail
      refine (HCK.out _).mono ?_
      rintro e w6 ⟨rfl, e6⟩
      have E6 := Lib.hid (HE.out.trans e6)
      have HH6 := Lib.hid (HHH.out.ext e6)
      have d0 := (HAX.out.ext e6).k
      have d1 := (HAX.out.ext e6).n
      have d2 := (HAX.out.ext e6).s
      simp only at d0 d1 d2
      have hb6 := Nat.lt_of_lt_of_le hb e6.le
      clear e6 c0 c1 c2
      go_wp2_with fail
      go_ret
      exact ⟨by rw [HY1.out]; rfl, E6.out⟩
     by_cases h110 : kc = 110
     ·subst h110
      have HY1 : Hid (y = sType) := Lib.hid (by simpa using HYT0)
      clear HYT0
      go_wp2_with fail
      refine (HCK.out _).mono ?_
      rintro e w6 ⟨rfl, e6⟩
      have E6 := Lib.hid (HE.out.trans e6)
      have HH6 := Lib.hid (HHH.out.ext e6)
      have d0 := (HAX.out.ext e6).k
      have d1 := (HAX.out.ext e6).n
      have d2 := (HAX.out.ext e6).s
      simp only at d0 d1 d2
      have hb6 := Nat.lt_of_lt_of_le hb e6.le
      clear e6 c0 c1 c2
      go_wp2_with fail
      go_ret
      exact ⟨by rw [HY1.out]; rfl, E6.out⟩
     have HYT : Hid (y = if lw = sNone then rest else lw) := Lib.hid (by simpa [h116, h110] using HYT0)
     clear HYT0
     have t1 : ((kc.toNat : Int) == 116) = false := byte_ne h116
     have t2 : ((kc.toNat : Int) == 110) = false := byte_ne h110
     clear h116 h110
     by_cases h98 : kc = 98
     ·subst h98
      go_wp2_with fail
      refine (HCK.out _).mono ?_
      rintro e w6 ⟨rfl, e6⟩
      have E6 := Lib.hid (HE.out.trans e6)
      have HH6 := Lib.hid (HHH.out.ext e6)
      have d0 := (HAX.out.ext e6).k
      have d1 := (HAX.out.ext e6).n
      have d2 := (HAX.out.ext e6).s
      simp only at d0 d1 d2
      have hb6 := Nat.lt_of_lt_of_le hb e6.le
      clear e6 c0 c1 c2
      go_wp2_with fail
      refine (HLG.out _ HH6.out).mono ?_
      rintro e w7 ⟨rfl, e7⟩
      have E7 := Lib.hid (E6.out.trans e7)
      clear e7
      rcases Decidable.em (lw = sNone) with hl0 | hl0
      ·have HR : Hid (askL H (k.data.toList.drop (j + 1)) (l.drop (j + 1)) = y) := Lib.hid (by rw [HREST.out, HYT.out, if_pos hl0])
       subst hl0
       go_wp2_with fail
       go_roundw
       case rel => exact ⟨j + 1, by go_num, hlt, E7, HR⟩
       case measure => simp [intOf]; omega
      ·have HR : Hid (lw = y) := Lib.hid (by rw [HYT.out, if_neg hl0])
       have hq2 : lw.toList.isEmpty = false := by cases hw : lw.toList with | nil => exact absurd hw (ne_list hl0) | cons _ _ => rfl
       go_wp2_with fail
       go_ret
       exact ⟨by rw [← HR.out]; rfl, E7.out⟩
     ·have t3 : ((kc.toNat : Int) == 98) = false := byte_ne h98
      clear h98
      go_wp2_with fail
      refine (HCK.out _).mono ?_
      rintro e w6 ⟨rfl, e6⟩
      have E6 := Lib.hid (HE.out.trans e6)
      have HH6 := Lib.hid (HHH.out.ext e6)
      have d0 := (HAX.out.ext e6).k
      have d1 := (HAX.out.ext e6).n
      have d2 := (HAX.out.ext e6).s
      simp only at d0 d1 d2
      have hb6 := Nat.lt_of_lt_of_le hb e6.le
      clear e6 c0 c1 c2
      go_wp2_with fail
      refine (HLG.out _ HH6.out).mono ?_
      rintro e w7 ⟨rfl, e7⟩
      have E7 := Lib.hid (E6.out.trans e7)
      clear e7
      rcases Decidable.em (lw = sNone) with hl0 | hl0
      ·have HR : Hid (askL H (k.data.toList.drop (j + 1)) (l.drop (j + 1)) = y) := Lib.hid (by rw [HREST.out, HYT.out, if_pos hl0])
       subst hl0
       go_wp2_with fail
       go_roundw
       case rel => exact ⟨j + 1, by go_num, hlt, E7, HR⟩
       case measure => simp [intOf]; omega
      ·have HR : Hid (lw = y) := Lib.hid (by rw [HYT.out, if_neg hl0])
       have hq2 : lw.toList.isEmpty = false := by cases hw : lw.toList with | nil => exact absurd hw (ne_list hl0) | cons _ _ => rfl
       go_wp2_with fail
       go_ret
       exact ⟨by rw [← HR.out]; rfl, E7.out⟩
    ·have HYT0 := HSP.out
     clear HSP
     have n4 : (vk == 4) = false := by rw [beq_eq_false_iff_ne]; exact h4
     have n4b : (vk != 4) = true := by rw [bne_iff_ne]; exact h4
     by_cases h98 : kc = 98
     ·subst h98
      have HY1 : Hid (y = sType) := Lib.hid (by simpa [h4] using HYT0)
      clear HYT0
      go_wp2_with fail
      refine (HCK.out _).mono ?_
      rintro e w6 ⟨rfl, e6⟩
      have E6 := Lib.hid (HE.out.trans e6)
      have HH6 := Lib.hid (HHH.out.ext e6)
      have d0 := (HAX.out.ext e6).k
      have d1 := (HAX.out.ext e6).n
      have d2 := (HAX.out.ext e6).s
      simp only at d0 d1 d2
      have hb6 := Nat.lt_of_lt_of_le hb e6.le
      clear e6 c0 c1 c2
      go_wp2_with fail
      go_ret
      exact ⟨by rw [HY1.out]; rfl, E6.out⟩
     have t3 : ((kc.toNat : Int) == 98) = false := byte_ne h98
     by_cases h116 : kc = 116
     ·subst h116
      clear t3
      by_cases hk : vk = 3
      ·subst hk
       have HR : Hid (askL H (k.data.toList.drop (j + 1)) (l.drop (j + 1)) = y) := Lib.hid (by rw [HREST.out]; exact (by simpa using HYT0 : y = rest).symm)
       clear HYT0 n4 n4b h4
       go_wp2_with fail
       refine (HCK.out _).mono ?_
       rintro e w6 ⟨rfl, e6⟩
       have E6 := Lib.hid (HE.out.trans e6)
       have HH6 := Lib.hid (HHH.out.ext e6)
       have d0 := (HAX.out.ext e6).k
       have d1 := (HAX.out.ext e6).n
       have d2 := (HAX.out.ext e6).s
       simp only at d0 d1 d2
       have hb6 := Nat.lt_of_lt_of_le hb e6.le
       clear e6 c0 c1 c2
       go_wp2_with fail
       go_roundw
       case rel => exact ⟨j + 1, by go_num, hlt, E6, HR⟩
       case measure => simp [intOf]; omega
      ·have HY1 : Hid (y = sType) := Lib.hid (by simpa [hk] using HYT0)
       have n5 : (vk != 3) = true := by rw [bne_iff_ne]; exact hk
       clear HYT0 hk h4
       go_wp2_with fail
       refine (HCK.out _).mono ?_
       rintro e w6 ⟨rfl, e6⟩
       have E6 := Lib.hid (HE.out.trans e6)
       have HH6 := Lib.hid (HHH.out.ext e6)
       have d0 := (HAX.out.ext e6).k
       have d1 := (HAX.out.ext e6).n
       have d2 := (HAX.out.ext e6).s
       simp only at d0 d1 d2
       have hb6 := Nat.lt_of_lt_of_le hb e6.le
       clear e6 c0 c1 c2
       go_wp2_with fail
       go_ret
       exact ⟨by rw [HY1.out]; rfl, E6.out⟩
     by_cases h110 : kc = 110
     ·subst h110
      clear t3
      by_cases hk : vk = 2
      ·subst hk
       have HR : Hid (askL H (k.data.toList.drop (j + 1)) (l.drop (j + 1)) = y) := Lib.hid (by rw [HREST.out]; exact (by simpa using HYT0 : y = rest).symm)
       clear HYT0 n4 n4b h4
       go_wp2_with fail
       refine (HCK.out _).mono ?_
       rintro e w6 ⟨rfl, e6⟩
       have E6 := Lib.hid (HE.out.trans e6)
       have HH6 := Lib.hid (HHH.out.ext e6)
       have d0 := (HAX.out.ext e6).k
       have d1 := (HAX.out.ext e6).n
       have d2 := (HAX.out.ext e6).s
       simp only at d0 d1 d2
       have hb6 := Nat.lt_of_lt_of_le hb e6.le
       clear e6 c0 c1 c2
       go_wp2_with fail
       go_roundw
       case rel => exact ⟨j + 1, by go_num, hlt, E6, HR⟩
       case measure => simp [intOf]; omega
      ·have HY1 : Hid (y = sType) := Lib.hid (by simpa [hk] using HYT0)
       have n5 : (vk != 2) = true := by rw [bne_iff_ne]; exact hk
       clear HYT0 hk h4
       go_wp2_with fail
       refine (HCK.out _).mono ?_
       rintro e w6 ⟨rfl, e6⟩
       have E6 := Lib.hid (HE.out.trans e6)
       have HH6 := Lib.hid (HHH.out.ext e6)
       have d0 := (HAX.out.ext e6).k
       have d1 := (HAX.out.ext e6).n
       have d2 := (HAX.out.ext e6).s
       simp only at d0 d1 d2
       have hb6 := Nat.lt_of_lt_of_le hb e6.le
       clear e6 c0 c1 c2
       go_wp2_with fail
       go_ret
       exact ⟨by rw [HY1.out]; rfl, E6.out⟩
     have t1 : ((kc.toNat : Int) == 116) = false := byte_ne h116
     have t2 : ((kc.toNat : Int) == 110) = false := byte_ne h110
     have HR : Hid (askL H (k.data.toList.drop (j + 1)) (l.drop (j + 1)) = y) := Lib.hid (by rw [HREST.out]; exact (by simpa [h116, h110, h98, h4] using HYT0 : y = rest).symm)
     clear HYT0 h116 h110 h98 h4
     go_wp2_with fail
     refine (HCK.out _).mono ?_
     rintro e w6 ⟨rfl, e6⟩
     have E6 := Lib.hid (HE.out.trans e6)
     have HH6 := Lib.hid (HHH.out.ext e6)
     have d0 := (HAX.out.ext e6).k
     have d1 := (HAX.out.ext e6).n
     have d2 := (HAX.out.ext e6).s
     simp only at d0 d1 d2
     have hb6 := Nat.lt_of_lt_of_le hb e6.le
     clear e6 c0 c1 c2
     go_wp2_with fail
     go_roundw
     case rel => exact ⟨j + 1, by go_num, hlt, E6, HR⟩
     case measure => simp [intOf]; omega
  ·obtain rfl : j = m := by omega
   have HYE : Hid (sNone = y) := Lib.hid (by
    have h1 := HYJ.out
    rw [show l.drop j = [] from List.drop_eq_nil_of_le (by rw [HM.out]; omega)] at h1
    rw [← h1]
    cases k.data.toList.drop j <;> rfl)
   go_wp2_with fail
   go_ret
   exact ⟨by rw [← HYE.out]; rfl, HE.out⟩
end Go.Proofs.YtfagldjhibdfhaaGreatDoor
namespace Go.Proofs.YtfagldjhibdfhaaGreatDoor
open Go.RowKit
set_option linter.unusedVariables false
set_option linter.unusedSimpArgs false

theorem rnumber_any (n : Int) (w : World) : Calls Tryz.prog 116 #[.int .i64 n] w fun e w' => e = .returned (iK n).v ∧ Ext w w' := by
 go_enter Tryz.func116, Tryz.ntmps116
 go_wp2_with fail
 exact bodyPost_ret (v := (iK n).v) (by simp [results, Tryz.results116, go_sem, iK, sNone]) rfl ⟨rfl, by repeat (first | exact Ext.refl _ | refine Ext.alloc ?_ _ | refine Ext.setCell ?_ (by simp <;> omega) _)⟩
theorem mkR_zero (H : Hp) (s : ByteArray) : (if (mkR H s).w = sNone then (mkR H s).v else Vl.zero) = (mkR H s).v := by
 unfold mkR mkV mkW
 simp only
 split
 ·rw [if_neg (by decide)]
 ·split
  ·rw [if_pos rfl]
  ·rw [if_neg (by decide)]
theorem RS.notin {w w' : World} {g k : Nat} {tv tv' : Value} {H' : Hp} (hs : RS w g tv w' tv' H') (hk : k < w.heap.size) (hn : ¬ RFoot g tv k) : ¬ RFoot g tv' k := fun hx => by
 rcases hs.foot k hx with h | h
 ·exact hn h
 ·omega
set_option maxRecDepth 100000 in
set_option maxHeartbeats 1000000 in
theorem rat_any (s : ByteArray) (n : Int) (hn : in64 n) (hs : s.size ≤ 1048576) (w : World) : Calls Tryz.prog 120 #[.string s, .int .i64 n] w fun e w' => e = .returned (byteV s n).v ∧ Ext w w' := by
 obtain ⟨m, hm⟩ : ∃ m, s.size = m := ⟨_, rfl⟩
 have hl : s.data.toList.length = m := hm
 obtain ⟨r, hr⟩ : ∃ r, byteV s n = r := ⟨_, rfl⟩
 rw [hr]
 have HB := Lib.hid (Blk.new w 26 #[.int .i64 0, .int .i64 0, .string ⟨#[]⟩])
 have HW := Lib.hid ((Ext.refl w).alloc (.cells #[.int .i64 0, .int .i64 0, .string ⟨#[]⟩] 26))
 have hmI : (m : Int) ≤ 1048576 := by omega
 have hm0 : (0 : Int) ≤ (m : Int) := by omega
 have hn1 := hn.1
 have hn2 := hn.2
 have HR := Lib.hid hr
 have HM := Lib.hid hm
 rw [hm] at hs
 clear hr
 go_enter Tryz.func120, Tryz.ntmps120
 go_wp2_with fail
 generalize w.alloc (.cells #[.int .i64 0, .int .i64 0, .string ⟨#[]⟩] 26) = w1 at HB HW ⊢
 go_loopw [6] (fun iv wr => ∃ j : Nat, iv = .int .i64 ((j : Int) + 1) ∧ j ≤ m ∧ wr = w1 ∧ Hid (∀ i : Nat, 1 ≤ i → i ≤ j → ¬ ((i : Int) = n ∨ (i : Int) - m - 1 = n))) (fun iv _ => m + 1 - (intOf iv).toNat)
 case atStart => exact ⟨0, rfl, Nat.zero_le _, rfl, Lib.hid (fun i h1 h2 => by omega)⟩
 case round =>
  obtain ⟨j, rfl, hj, rfl, HJ⟩ := hrel
  have hjI : (j : Int) ≤ 1048576 := by omega
  have hj0 : (0 : Int) ≤ (j : Int) := by omega
  by_cases hlt : j < m
  ·have hd : decide ((j : Int) + 1 ≤ (m : Int)) = true := decide_eq_true (by omega)
   have hjs : j < s.size := by omega
   have hd2 : decide ((j : Int) < (m : Int)) = true := decide_eq_true (by omega)
   by_cases h1 : (j : Int) + 1 = n
   ·subst h1
    have HV : Hid (r = iK (s[j].toNat : Int)) := Lib.hid (by
     rw [← HR.out]
     unfold byteV
     rw [at_some s.data.toList _ (j + 1) (by omega) (by omega) (by rw [hl]; omega)]
     have e3 : s.data.toList.getD (j + 1 - 1) 0 = s[j] := by
      rw [Nat.add_sub_cancel, List.getD_eq_getElem?_getD, List.getElem?_eq_getElem (show j < s.data.toList.length by omega)]; rfl
     rw [e3])
    obtain ⟨c, hc⟩ : ∃ c, s[j] = c := ⟨_, rfl⟩
    rw [hc] at HV
    have hcb : (c.toNat : Int) ≤ 255 := by have := c.toNat_lt; omega
    obtain ⟨z0, z1, z2, y0, y1, y2⟩ := three HB.out
    have hlt0 := HB.out.lt
    go_wp2_with fail
    refine (rnumber_any _ _).mono ?_
    rintro e w2 ⟨rfl, e2⟩
    have HB2 := Lib.hid (HB.out.ext e2)
    have HW2 := Lib.hid (HW.out.trans e2)
    clear z0 z1 z2 y0 y1 y2 e2
    obtain ⟨z0, z1, z2, y0, y1, y2⟩ := three HB2.out
    have hlt2 := HB2.out.lt
    unfold Vl.v iK
    go_wp2_with fail
    exact bodyPost_ret (v := (iK (c.toNat : Int)).v) (by simp [results, Tryz.results120, go_sem, iK, sNone, *]) rfl ⟨by rw [HV.out], by repeat (first | exact HW2.out | refine Ext.alloc ?_ _ | refine Ext.setCell ?_ (by simp <;> omega) _)⟩
   ·have e1 : ((j : Int) + 1 == n) = false := by rw [beq_eq_false_iff_ne]; exact h1
    by_cases h2 : (j : Int) + 1 - m - 1 = n
    ·have e2 : ((j : Int) + 1 - m - 1 == n) = true := by rw [beq_iff_eq]; exact h2
     have HV : Hid (r = iK (s[j].toNat : Int)) := Lib.hid (by
      rw [← HR.out]
      unfold byteV
      rw [at_some s.data.toList _ (j + 1) (by omega) (by omega) (by rw [hl]; omega)]
      have e3 : s.data.toList.getD (j + 1 - 1) 0 = s[j] := by
       rw [Nat.add_sub_cancel, List.getD_eq_getElem?_getD, List.getElem?_eq_getElem (show j < s.data.toList.length by omega)]; rfl
      rw [e3])
     obtain ⟨c, hc⟩ : ∃ c, s[j] = c := ⟨_, rfl⟩
     rw [hc] at HV
     have hcb : (c.toNat : Int) ≤ 255 := by have := c.toNat_lt; omega
     obtain ⟨z0, z1, z2, y0, y1, y2⟩ := three HB.out
     have hlt0 := HB.out.lt
     go_wp2_with fail
     refine (rnumber_any _ _).mono ?_
     rintro e w2 ⟨rfl, e2'⟩
     have HB2 := Lib.hid (HB.out.ext e2')
     have HW2 := Lib.hid (HW.out.trans e2')
     clear z0 z1 z2 y0 y1 y2 e2'
     obtain ⟨z0, z1, z2, y0, y1, y2⟩ := three HB2.out
     have hlt2 := HB2.out.lt
     unfold Vl.v iK
     go_wp2_with fail
     exact bodyPost_ret (v := (iK (c.toNat : Int)).v) (by simp [results, Tryz.results120, go_sem, iK, sNone, *]) rfl ⟨by rw [HV.out], by repeat (first | exact HW2.out | refine Ext.alloc ?_ _ | refine Ext.setCell ?_ (by simp <;> omega) _)⟩
    ·have e2 : ((j : Int) + 1 - m - 1 == n) = false := by rw [beq_eq_false_iff_ne]; exact h2
     go_wp2_with fail
     go_roundw
     case rel => exact ⟨j + 1, by go_num, hlt, trivial, Lib.hid (fun i h3 h4 => by
      rcases Nat.lt_or_ge j i with h5 | h5
      ·have : i = j + 1 := by omega
       subst this
       omega
      ·exact HJ.out i h3 h5)⟩
     case measure => simp [intOf]; omega
  ·obtain rfl : j = m := by omega
   have HV : Hid (r = Vl.zero) := Lib.hid (by
    rw [← HR.out]
    unfold byteV
    rw [at_none s.data.toList n (by rw [hl]; exact HJ.out)])
   obtain ⟨z0, z1, z2, y0, y1, y2⟩ := three HB.out
   have hlt0 := HB.out.lt
   go_wp2_with fail
   exact bodyPost_ret (v := Vl.zero.v) (by simp [results, Tryz.results120, go_sem, Vl.zero, *]) rfl ⟨by rw [HV.out], by repeat (first | exact HW.out | refine Ext.alloc ?_ _ | refine Ext.setCell ?_ (by simp <;> omega) _)⟩
end Go.Proofs.YtfagldjhibdfhaaGreatDoor
namespace Go.Proofs.YtfagldjhibdfhaaGreatDoor
open Go.RowKit
set_option linter.unusedVariables false
set_option linter.unusedSimpArgs false

theorem index_none {s t : List UInt8} (h : ∀ p, p + t.length ≤ s.length → Lib.occAt s t p = false) : Lib.index s t < 0 := by
 rcases Int.lt_or_le (Lib.index s t) 0 with h1 | h1
 ·exact h1
 ·obtain ⟨h2, h3⟩ := index_lt h1
  rw [h (Lib.index s t).toNat (by omega)] at h3
  cases h3
theorem index_first {s t : List UInt8} {p : Nat} (h : Lib.occAt s t p = true) (hn : ∀ i, i < p → Lib.occAt s t i = false) : Lib.index s t = p := by
 obtain ⟨h1, h2⟩ := index_occ h
 obtain ⟨h3, h4⟩ := index_lt h1
 rcases Nat.lt_or_ge (Lib.index s t).toNat p with h5 | h5
 ·rw [hn _ h5] at h4; cases h4
 ·omega
theorem occ_test (s t : ByteArray) (j : Nat) (h : j + t.size ≤ s.size) : ((s.extract j (j + t.size)).toList == t.toList) = Lib.occAt s.data.toList t.data.toList j := by
 have hl2 : t.data.toList.length = t.size := rfl
 have hl : s.data.toList.length = s.size := rfl
 rw [occ_iff (by omega), Lib.toList_data, Lib.toList_data, Lib.extract_data, Bool.eq_iff_iff, beq_iff_eq, decide_eq_true_iff, hl2, Nat.add_sub_cancel_left]
set_option maxRecDepth 100000 in
set_option maxHeartbeats 1000000 in
theorem rfind_any (s t : ByteArray) (hs : s.size ≤ 1048576) (ht : t.size ≤ 1048576) (w : World) : Calls Tryz.prog 119 #[.string s, .string t] w fun e w' => e = .returned (findV s t).v ∧ Ext w w' := by
 obtain ⟨m, hm⟩ : ∃ m, s.size = m := ⟨_, rfl⟩
 obtain ⟨n, hn⟩ : ∃ n, t.size = n := ⟨_, rfl⟩
 have hl : s.data.toList.length = m := hm
 have hl2 : t.data.toList.length = n := hn
 obtain ⟨r, hr⟩ : ∃ r, findV s t = r := ⟨_, rfl⟩
 rw [hr]
 have HB := Lib.hid (Blk.new w 26 #[.int .i64 0, .int .i64 0, .string ⟨#[]⟩])
 have HW := Lib.hid ((Ext.refl w).alloc (.cells #[.int .i64 0, .int .i64 0, .string ⟨#[]⟩] 26))
 have HR := Lib.hid hr
 rw [hm] at hs
 rw [hn] at ht
 clear hr
 go_enter Tryz.func119, Tryz.ntmps119
 go_wp2_with fail
 generalize w.alloc (.cells #[.int .i64 0, .int .i64 0, .string ⟨#[]⟩] 26) = w1 at HB HW ⊢
 go_loopw [5] (fun iv wr => ∃ j : Nat, iv = .int .i64 (j : Int) ∧ j ≤ m + 1 ∧ wr = w1 ∧ Hid (∀ i : Nat, i < j → Lib.occAt s.data.toList t.data.toList i = false)) (fun iv _ => m + 2 - (intOf iv).toNat)
 case atStart => exact ⟨0, rfl, Nat.zero_le _, rfl, Lib.hid (fun i h1 => by omega)⟩
 case round =>
  obtain ⟨j, rfl, hj, rfl, HJ⟩ := hrel
  have hjI : (j : Int) ≤ 1048577 := by omega
  have hj0 : (0 : Int) ≤ (j : Int) := by omega
  by_cases hlt : j + n ≤ m
  ·have hd : decide ((j : Int) + (n : Int) ≤ (m : Int)) = true := decide_eq_true (by omega)
   have hd1 : decide ((j : Int) ≤ (j : Int) + (n : Int)) = true := decide_eq_true (by omega)
   have hoc := occ_test s t j (by omega)
   rw [hn] at hoc
   cases hb : Lib.occAt s.data.toList t.data.toList j
   ·rw [hb] at hoc
    have HB0 := Lib.hid hb
    clear hb
    go_wp2_with fail
    go_roundw
    case rel => exact ⟨j + 1, by go_num, by omega, trivial, Lib.hid (fun i h3 => by
     rcases Nat.lt_or_ge i j with h5 | h5
     ·exact HJ.out i h5
     ·have : i = j := by omega
      subst this
      exact HB0.out)⟩
    case measure => simp [intOf]; omega
   ·rw [hb] at hoc
    have HV : Hid (r = iK ((j : Int) + 1)) := Lib.hid (by
     rw [← HR.out]
     unfold findV
     rw [index_first hb HJ.out, if_pos (by omega)])
    clear hb
    obtain ⟨z0, z1, z2, y0, y1, y2⟩ := three HB.out
    have hlt0 := HB.out.lt
    go_wp2_with fail
    refine (rnumber_any _ _).mono ?_
    rintro e w2 ⟨rfl, e2⟩
    have HB2 := Lib.hid (HB.out.ext e2)
    have HW2 := Lib.hid (HW.out.trans e2)
    clear z0 z1 z2 y0 y1 y2 e2
    obtain ⟨z0, z1, z2, y0, y1, y2⟩ := three HB2.out
    have hlt2 := HB2.out.lt
    unfold Vl.v iK
    go_wp2_with fail
    exact bodyPost_ret (v := (iK ((j : Int) + 1)).v) (by simp [results, Tryz.results119, go_sem, iK, sNone, *]) rfl ⟨by rw [HV.out], by repeat (first | exact HW2.out | refine Ext.alloc ?_ _ | refine Ext.setCell ?_ (by simp <;> omega) _)⟩
  ·have hd : decide ((j : Int) + (n : Int) ≤ (m : Int)) = false := decide_eq_false (by omega)
   have HV : Hid (r = Vl.zero) := Lib.hid (by
    rw [← HR.out]
    unfold findV
    have h1 := index_none (s := s.data.toList) (t := t.data.toList) (fun p hp => HJ.out p (by omega))
    rw [if_neg (by omega)])
   obtain ⟨z0, z1, z2, y0, y1, y2⟩ := three HB.out
   have hlt0 := HB.out.lt
   go_wp2_with fail
   exact bodyPost_ret (v := Vl.zero.v) (by simp [results, Tryz.results119, go_sem, Vl.zero, *]) rfl ⟨by rw [HV.out], by repeat (first | exact HW.out | refine Ext.alloc ?_ _ | refine Ext.setCell ?_ (by simp <;> omega) _)⟩
end Go.Proofs.YtfagldjhibdfhaaGreatDoor
namespace Go.Proofs.YtfagldjhibdfhaaGreatDoor
open Go.RowKit
set_option linter.unusedVariables false
set_option linter.unusedSimpArgs false

theorem subK_yes {l : List UInt8} {f u : Int} {k : Nat} (h : inS f u l.length (k + 1 : Nat) = true) : subK l f u (k + 1) = subK l f u k ++ [l.getD k 0] := by
 show subK l f u k ++ (if inS f u l.length (k + 1 : Nat) then [l.getD k 0] else []) = _
 rw [if_pos h]
theorem subK_no {l : List UInt8} {f u : Int} {k : Nat} (h : inS f u l.length (k + 1 : Nat) = false) : subK l f u (k + 1) = subK l f u k := by
 show subK l f u k ++ (if inS f u l.length (k + 1 : Nat) then [l.getD k 0] else []) = _
 rw [if_neg (by rw [h]; decide), List.append_nil]
set_option maxRecDepth 100000 in
set_option maxHeartbeats 4000000 in
theorem rsub_any (s : ByteArray) (F U : Int) (hF : in64 F) (hU : in64 U) (hs : s.size ≤ 1048576) (w : World) :
  Calls Tryz.prog 117 #[.string s, .int .i64 F, .int .i64 U] w fun e w' => e = .returned (.string (ba (subL s.data.toList F U))) ∧ Ext w w' := by
 obtain ⟨m, hm⟩ : ∃ m, s.size = m := ⟨_, rfl⟩
 have hl : s.data.toList.length = m := hm
 have HR := Lib.hid (subK_all s.data.toList F U)
 have HLS := Lib.hid (subK_len s.data.toList F U)
 rw [hm] at hs
 have HL := Lib.hid hl
 have hF1 := hF.1
 have hF2 := hF.2
 have hU1 := hU.1
 have hU2 := hU.2
 clear hl hF hU
 go_enter Tryz.func117, Tryz.ntmps117
 go_wp2_with fail
 go_loopw [8, 9] (fun av iv wr => ∃ (j : Nat) (acc : List UInt8), iv = .int .i64 ((j : Int) + 1) ∧ j ≤ m ∧ acc.length ≤ j ∧ Hid (OwnB wr w.heap.size av acc) ∧ Hid (Ext w wr) ∧ Hid (subK s.data.toList F U j = acc)) (fun _ iv _ => m + 1 - (intOf iv).toNat)
 case atStart => exact ⟨0, [], rfl, Nat.zero_le _, Nat.le_refl _, Lib.hid (OwnB.nil _ _), Lib.hid (Ext.refl _), Lib.hid rfl⟩
 case round =>
  obtain ⟨j, acc, rfl, hj, hal, HO, HE, HA⟩ := hrel
  obtain ⟨q0, k0, rfl⟩ := HO.out.slice
  have hjI : (j : Int) ≤ 1048576 := by omega
  have hj0 : (0 : Int) ≤ (j : Int) := by omega
  by_cases hlt : j < m
  ·have hd : decide ((j : Int) + 1 ≤ (m : Int)) = true := decide_eq_true (by omega)
   have hjs : j < s.size := by omega
   have hd2 : decide ((j : Int) < (m : Int)) = true := decide_eq_true (by omega)
   have HIN : Hid (inS F U s.data.toList.length (j + 1 : Nat) = ((decide (F ≤ 0) || decide (F ≤ (j : Int) + 1)) && (decide (0 ≤ F) || decide (F ≤ (j : Int) + 1 - m - 1)) && (decide (0 ≤ U) && decide ((j : Int) + 1 ≤ U) || decide (U < 0) && decide ((j : Int) + 1 - m - 1 ≤ U)))) := Lib.hid (by rw [HL.out]; rfl)
   have HGD : Hid (s.data.toList.getD j 0 = s[j]) := Lib.hid (by rw [List.getD_eq_getElem?_getD, List.getElem?_eq_getElem (show j < s.data.toList.length from hjs)]; rfl)
   obtain ⟨c, hc⟩ : ∃ c, s[j] = c := ⟨_, rfl⟩
   rw [hc] at HGD
   by_cases f0 : 0 < F
   ·by_cases f1 : F ≤ (j : Int) + 1
    ·skip
     by_cases u0 : 0 ≤ U
     ·by_cases u1 : (j : Int) + 1 ≤ U
      ·skip
       have a1 : decide (F ≤ 0) = false := by first | exact decide_eq_true (by omega) | exact decide_eq_false (by omega)
       have a2 : decide (F ≤ (j : Int) + 1) = true := by first | exact decide_eq_true (by omega) | exact decide_eq_false (by omega)
       have a3 : decide (0 ≤ F) = true := by first | exact decide_eq_true (by omega) | exact decide_eq_false (by omega)
       have a5 : decide (0 ≤ U) = true := by first | exact decide_eq_true (by omega) | exact decide_eq_false (by omega)
       have a6 : decide ((j : Int) + 1 ≤ U) = true := by first | exact decide_eq_true (by omega) | exact decide_eq_false (by omega)
       clear u0 u1 f0
       have HK : Hid (subK s.data.toList F U (j + 1) = acc ++ [c]) := Lib.hid (by rw [subK_yes (by rw [HIN.out]; simp [*]), HA.out, HGD.out])
       obtain ⟨v', w2, hrun, happ⟩ := app_lit wr 135 w.heap.size _ acc [c] HO.out HE.out.le (by simp; omega)
       have E2 := Lib.hid (happ.ext (HE.out.alloc _) (Nat.le_refl _))
       have HA2 := Lib.hid happ.own
       have HRUN := Lib.hid hrun
       clear happ hrun
       go_wp2_with (at_builtin; refine wpList_append_run rfl _ _ 135 rfl _ _ _ _ rfl rfl HRUN.out ?_)
       go_roundw
       case rel => exact ⟨j + 1, acc ++ [c], by go_num, by omega, by simp; omega, HA2, E2, HK⟩
       case measure => simp [intOf]; omega
      ·skip
       have a1 : decide (F ≤ 0) = false := by first | exact decide_eq_true (by omega) | exact decide_eq_false (by omega)
       have a2 : decide (F ≤ (j : Int) + 1) = true := by first | exact decide_eq_true (by omega) | exact decide_eq_false (by omega)
       have a3 : decide (0 ≤ F) = true := by first | exact decide_eq_true (by omega) | exact decide_eq_false (by omega)
       have a5 : decide (0 ≤ U) = true := by first | exact decide_eq_true (by omega) | exact decide_eq_false (by omega)
       have a6 : decide ((j : Int) + 1 ≤ U) = false := by first | exact decide_eq_true (by omega) | exact decide_eq_false (by omega)
       have a7 : decide (U < 0) = false := by first | exact decide_eq_true (by omega) | exact decide_eq_false (by omega)
       clear u0 u1 f0
       have HK : Hid (subK s.data.toList F U (j + 1) = acc) := Lib.hid (by rw [subK_no (by rw [HIN.out]; simp [*]), HA.out])
       go_wp2_with fail
       go_roundw
       case rel => exact ⟨j + 1, acc, by go_num, by omega, by omega, HO, HE, HK⟩
       case measure => simp [intOf]; omega
     ·by_cases u1 : (j : Int) + 1 - m - 1 ≤ U
      ·skip
       have a1 : decide (F ≤ 0) = false := by first | exact decide_eq_true (by omega) | exact decide_eq_false (by omega)
       have a2 : decide (F ≤ (j : Int) + 1) = true := by first | exact decide_eq_true (by omega) | exact decide_eq_false (by omega)
       have a3 : decide (0 ≤ F) = true := by first | exact decide_eq_true (by omega) | exact decide_eq_false (by omega)
       have a5 : decide (0 ≤ U) = false := by first | exact decide_eq_true (by omega) | exact decide_eq_false (by omega)
       have a7 : decide (U < 0) = true := by first | exact decide_eq_true (by omega) | exact decide_eq_false (by omega)
       have a8 : decide ((j : Int) + 1 - m - 1 ≤ U) = true := by first | exact decide_eq_true (by omega) | exact decide_eq_false (by omega)
       clear u0 u1 f0
       have HK : Hid (subK s.data.toList F U (j + 1) = acc ++ [c]) := Lib.hid (by rw [subK_yes (by rw [HIN.out]; simp [*]), HA.out, HGD.out])
       obtain ⟨v', w2, hrun, happ⟩ := app_lit wr 135 w.heap.size _ acc [c] HO.out HE.out.le (by simp; omega)
       have E2 := Lib.hid (happ.ext (HE.out.alloc _) (Nat.le_refl _))
       have HA2 := Lib.hid happ.own
       have HRUN := Lib.hid hrun
       clear happ hrun
       go_wp2_with (at_builtin; refine wpList_append_run rfl _ _ 135 rfl _ _ _ _ rfl rfl HRUN.out ?_)
       go_roundw
       case rel => exact ⟨j + 1, acc ++ [c], by go_num, by omega, by simp; omega, HA2, E2, HK⟩
       case measure => simp [intOf]; omega
      ·skip
       have a1 : decide (F ≤ 0) = false := by first | exact decide_eq_true (by omega) | exact decide_eq_false (by omega)
       have a2 : decide (F ≤ (j : Int) + 1) = true := by first | exact decide_eq_true (by omega) | exact decide_eq_false (by omega)
       have a3 : decide (0 ≤ F) = true := by first | exact decide_eq_true (by omega) | exact decide_eq_false (by omega)
       have a5 : decide (0 ≤ U) = false := by first | exact decide_eq_true (by omega) | exact decide_eq_false (by omega)
       have a7 : decide (U < 0) = true := by first | exact decide_eq_true (by omega) | exact decide_eq_false (by omega)
       have a8 : decide ((j : Int) + 1 - m - 1 ≤ U) = false := by first | exact decide_eq_true (by omega) | exact decide_eq_false (by omega)
       clear u0 u1 f0
       have HK : Hid (subK s.data.toList F U (j + 1) = acc) := Lib.hid (by rw [subK_no (by rw [HIN.out]; simp [*]), HA.out])
       go_wp2_with fail
       go_roundw
       case rel => exact ⟨j + 1, acc, by go_num, by omega, by omega, HO, HE, HK⟩
       case measure => simp [intOf]; omega
    ·skip
     have a1 : decide (F ≤ 0) = false := by first | exact decide_eq_true (by omega) | exact decide_eq_false (by omega)
     have a2 : decide (F ≤ (j : Int) + 1) = false := by first | exact decide_eq_true (by omega) | exact decide_eq_false (by omega)
     clear f0 f1
     have HK : Hid (subK s.data.toList F U (j + 1) = acc) := Lib.hid (by rw [subK_no (by rw [HIN.out]; simp [*]), HA.out])
     go_wp2_with fail
     go_roundw
     case rel => exact ⟨j + 1, acc, by go_num, by omega, by omega, HO, HE, HK⟩
     case measure => simp [intOf]; omega
   ·by_cases f1 : 0 ≤ F
    ·skip
     by_cases u0 : 0 ≤ U
     ·by_cases u1 : (j : Int) + 1 ≤ U
      ·skip
       have a1 : decide (F ≤ 0) = true := by first | exact decide_eq_true (by omega) | exact decide_eq_false (by omega)
       have a3 : decide (0 ≤ F) = true := by first | exact decide_eq_true (by omega) | exact decide_eq_false (by omega)
       have a5 : decide (0 ≤ U) = true := by first | exact decide_eq_true (by omega) | exact decide_eq_false (by omega)
       have a6 : decide ((j : Int) + 1 ≤ U) = true := by first | exact decide_eq_true (by omega) | exact decide_eq_false (by omega)
       clear u0 u1 f0
       have HK : Hid (subK s.data.toList F U (j + 1) = acc ++ [c]) := Lib.hid (by rw [subK_yes (by rw [HIN.out]; simp [*]), HA.out, HGD.out])
       obtain ⟨v', w2, hrun, happ⟩ := app_lit wr 135 w.heap.size _ acc [c] HO.out HE.out.le (by simp; omega)
       have E2 := Lib.hid (happ.ext (HE.out.alloc _) (Nat.le_refl _))
       have HA2 := Lib.hid happ.own
       have HRUN := Lib.hid hrun
       clear happ hrun
       go_wp2_with (at_builtin; refine wpList_append_run rfl _ _ 135 rfl _ _ _ _ rfl rfl HRUN.out ?_)
       go_roundw
       case rel => exact ⟨j + 1, acc ++ [c], by go_num, by omega, by simp; omega, HA2, E2, HK⟩
       case measure => simp [intOf]; omega
      ·skip
       have a1 : decide (F ≤ 0) = true := by first | exact decide_eq_true (by omega) | exact decide_eq_false (by omega)
       have a3 : decide (0 ≤ F) = true := by first | exact decide_eq_true (by omega) | exact decide_eq_false (by omega)
       have a5 : decide (0 ≤ U) = true := by first | exact decide_eq_true (by omega) | exact decide_eq_false (by omega)
       have a6 : decide ((j : Int) + 1 ≤ U) = false := by first | exact decide_eq_true (by omega) | exact decide_eq_false (by omega)
       have a7 : decide (U < 0) = false := by first | exact decide_eq_true (by omega) | exact decide_eq_false (by omega)
       clear u0 u1 f0
       have HK : Hid (subK s.data.toList F U (j + 1) = acc) := Lib.hid (by rw [subK_no (by rw [HIN.out]; simp [*]), HA.out])
       go_wp2_with fail
       go_roundw
       case rel => exact ⟨j + 1, acc, by go_num, by omega, by omega, HO, HE, HK⟩
       case measure => simp [intOf]; omega
     ·by_cases u1 : (j : Int) + 1 - m - 1 ≤ U
      ·skip
       have a1 : decide (F ≤ 0) = true := by first | exact decide_eq_true (by omega) | exact decide_eq_false (by omega)
       have a3 : decide (0 ≤ F) = true := by first | exact decide_eq_true (by omega) | exact decide_eq_false (by omega)
       have a5 : decide (0 ≤ U) = false := by first | exact decide_eq_true (by omega) | exact decide_eq_false (by omega)
       have a7 : decide (U < 0) = true := by first | exact decide_eq_true (by omega) | exact decide_eq_false (by omega)
       have a8 : decide ((j : Int) + 1 - m - 1 ≤ U) = true := by first | exact decide_eq_true (by omega) | exact decide_eq_false (by omega)
       clear u0 u1 f0
       have HK : Hid (subK s.data.toList F U (j + 1) = acc ++ [c]) := Lib.hid (by rw [subK_yes (by rw [HIN.out]; simp [*]), HA.out, HGD.out])
       obtain ⟨v', w2, hrun, happ⟩ := app_lit wr 135 w.heap.size _ acc [c] HO.out HE.out.le (by simp; omega)
       have E2 := Lib.hid (happ.ext (HE.out.alloc _) (Nat.le_refl _))
       have HA2 := Lib.hid happ.own
       have HRUN := Lib.hid hrun
       clear happ hrun
       go_wp2_with (at_builtin; refine wpList_append_run rfl _ _ 135 rfl _ _ _ _ rfl rfl HRUN.out ?_)
       go_roundw
       case rel => exact ⟨j + 1, acc ++ [c], by go_num, by omega, by simp; omega, HA2, E2, HK⟩
       case measure => simp [intOf]; omega
      ·skip
       have a1 : decide (F ≤ 0) = true := by first | exact decide_eq_true (by omega) | exact decide_eq_false (by omega)
       have a3 : decide (0 ≤ F) = true := by first | exact decide_eq_true (by omega) | exact decide_eq_false (by omega)
       have a5 : decide (0 ≤ U) = false := by first | exact decide_eq_true (by omega) | exact decide_eq_false (by omega)
       have a7 : decide (U < 0) = true := by first | exact decide_eq_true (by omega) | exact decide_eq_false (by omega)
       have a8 : decide ((j : Int) + 1 - m - 1 ≤ U) = false := by first | exact decide_eq_true (by omega) | exact decide_eq_false (by omega)
       clear u0 u1 f0
       have HK : Hid (subK s.data.toList F U (j + 1) = acc) := Lib.hid (by rw [subK_no (by rw [HIN.out]; simp [*]), HA.out])
       go_wp2_with fail
       go_roundw
       case rel => exact ⟨j + 1, acc, by go_num, by omega, by omega, HO, HE, HK⟩
       case measure => simp [intOf]; omega
    ·by_cases f2 : F ≤ (j : Int) + 1 - m - 1
     ·skip
      by_cases u0 : 0 ≤ U
      ·by_cases u1 : (j : Int) + 1 ≤ U
       ·skip
        have a1 : decide (F ≤ 0) = true := by first | exact decide_eq_true (by omega) | exact decide_eq_false (by omega)
        have a3 : decide (0 ≤ F) = false := by first | exact decide_eq_true (by omega) | exact decide_eq_false (by omega)
        have a4 : decide (F ≤ (j : Int) + 1 - m - 1) = true := by first | exact decide_eq_true (by omega) | exact decide_eq_false (by omega)
        have a5 : decide (0 ≤ U) = true := by first | exact decide_eq_true (by omega) | exact decide_eq_false (by omega)
        have a6 : decide ((j : Int) + 1 ≤ U) = true := by first | exact decide_eq_true (by omega) | exact decide_eq_false (by omega)
        clear u0 u1 f0
        have HK : Hid (subK s.data.toList F U (j + 1) = acc ++ [c]) := Lib.hid (by rw [subK_yes (by rw [HIN.out]; simp [*]), HA.out, HGD.out])
        obtain ⟨v', w2, hrun, happ⟩ := app_lit wr 135 w.heap.size _ acc [c] HO.out HE.out.le (by simp; omega)
        have E2 := Lib.hid (happ.ext (HE.out.alloc _) (Nat.le_refl _))
        have HA2 := Lib.hid happ.own
        have HRUN := Lib.hid hrun
        clear happ hrun
        go_wp2_with (at_builtin; refine wpList_append_run rfl _ _ 135 rfl _ _ _ _ rfl rfl HRUN.out ?_)
        go_roundw
        case rel => exact ⟨j + 1, acc ++ [c], by go_num, by omega, by simp; omega, HA2, E2, HK⟩
        case measure => simp [intOf]; omega
       ·skip
        have a1 : decide (F ≤ 0) = true := by first | exact decide_eq_true (by omega) | exact decide_eq_false (by omega)
        have a3 : decide (0 ≤ F) = false := by first | exact decide_eq_true (by omega) | exact decide_eq_false (by omega)
        have a4 : decide (F ≤ (j : Int) + 1 - m - 1) = true := by first | exact decide_eq_true (by omega) | exact decide_eq_false (by omega)
        have a5 : decide (0 ≤ U) = true := by first | exact decide_eq_true (by omega) | exact decide_eq_false (by omega)
        have a6 : decide ((j : Int) + 1 ≤ U) = false := by first | exact decide_eq_true (by omega) | exact decide_eq_false (by omega)
        have a7 : decide (U < 0) = false := by first | exact decide_eq_true (by omega) | exact decide_eq_false (by omega)
        clear u0 u1 f0
        have HK : Hid (subK s.data.toList F U (j + 1) = acc) := Lib.hid (by rw [subK_no (by rw [HIN.out]; simp [*]), HA.out])
        go_wp2_with fail
        go_roundw
        case rel => exact ⟨j + 1, acc, by go_num, by omega, by omega, HO, HE, HK⟩
        case measure => simp [intOf]; omega
      ·by_cases u1 : (j : Int) + 1 - m - 1 ≤ U
       ·skip
        have a1 : decide (F ≤ 0) = true := by first | exact decide_eq_true (by omega) | exact decide_eq_false (by omega)
        have a3 : decide (0 ≤ F) = false := by first | exact decide_eq_true (by omega) | exact decide_eq_false (by omega)
        have a4 : decide (F ≤ (j : Int) + 1 - m - 1) = true := by first | exact decide_eq_true (by omega) | exact decide_eq_false (by omega)
        have a5 : decide (0 ≤ U) = false := by first | exact decide_eq_true (by omega) | exact decide_eq_false (by omega)
        have a7 : decide (U < 0) = true := by first | exact decide_eq_true (by omega) | exact decide_eq_false (by omega)
        have a8 : decide ((j : Int) + 1 - m - 1 ≤ U) = true := by first | exact decide_eq_true (by omega) | exact decide_eq_false (by omega)
        clear u0 u1 f0
        have HK : Hid (subK s.data.toList F U (j + 1) = acc ++ [c]) := Lib.hid (by rw [subK_yes (by rw [HIN.out]; simp [*]), HA.out, HGD.out])
        obtain ⟨v', w2, hrun, happ⟩ := app_lit wr 135 w.heap.size _ acc [c] HO.out HE.out.le (by simp; omega)
        have E2 := Lib.hid (happ.ext (HE.out.alloc _) (Nat.le_refl _))
        have HA2 := Lib.hid happ.own
        have HRUN := Lib.hid hrun
        clear happ hrun
        go_wp2_with (at_builtin; refine wpList_append_run rfl _ _ 135 rfl _ _ _ _ rfl rfl HRUN.out ?_)
        go_roundw
        case rel => exact ⟨j + 1, acc ++ [c], by go_num, by omega, by simp; omega, HA2, E2, HK⟩
        case measure => simp [intOf]; omega
       ·skip
        have a1 : decide (F ≤ 0) = true := by first | exact decide_eq_true (by omega) | exact decide_eq_false (by omega)
        have a3 : decide (0 ≤ F) = false := by first | exact decide_eq_true (by omega) | exact decide_eq_false (by omega)
        have a4 : decide (F ≤ (j : Int) + 1 - m - 1) = true := by first | exact decide_eq_true (by omega) | exact decide_eq_false (by omega)
        have a5 : decide (0 ≤ U) = false := by first | exact decide_eq_true (by omega) | exact decide_eq_false (by omega)
        have a7 : decide (U < 0) = true := by first | exact decide_eq_true (by omega) | exact decide_eq_false (by omega)
        have a8 : decide ((j : Int) + 1 - m - 1 ≤ U) = false := by first | exact decide_eq_true (by omega) | exact decide_eq_false (by omega)
        clear u0 u1 f0
        have HK : Hid (subK s.data.toList F U (j + 1) = acc) := Lib.hid (by rw [subK_no (by rw [HIN.out]; simp [*]), HA.out])
        go_wp2_with fail
        go_roundw
        case rel => exact ⟨j + 1, acc, by go_num, by omega, by omega, HO, HE, HK⟩
        case measure => simp [intOf]; omega
     ·skip
      have a1 : decide (F ≤ 0) = true := by first | exact decide_eq_true (by omega) | exact decide_eq_false (by omega)
      have a3 : decide (0 ≤ F) = false := by first | exact decide_eq_true (by omega) | exact decide_eq_false (by omega)
      have a4 : decide (F ≤ (j : Int) + 1 - m - 1) = false := by first | exact decide_eq_true (by omega) | exact decide_eq_false (by omega)
      clear f0 f1 f2
      have HK : Hid (subK s.data.toList F U (j + 1) = acc) := Lib.hid (by rw [subK_no (by rw [HIN.out]; simp [*]), HA.out])
      go_wp2_with fail
      go_roundw
      case rel => exact ⟨j + 1, acc, by go_num, by omega, by omega, HO, HE, HK⟩
      case measure => simp [intOf]; omega
  ·obtain rfl : j = m := by omega
   have hd : decide ((j : Int) + 1 ≤ (j : Int)) = false := decide_eq_false (by omega)
   have hcv := HO.out.conv
   have HZ : Hid (acc = subL s.data.toList F U) := Lib.hid (by rw [← HR.out, ← HA.out, HL.out])
   go_wp2_with fail
   go_ret
   exact ⟨by rw [← HZ.out]; rfl, HE.out⟩
end Go.Proofs.YtfagldjhibdfhaaGreatDoor
