/- Words: the words of the language as a map. bonds: the operators by levels, as maps. Words: letters, digits; how many of them stand ahead. Words: what is meant behind a backslash, in the program. Words: a text with its bytes and backslashes, in the program. Words: strconv.ParseUint of 63 bits. -/
import Derived.Test.YtkbcnacjaakleaaGreatDoorYP08
import Derived.Test.YtkbcnacjaakleaaGreatDoorYP07
import Derived.Test.YtkbcnacjaakleaaGreatDoorProg
import Derived.StillTailTactics
import Derived.Lib.Strings
import Derived.Lib.Walk
import Derived.Deep.QuietTactic
import Derived.Deep.RegionHeld3
import Derived.Deep.DrawnRows
import Derived.IntWalk
import Derived.Test.YtkbcnacjaakleaaGreatDoorYP00
import Derived.Lib.IndexBytes
import Derived.Test.YtkbcnacjaakleaaGreatDoorYShelf
import Derived.Lib.ParseIntBMem
import Derived.Lib.AtoiAllMem
import Derived.Lib.ConvBytes
import Derived.Laws.Strings3
import Derived.Laws.Closers25
import Derived.Laws.Closers25b
import Derived.BigCall
import Derived.BigGuard
set_option maxRecDepth 100000
set_option maxHeartbeats 32000000
set_option linter.unusedVariables false
set_option linter.unusedSimpArgs false
namespace Go.Proofs.YtkbcnacjaakleaaGreatDoor
open Go.RowKit Go.Shelf
attribute [local go_sem] Oper.semAt_some

theorem key_new : ∀ j : Fin 19, ((keyW.take j).any fun x => x.data == (keyW.getD j ⟨#[]⟩).data) = false := by decide +kernel
theorem any_keyW (s : ByteArray) : (keyW.any fun x => x.data == s.data) = keyB s.data.toList := by
 unfold keyW keyB
 rw [List.any_map]
 congr 1
 funext x
 show (x.toArray == s.data) = _
 rw [Bool.eq_iff_iff, beq_iff_eq, beq_iff_eq]
 exact ⟨fun e => by rw [← e], fun e => by rw [e]⟩
structure LangI (w : World) (pre : List ByteArray) (W : World) : Prop where
 box : Blk W (w.heap.size + 1) 70 #[.map (some w.heap.size)]
 map : W.heap[w.heap.size]? = some (.map (ents (onesM pre) 0).toArray pre.length)
 ext : Ext w W
theorem heap_lt {w : World} {k : Nat} {o : Obj} (h : w.heap[k]? = some o) : k < w.heap.size := (Array.getElem?_eq_some_iff.1 h).1
theorem language_any (w : World) (ha : Asc w) : Calls Tryz.prog 139 #[] w fun e w' => e = .returned (.map (some w.heap.size)) ∧ Ext w w' ∧ w'.heap[w.heap.size]? = some (.map (ents (onesM keyW) 0).toArray 19) := by
 have HA := Lib.hid ha
 clear ha
 refine (callsIn_wide (n := 4)).1 ?_
 have hmm := @run_makeMap Tryz.prog
 refine callsIn_of_wp_marks Tryz.func139 rfl trivial ?_ rfl
 simp only [Tryz.ntmps139, List.size_toArray, List.length_cons, List.length_nil, Nat.reduceAdd, Nat.reduceSub, Array.replicate_succ, Array.replicate_zero, List.push_toArray, List.append_toArray, List.nil_append, List.cons_append]
 gi_wp2
 refine ⟨trivial, (seq_in Fence.wide 3 trivial rfl _ _).mono ?_⟩
 rintro e w' ⟨rfl, rfl⟩
 gi_wp2
 have hB0 : Ext w (((w.alloc (.map #[] 0)).alloc (.cells #[.map (some w.heap.size)] 70)).alloc (.cells #[.string ⟨keyC.toArray⟩] 9)) := (((Ext.refl w).alloc _).alloc _).alloc _
 have HB0 := Lib.hid hB0
 have HS : Hid (Blk (((w.alloc (.map #[] 0)).alloc (.cells #[.map (some w.heap.size)] 70)).alloc (.cells #[.string ⟨keyC.toArray⟩] 9)) (w.heap.size + 1 + 1) 9 #[.string keyS]) := Lib.hid (by
  have h := Blk.new ((w.alloc (.map #[] 0)).alloc (.cells #[.map (some w.heap.size)] 70)) 9 #[.string keyS]
  rw [size_alloc, size_alloc] at h; exact h)
 have HI : Hid (LangI w [] (((w.alloc (.map #[] 0)).alloc (.cells #[.map (some w.heap.size)] 70)).alloc (.cells #[.string ⟨keyC.toArray⟩] 9))) := Lib.hid ⟨by
  have h := Blk.new (w.alloc (.map #[] 0)) 70 #[.map (some w.heap.size)]
  rw [size_alloc] at h; exact h.alloc _, by
  have h := heap_alloc_new w (.map #[] 0)
  exact (Below.heap_alloc _ _ _ (by simp; omega)).trans ((Below.heap_alloc _ _ _ (by simp)).trans h), HB0.out⟩
 have HA0 := Lib.hid (HA.out.ext HB0.out)
 have HL : Hid ((0 : Nat) < w.heap.size) := Lib.hid HA.out.lt
 clear hB0 hmm
 obtain ⟨W0, hW0⟩ : ∃ W0, (((w.alloc (.map #[] 0)).alloc (.cells #[.map (some w.heap.size)] 70)).alloc (.cells #[.string ⟨keyC.toArray⟩] 9)) = W0 := ⟨_, rfl⟩
 have hsz : W0.heap.size = w.heap.size + 3 := by rw [← hW0]; simp
 have HW0 := Lib.hid hW0
 rw [hW0] at HB0 HS HI HA0
 show Code.wpIn _ _ _ _ _ _ (((w.alloc (.map #[] 0)).alloc (.cells #[.map (some w.heap.size)] 70)).alloc (.cells #[.string ⟨keyC.toArray⟩] 9))
 rw [hW0]
 clear hW0
 refine wpIn_rangeFunc_R rfl (by omega) (gf := 255) (lb := #[.pointer (some ⟨w.heap.size + 1 + 1, 0, none⟩)]) rfl trivial (enters_of Tryz.func255 (by kernel_rfl) rfl)
  (fields_in Fence.wide 3 trivial rfl (by omega) w.heap.size (w.heap.size + 1 + 1) keyS (Lib.hid rfl) W0 (by omega) HL.out (by omega) HS.out HA0.out)
  KpB.t (KpB.b (by omega) (by omega)) (Below.refl _ _) (fun _ => rfl)
  (LangI w) (fun _ _ _ => False) ?own (fun _ _ _ _ _ hs _ _ => hs) HI.out
  (fun x a' _ => a' = { tmps := #[.map none, .pointer (some ⟨w.heap.size + 1, 0, none⟩), .string x, .map (some w.heap.size), .func (.func 255) #[] #[.pointer (some ⟨w.heap.size + 1 + 1, 0, none⟩)], .string x, undef, undef, undef, undef, undef], defers := [] })
  (fun _ _ _ _ _ hs _ _ => hs) ?assign ?body ?done ?stop
 case own =>
  rintro s X Y row ⟨h1, h2, h3⟩ hg hr
  have hne : ∀ k, k < w.heap.size + 3 → some k ≠ row := fun k hk e => by have := (hr k e.symm).1; omega
  exact ⟨(hg.block _ h1.lt (hne _ (by omega))).trans h1, (hg.block _ (heap_lt h2) (hne _ (by omega))).trans h2, Below.grown h3 hg h3.size (fun k e => by have := (hr k e).1; omega)⟩
 case assign =>
  intro l pre x W K hI hR hK
  gi_wp2
  exact hK _ _ (KeepsFrom.refl _ _) ⟨Below.refl _ _, rfl⟩ hI rfl
 case body =>
  rintro l pre x a' W ⟨hbx, hm, he⟩ ⟨j, hj, rfl, rfl⟩ rfl
  have hlen : (keyW.take j).length = j := by simp; rw [keyW_len] at hj ⊢; omega
  rw [hlen] at hm
  have hno : noKey .string (.string (keyW[j]'hj)) (onesM (keyW.take j)) = true := ones_no _ _ (by
   have e : keyW.getD j ⟨#[]⟩ = keyW[j]'hj := by rw [List.getD_eq_getElem?_getD, List.getElem?_eq_getElem hj]; rfl
   rw [← e]; exact key_new ⟨j, hj⟩)
  have lk := run_lookup_none Tryz.underlying70 Tryz.underlying9 rfl _ j _ (.string (keyW[j]'hj)) (.int .i64 0) (zero_int W) hm hno false
  simp only [Bool.false_eq_true, if_false] at lk
  obtain ⟨w1, up, m1, m2, m3, m4, m5, m6⟩ := run_insert_at Tryz.underlying70 Tryz.underlying9 rfl _ j _ (.string (keyW[j]'hj)) (.int .i64 1) hm (by rw [onesM_len, hlen]) hno
  have hgr : W.grownBy w1 (some w.heap.size) := ⟨m4, m5, m6, by omega, fun k _ hk => m2 k (fun e => hk (by rw [e]))⟩
  have HM := Lib.hid (show LangI w (keyW.take j ++ [keyW[j]'hj]) w1 from ⟨(m2 _ (by omega)).trans hbx, by rw [m1, onesM_snoc, List.length_append, hlen]; rfl, he.map_ (Nat.le_refl _) m2 m3 m4 m5 m6⟩)
  have HK1 := Lib.hid (show KeepsFrom W0.heap.size W w1 from KeepsFrom.of_grownBy hgr (fun k e => by cases e; omega))
  have HK2 := Lib.hid (show KpB w.heap.size (w.heap.size + 1 + 1) W w1 from ⟨(Below.refl _ W).grown hgr he.size (fun k e => by cases e; exact Nat.le_refl _), m2 _ (by omega)⟩)
  have c0 : W.cell? ⟨w.heap.size + 1, 0, none⟩ = some (.map (some w.heap.size)) := hbx.cell 0
  clear hgr m1 m2 m3 m4 m5 m6 hno hbx hm he hlen
  gi_wp2
  exact ⟨HK1.out, HK2.out, trivial, HM.out⟩
 case done =>
  rintro D ys W hD rfl ⟨hbx, hm, he⟩ hK
  have c0 : W.cell? ⟨w.heap.size + 1, 0, none⟩ = some (.map (some w.heap.size)) := hbx.cell 0
  gi_wp2
  refine ⟨by simp, .inl ⟨_, _, rfl, run_takeDeferred hK, ?_⟩⟩
  exact ⟨_, results_tmp rfl _ _ _, rfl, Below.trans he (belowK_b (w := w) (Nat.le_refl _) W D _ _ (by omega) hK rfl rfl), (World.putObj_heap_other (by omega)).trans hm⟩
 case stop =>
  rintro D c pre W _ _ h _
  exact h.elim
end Go.Proofs.YtkbcnacjaakleaaGreatDoor
namespace Go.Proofs.YtkbcnacjaakleaaGreatDoor
open Go.RowKit

def truesM (l : List ByteArray) : List (Value × Value) := l.map fun s => (.string s, .bool true)
theorem truesM_len (l : List ByteArray) : (truesM l).length = l.length := by simp [truesM]
theorem truesM_snoc (l : List ByteArray) (x : ByteArray) : truesM (l ++ [x]) = truesM l ++ [(.string x, .bool true)] := by simp [truesM]
theorem trues_no (s : ByteArray) : ∀ l : List ByteArray, (l.any fun x => x.data == s.data) = false → noKey .string (.string s) (truesM l) = true
 | [], _ => rfl
 | x :: l, h => by
  rw [List.any_cons, Bool.or_eq_false_iff] at h
  have := trues_no s l h.2
  simp only [noKey, truesM, List.map_cons, List.all_cons, same_str, h.1, beq_self_eq_true, Bool.true_and] at this ⊢
  exact this
theorem trues_yes (s : ByteArray) : ∀ l : List ByteArray, (l.any fun x => x.data == s.data) = true → under .string (.string s) (truesM l) = some (.bool true)
 | x :: l, h => by
  simp only [truesM, List.map_cons, under, same_str]
  cases hx : (x.data == s.data)
  ·rw [List.any_cons, hx, Bool.false_or] at h
   simp only [Option.some.injEq, Bool.false_eq_true, if_false, if_true]
   exact trues_yes s l h
  ·simp
theorem zero_bool (w : World) : (zeroValue 4).run Tryz.prog w = .ok (.bool false) w := by kernel_rfl
def SetM (w : World) (M : Nat) (xs : List ByteArray) : Prop := w.heap[M]? = some (.map (ents (truesM xs) 0).toArray xs.length)
theorem SetM.ext {w w' : World} {M : Nat} {xs : List ByteArray} (h : SetM w M xs) (he : Ext w w') : SetM w' M xs := (he.block M (heap_lt h)).trans h
theorem SetM.look {w : World} {M : Nat} {xs : List ByteArray} (h : SetM w M xs) (s : ByteArray) : (Instr.lookup 175 (.map (some M)) (.string s) false).run Tryz.prog w = .ok (.bool (xs.any fun x => x.data == s.data)) w := by
 cases hb : (xs.any fun x => x.data == s.data) with
 | false =>
  have := run_lookup_none Tryz.underlying175 Tryz.underlying9 rfl (truesM xs) xs.length M (.string s) (.bool false) (zero_bool w) h (trues_no s xs hb) false
  simpa using this
 | true =>
  have := run_lookup_lit Tryz.underlying175 Tryz.underlying9 rfl (truesM xs) xs.length M (.string s) (.bool true) h (trues_yes s xs hb) false
  simpa using this
def BondsE (w : World) (xs : List ByteArray) (e : Ending) (w' : World) : Prop := ∃ M, e = .returned (.map (some M)) ∧ w.heap.size ≤ M ∧ Ext w w' ∧ SetM w' M xs
theorem bonds1_any (w : World) (g : Nat) (xs : List ByteArray) (hc : ∀ i (h : i < xs.length), w.cell? ⟨g, i, none⟩ = some (.string xs[i])) (hn : ∀ i (h : i < xs.length), ((xs.take i).any fun x => x.data == xs[i].data) = false) (h0 : 0 < xs.length) (hl : xs.length ≤ 100) :
  Calls Tryz.prog 210 #[.slice (some ⟨g, 0, none⟩) xs.length xs.length] w (BondsE w xs) := by
 obtain ⟨n, hxn⟩ : ∃ n, xs.length = n := ⟨_, rfl⟩
 have hg : g < w.heap.size := by have := cell_lt (hc 0 h0); simpa using this
 have HC := Lib.hid hc
 have HN := Lib.hid hn
 rw [hxn] at h0 hl ⊢
 have HXN := Lib.hid hxn
 clear hxn hc hn
 have hmm := @run_makeMap Tryz.prog
 go_enter Tryz.func210, Tryz.ntmps210
 go_wp2_with fail
 clear hmm
 have HI : Hid (SetM (w.alloc (.map #[] 0)) w.heap.size (xs.take 0) ∧ Ext w (w.alloc (.map #[] 0))) := Lib.hid ⟨heap_alloc_new w _, (Ext.refl w).alloc _⟩
 generalize w.alloc (.map #[] 0) = W0 at *
 go_loopw [9] (fun i wr => ∃ k : Nat, k ≤ n ∧ i = .int .i64 k ∧ Hid (SetM wr w.heap.size (xs.take k) ∧ Ext w wr)) (fun i _ => n - (intOf i).toNat)
 case atStart => exact ⟨0, Nat.zero_le _, rfl, HI⟩
 case round =>
  obtain ⟨k, hk, rfl, HK⟩ := hrel
  by_cases hlt : k < n
  ·have hd : decide ((k : Int) < (n : Int)) = true := decide_eq_true (by omega)
   have hd' : (k : Int) < (n : Int) := by omega
   have hk0 : (0 : Int) ≤ (k : Int) := by omega
   have hlx : k < xs.length := by rw [HXN.out]; exact hlt
   have c0 := HK.out.2.cell (HC.out k hlx)
   have hset := HK.out.1
   have hlen : (xs.take k).length = k := by rw [List.length_take]; omega
   unfold SetM at hset
   rw [hlen] at hset
   obtain ⟨w1, up, m1, m2, m3, m4, m5, m6⟩ := run_insert_at Tryz.underlying175 Tryz.underlying9 rfl (truesM (xs.take k)) k w.heap.size (.string xs[k]) (.bool true) hset (by rw [truesM_len, hlen]) (trues_no _ _ (HN.out k hlx))
   have HK1 : Hid (SetM w1 w.heap.size (xs.take (k + 1)) ∧ Ext w w1) := Lib.hid ⟨by
    unfold SetM
    rw [m1, List.take_succ_eq_append_getElem hlx, truesM_snoc, List.length_append, hlen]
    rfl, HK.out.2.map_ (Nat.le_refl _) m2 m3 m4 m5 m6⟩
   generalize xs[k] = x at *
   clear m1 m2 m3 m4 m5 m6 hset hlen HK
   go_wp2_with fail
   go_roundw
   case rel => exact ⟨k + 1, by omega, by go_num, HK1⟩
   case measure => simp [intOf]; omega
  ·obtain rfl : k = n := by omega
   have hd : decide ((k : Int) < (k : Int)) = false := decide_eq_false (by omega)
   have HF := Lib.hid (show SetM wr w.heap.size xs ∧ Ext w wr by have := HK.out; rw [List.take_of_length_le (by rw [HXN.out]; exact Nat.le_refl _)] at this; exact this)
   clear HK
   go_wp2_with fail
   go_ret
   exact ⟨_, rfl, Nat.le_refl _, HF.out.2, HF.out.1⟩
def bondB (i : Nat) : List ByteArray := (bondL.getD i []).map fun t => ⟨t.toArray⟩
def BondsR (w : World) (e : Ending) (w' : World) : Prop := ∃ bb, e = .returned (.slice (some ⟨bb, 0, none⟩) 6 6) ∧ w.heap.size ≤ bb ∧ Ext w w' ∧ ∀ i, i < 6 → ∃ M, w'.cell? ⟨bb, i, none⟩ = some (.map (some M)) ∧ SetM w' M (bondB i)
theorem bonds1_lit (W : World) (xs : List ByteArray) (hn : ∀ i (h : i < xs.length), ((xs.take i).any fun x => x.data == xs[i].data) = false) (h0 : 0 < xs.length) (hl : xs.length ≤ 100) :
  Calls Tryz.prog 210 #[.slice (some ⟨W.heap.size, 0, none⟩) xs.length xs.length] (W.alloc (.cells (xs.map Value.string).toArray 9)) fun e w' => ∃ M, e = .returned (.map (some M)) ∧ Ext W w' ∧ SetM w' M xs :=
 (bonds1_any _ W.heap.size xs (fun i hi => by rw [(Blk.new W 9 (xs.map Value.string).toArray).cell i]; simp [hi]) hn h0 hl).mono fun e w' ⟨M, h1, _, h3, h4⟩ => ⟨M, h1, ((Ext.refl W).alloc _).trans h3, h4⟩
theorem bonds_any (w : World) : Calls Tryz.prog 142 #[] w (BondsR w) := by
 have hF : ∀ (args : Array Value) (w : World), (callFunc 210 args).run Tryz.prog w = .ok (.enter 210 args) w := fun _ _ => rfl
 go_enter Tryz.func142, Tryz.ntmps142
 go_wp2_with fail
 refine (bonds1_lit w [⟨#[111, 114]⟩] (by decide) (by decide) (by decide)).mono ?_
 rintro e w1 ⟨M0, rfl, e0, s0⟩
 have X0 := Lib.hid e0
 have S0 := Lib.hid s0
 clear e0 s0
 go_wp2_with fail
 refine (bonds1_lit w1 [⟨#[97, 110, 100]⟩] (by decide) (by decide) (by decide)).mono ?_
 rintro e w2 ⟨M1, rfl, e1, s1⟩
 have X1 := Lib.hid e1
 have S1 := Lib.hid s1
 clear e1 s1
 go_wp2_with fail
 refine (bonds1_lit w2 [⟨#[61, 61]⟩, ⟨#[126, 61]⟩, ⟨#[60]⟩, ⟨#[60, 61]⟩, ⟨#[62]⟩, ⟨#[62, 61]⟩] (by decide) (by decide) (by decide)).mono ?_
 rintro e w3 ⟨M2, rfl, e2, s2⟩
 have X2 := Lib.hid e2
 have S2 := Lib.hid s2
 clear e2 s2
 go_wp2_with fail
 refine (bonds1_lit w3 [⟨#[46, 46]⟩] (by decide) (by decide) (by decide)).mono ?_
 rintro e w4 ⟨M3, rfl, e3, s3⟩
 have X3 := Lib.hid e3
 have S3 := Lib.hid s3
 clear e3 s3
 go_wp2_with fail
 refine (bonds1_lit w4 [⟨#[43]⟩, ⟨#[45]⟩] (by decide) (by decide) (by decide)).mono ?_
 rintro e w5 ⟨M4, rfl, e4, s4⟩
 have X4 := Lib.hid e4
 have S4 := Lib.hid s4
 clear e4 s4
 go_wp2_with fail
 refine (bonds1_lit w5 [⟨#[42]⟩, ⟨#[47]⟩, ⟨#[37]⟩] (by decide) (by decide) (by decide)).mono ?_
 rintro e w6 ⟨M5, rfl, e5, s5⟩
 have X5 := Lib.hid e5
 have S5 := Lib.hid s5
 clear e5 s5
 go_wp2_with fail
 go_ret
 have A := (Ext.refl w6).alloc (.cells #[.map (some M0), .map (some M1), .map (some M2), .map (some M3), .map (some M4), .map (some M5)] 175)
 have hB := Blk.new w6 175 #[.map (some M0), .map (some M1), .map (some M2), .map (some M3), .map (some M4), .map (some M5)]
 have E6 := ((((X0.out.trans X1.out).trans X2.out).trans X3.out).trans X4.out).trans X5.out
 refine ⟨w6.heap.size, rfl, E6.le, E6.trans A, fun i hi => ?_⟩
 have hi2 : i = 0 ∨ i = 1 ∨ i = 2 ∨ i = 3 ∨ i = 4 ∨ i = 5 := by omega
 rcases hi2 with rfl | rfl | rfl | rfl | rfl | rfl
 ·exact ⟨M0, hB.cell 0, ((((((S0.out.ext X1.out).ext X2.out).ext X3.out).ext X4.out).ext X5.out).ext A)⟩
 ·exact ⟨M1, hB.cell 1, (((((S1.out.ext X2.out).ext X3.out).ext X4.out).ext X5.out).ext A)⟩
 ·exact ⟨M2, hB.cell 2, ((((S2.out.ext X3.out).ext X4.out).ext X5.out).ext A)⟩
 ·exact ⟨M3, hB.cell 3, (((S3.out.ext X4.out).ext X5.out).ext A)⟩
 ·exact ⟨M4, hB.cell 4, ((S4.out.ext X5.out).ext A)⟩
 ·exact ⟨M5, hB.cell 5, S5.out.ext A⟩
theorem letter_any (w : World) (c : UInt8) : Calls Tryz.prog 138 #[.int .u8 (c.toNat : Int)] w fun e w' => e = .returned (.bool (letB c)) ∧ w = w' := by
 obtain ⟨r, hr⟩ : ∃ r, letB c = r := ⟨_, rfl⟩
 have HR := Lib.hid hr
 rw [hr]
 clear hr
 go_enter Tryz.func138, Tryz.ntmps138
 go_wp2_with fail
 all_goals (go_ret; refine ⟨ret_of (bool_eq ?_), rfl⟩; rw [← HR.out, Bool.eq_iff_iff]; simp [letB]; omega)
theorem digit_any (w : World) (c : UInt8) : Calls Tryz.prog 140 #[.int .u8 (c.toNat : Int)] w fun e w' => e = .returned (.bool (digB c)) ∧ w = w' := by
 obtain ⟨r, hr⟩ : ∃ r, digB c = r := ⟨_, rfl⟩
 have HR := Lib.hid hr
 rw [hr]
 clear hr
 go_enter Tryz.func140, Tryz.ntmps140
 go_wp2_with fail
 all_goals (go_ret; refine ⟨ret_of (bool_eq ?_), rfl⟩; rw [← HR.out, Bool.eq_iff_iff]; simp [digB]; omega)
theorem str_empty (s : ByteArray) : s.toList.isEmpty = decide (s.size = 0) := by
 rw [Lib.toList_data]
 have : s.data.toList.length = s.size := rfl
 cases h : s.data.toList with
 | nil => rw [h] at this; simp at this; simp [← this]
 | cons a l => rw [h] at this; simp at this; simp [← this]
theorem str_get (s : ByteArray) (k : Nat) (h : k < s.size) : s.data.toList[k]'(show k < s.data.toList.length from h) = s[k]'h := rfl
theorem get_of {l m : List UInt8} (h : l = m) {k : Nat} (h1 : k < l.length) : l[k] = m[k]'(h ▸ h1) := by subst h; rfl
theorem run_any (w : World) (s : ByteArray) (hs : s.size ≤ 9223372036854775807) : Calls Tryz.prog 225 #[.string s] w fun e w' => e = .returned (.int .i64 (runP s.data.toList : Int)) ∧ w = w' := by
 obtain ⟨n, hn⟩ : ∃ n, s.size = n := ⟨_, rfl⟩
 have hl : s.data.toList.length = n := hn
 obtain ⟨l, hL⟩ : ∃ l, s.data.toList = l := ⟨_, rfl⟩
 obtain ⟨r, hr⟩ : ∃ r, runP l = r := ⟨_, rfl⟩
 rw [hL, hr]
 have HR := Lib.hid hr
 have HL := Lib.hid hL
 rw [hL] at hl
 clear hr hL
 go_enter Tryz.func225, Tryz.ntmps225
 go_wp2_with fail
 go_loopw [3] (fun v3 wr => ∃ k : Nat, v3 = .int .i64 (k : Int) ∧ k ≤ n ∧ wr = w ∧ Hid (k + runP (l.drop k) = r)) (fun v3 _ => n - (intOf v3).toNat)
 case atStart => exact ⟨0, rfl, by omega, rfl, Lib.hid (by rw [List.drop_zero, HR.out]; omega)⟩
 case round =>
  obtain ⟨k, rfl, hk, rfl, HK⟩ := hrel
  by_cases hkn : k < n
  ·have d1 : decide ((k : Int) < (n : Int)) = true := decide_eq_true (by omega)
   have d1n : decide (k < n) = true := decide_eq_true hkn
   have hks : k < s.size := by omega
   obtain ⟨c, hc⟩ : ∃ c, s[k]'hks = c := ⟨_, rfl⟩
   have hd : l.drop k = c :: l.drop (k + 1) := by rw [List.drop_eq_getElem_cons (by omega), ← hc]; congr 1; rw [← str_get]; exact get_of HL.out.symm _
   have HC := Lib.hid hc
   have hrun := HK.out
   rw [hd] at hrun
   have hrun : k + (if wrdB c = true then runP (l.drop (k + 1)) + 1 else 0) = r := hrun
   clear hd hc HK
   have HK := Lib.hid hrun
   clear hrun
   go_wp2_with fail
   rw [HC.out]
   refine (letter_any _ c).mono ?_
   rintro e w' ⟨rfl, rfl⟩
   obtain ⟨b, hb⟩ : ∃ b, letB c = b := ⟨_, rfl⟩
   have HB := Lib.hid hb
   rw [hb]
   clear hb
   cases b
   ·go_wp2_with fail
    rw [HC.out]
    refine (digit_any _ c).mono ?_
    rintro e w' ⟨rfl, rfl⟩
    obtain ⟨b, hb⟩ : ∃ b, digB c = b := ⟨_, rfl⟩
    have HD := Lib.hid hb
    rw [hb]
    clear hb
    cases b
    ·go_wp2_with fail
     go_ret
     have hw : wrdB c = false := by unfold wrdB; rw [HB.out, HD.out]; rfl
     have h := HK.out
     rw [hw, if_neg (by simp)] at h
     exact ⟨ret_of (int_eq (by omega)), rfl⟩
    ·go_wp2_with fail
     go_roundw
     case rel =>
      have hw : wrdB c = true := by unfold wrdB; rw [HB.out, HD.out]; rfl
      have h := HK.out
      rw [hw, if_pos rfl] at h
      exact ⟨k + 1, by simp, by omega, by first | rfl | trivial, Lib.hid (by omega)⟩
     case measure => simp [intOf]; omega
   ·go_wp2_with fail
    go_roundw
    case rel =>
     have hw : wrdB c = true := by unfold wrdB; rw [HB.out]; rfl
     have h := HK.out
     rw [hw, if_pos rfl] at h
     exact ⟨k + 1, by simp, by omega, by first | rfl | trivial, Lib.hid (by omega)⟩
    case measure => simp [intOf]; omega
  ·have d1 : decide ((k : Int) < (n : Int)) = false := decide_eq_false (by omega)
   have d1n : decide (k < n) = false := decide_eq_false hkn
   go_wp2_with fail
   go_ret
   have h := HK.out
   rw [List.drop_eq_nil_of_le (by omega)] at h
   exact ⟨ret_of (int_eq (by have : runP [] = 0 := rfl; omega)), rfl⟩
def escV : Option (UInt8 × Nat) → Value
 | none => .tuple #[.int .u8 0, .int .i64 0]
 | some (b, n) => .tuple #[.int .u8 (b.toNat : Int), .int .i64 (n : Int)]
theorem esc_short {l : List UInt8} {c : UInt8} {m : List UInt8} (h : l = c :: m) (h1 : ¬ c.toNat = 110) (h2 : ¬ c.toNat = 116) (h3 : ¬ c.toNat = 114) (h4 : ¬ (c.toNat = 92 ∨ c.toNat = 39 ∨ c.toNat = 34)) (hm : m.length < 2) : escP l = none := by
 subst h
 unfold escP
 dsimp only
 rw [if_neg h1, if_neg h2, if_neg h3, if_neg h4]
 match m, hm with
 | [], _ => rfl
 | [_], _ => rfl
theorem esc_three {l : List UInt8} {c d e : UInt8} {m : List UInt8} (h : l = c :: d :: e :: m) (h1 : ¬ c.toNat = 110) (h2 : ¬ c.toNat = 116) (h3 : ¬ c.toNat = 114) (h4 : ¬ (c.toNat = 92 ∨ c.toNat = 39 ∨ c.toNat = 34)) :
  escP l = if digB c = true ∧ digB d = true ∧ digB e = true then
     (if 100 * (c.toNat - 48) + 10 * (d.toNat - 48) + (e.toNat - 48) ≤ 255 then some (UInt8.ofNat (100 * (c.toNat - 48) + 10 * (d.toNat - 48) + (e.toNat - 48)), 3) else none) else none := by
 subst h
 unfold escP
 dsimp only
 rw [if_neg h1, if_neg h2, if_neg h3, if_neg h4]
theorem head_cons {l : List UInt8} (h : 0 < l.length) : l = l[0] :: l.drop 1 := by
 match l, h with
 | a :: l, _ => rfl
theorem take3 {l : List UInt8} (h : 3 ≤ l.length) : l = l[0] :: l[1] :: l[2] :: l.drop 3 := by
 match l, h with
 | a :: b :: c :: l, _ => rfl
theorem escaped_any (w : World) (s : ByteArray) : Calls Tryz.prog 269 #[.string s] w fun e w' => e = .returned (escV (escP s.data.toList)) ∧ Ext w w' := by
 obtain ⟨n, hn⟩ : ∃ n, s.size = n := ⟨_, rfl⟩
 obtain ⟨l, hL⟩ : ∃ l, s.data.toList = l := ⟨_, rfl⟩
 have hl : l.length = n := by rw [← hL]; exact hn
 obtain ⟨r, hr⟩ : ∃ r, escP l = r := ⟨_, rfl⟩
 rw [hL, hr]
 have HR := Lib.hid hr
 have HL := Lib.hid hL
 have HLL := Lib.hid hl
 clear hr hL hl
 by_cases h0 : n = 0
 ·subst h0
  have e0 : s.toList.isEmpty = true := by rw [str_empty, hn]; rfl
  have HN := Lib.hid hn
  have hr : r = none := by rw [← HR.out, List.length_eq_zero_iff.1 HLL.out]; rfl
  subst hr
  clear hn
  go_enter Tryz.func269, Tryz.ntmps269
  go_wp2_with fail
  go_ret2
  exact ⟨rfl, Ext.refl _⟩
 have e0 : s.toList.isEmpty = false := by rw [str_empty, hn]; exact decide_eq_false h0
 have hs0 : 0 < s.size := by omega
 have H0 : Hid (0 < l.length) := Lib.hid (by rw [HLL.out]; omega)
 obtain ⟨c, hc⟩ : ∃ c, s[0]'hs0 = c := ⟨_, rfl⟩
 have hcl : l[0]'H0.out = c := by rw [← hc, ← str_get s 0 hs0]; exact get_of HL.out.symm _
 have HCL := Lib.hid hcl
 have HCC : Hid (l = c :: l.drop 1) := Lib.hid (by have h := head_cons H0.out; rw [hcl] at h; exact h)
 clear hcl
 by_cases g0 : c.toNat = 110
 ·have f0 : ((c.toNat : Int) == 110) = true := by rw [g0]; rfl
  have hr : r = some (10, 1) := by
   rw [← HR.out, HCC.out]; unfold escP; dsimp only; rw [if_pos (by omega)]
  have HN := Lib.hid hn
  have G := Lib.hid g0
  subst hr
  clear hn g0
  go_enter Tryz.func269, Tryz.ntmps269
  go_wp2_with fail
  go_ret2
  exact ⟨rfl, Ext.refl _⟩
 have f0 : ((c.toNat : Int) == 110) = false := by rw [beq_eq_false_iff_ne]; omega
 by_cases g1 : c.toNat = 116
 ·have f1 : ((c.toNat : Int) == 116) = true := by rw [g1]; rfl
  have hr : r = some (9, 1) := by
   rw [← HR.out, HCC.out]; unfold escP; dsimp only; rw [if_neg (by omega), if_pos (by omega)]
  have HN := Lib.hid hn
  have G := Lib.hid g1
  subst hr
  clear hn g1
  go_enter Tryz.func269, Tryz.ntmps269
  go_wp2_with fail
  go_ret2
  exact ⟨rfl, Ext.refl _⟩
 have f1 : ((c.toNat : Int) == 116) = false := by rw [beq_eq_false_iff_ne]; omega
 by_cases g2 : c.toNat = 114
 ·have f2 : ((c.toNat : Int) == 114) = true := by rw [g2]; rfl
  have hr : r = some (13, 1) := by
   rw [← HR.out, HCC.out]; unfold escP; dsimp only; rw [if_neg (by omega), if_neg (by omega), if_pos (by omega)]
  have HN := Lib.hid hn
  have G := Lib.hid g2
  subst hr
  clear hn g2
  go_enter Tryz.func269, Tryz.ntmps269
  go_wp2_with fail
  go_ret2
  exact ⟨rfl, Ext.refl _⟩
 have f2 : ((c.toNat : Int) == 114) = false := by rw [beq_eq_false_iff_ne]; omega
 by_cases g3 : c.toNat = 92
 ·have f3 : ((c.toNat : Int) == 92) = true := by rw [g3]; rfl
  have hr : r = some (c, 1) := by
   rw [← HR.out, HCC.out]; unfold escP; dsimp only; rw [if_neg (by omega), if_neg (by omega), if_neg (by omega), if_pos (by omega)]
  have HN := Lib.hid hn
  have G := Lib.hid g3
  subst hr
  clear hn g3
  go_enter Tryz.func269, Tryz.ntmps269
  go_wp2_with fail
  go_ret2
  exact ⟨rfl, Ext.refl _⟩
 have f3 : ((c.toNat : Int) == 92) = false := by rw [beq_eq_false_iff_ne]; omega
 by_cases g4 : c.toNat = 39
 ·have f4 : ((c.toNat : Int) == 39) = true := by rw [g4]; rfl
  have hr : r = some (c, 1) := by
   rw [← HR.out, HCC.out]; unfold escP; dsimp only; rw [if_neg (by omega), if_neg (by omega), if_neg (by omega), if_pos (by omega)]
  have HN := Lib.hid hn
  have G := Lib.hid g4
  subst hr
  clear hn g4
  go_enter Tryz.func269, Tryz.ntmps269
  go_wp2_with fail
  go_ret2
  exact ⟨rfl, Ext.refl _⟩
 have f4 : ((c.toNat : Int) == 39) = false := by rw [beq_eq_false_iff_ne]; omega
 by_cases g5 : c.toNat = 34
 ·have f5 : ((c.toNat : Int) == 34) = true := by rw [g5]; rfl
  have hr : r = some (c, 1) := by
   rw [← HR.out, HCC.out]; unfold escP; dsimp only; rw [if_neg (by omega), if_neg (by omega), if_neg (by omega), if_pos (by omega)]
  have HN := Lib.hid hn
  have G := Lib.hid g5
  subst hr
  clear hn g5
  go_enter Tryz.func269, Tryz.ntmps269
  go_wp2_with fail
  go_ret2
  exact ⟨rfl, Ext.refl _⟩
 have f5 : ((c.toNat : Int) == 34) = false := by rw [beq_eq_false_iff_ne]; omega
 have hnb : Hid (¬ (c.toNat = 92 ∨ c.toNat = 39 ∨ c.toNat = 34)) := Lib.hid (by omega)
 have E0 := Lib.hid g0
 have E1 := Lib.hid g1
 have E2 := Lib.hid g2
 clear g0 g1 g2 g3 g4 g5
 by_cases h3 : n < 3
 ·have d1 : decide ((s.size : Int) < 3) = true := decide_eq_true (by omega)
  have d1n : decide (s.size < 3) = true := decide_eq_true (by omega)
  have hr : r = none := by rw [← HR.out]; exact esc_short HCC.out E0.out E1.out E2.out hnb.out (by have := HLL.out; simp; omega)
  have HN := Lib.hid hn
  subst hr
  clear hn
  go_enter Tryz.func269, Tryz.ntmps269
  go_wp2_with fail
  go_ret2
  exact ⟨rfl, Ext.refl _⟩
 have d1 : decide ((s.size : Int) < 3) = false := decide_eq_false (by omega)
 have d1n : decide (s.size < 3) = false := decide_eq_false (by omega)
 have hs1 : 1 < s.size := by omega
 have hs2 : 2 < s.size := by omega
 have H3 : Hid (3 ≤ l.length) := Lib.hid (by rw [HLL.out]; omega)
 obtain ⟨c1, hc1⟩ : ∃ c, s[1]'hs1 = c := ⟨_, rfl⟩
 obtain ⟨c2, hc2⟩ : ∃ c, s[2]'hs2 = c := ⟨_, rfl⟩
 have HT : Hid (l = c :: c1 :: c2 :: l.drop 3) := Lib.hid (by
  have h := take3 H3.out
  have i1 : l[1]'(by have := H3.out; omega) = c1 := by rw [← hc1, ← str_get s 1 hs1]; exact get_of HL.out.symm _
  have i2 : l[2]'(by have := H3.out; omega) = c2 := by rw [← hc2, ← str_get s 2 hs2]; exact get_of HL.out.symm _
  rw [HCL.out, i1, i2] at h; exact h)
 have HE := Lib.hid (esc_three HT.out E0.out E1.out E2.out hnb.out)
 have HN := Lib.hid hn
 clear hn
 obtain ⟨b0, hb0⟩ : ∃ b, digB c = b := ⟨_, rfl⟩
 obtain ⟨b1, hb1⟩ : ∃ b, digB c1 = b := ⟨_, rfl⟩
 obtain ⟨b2, hb2⟩ : ∃ b, digB c2 = b := ⟨_, rfl⟩
 have B0 := Lib.hid hb0
 have B1 := Lib.hid hb1
 have B2 := Lib.hid hb2
 clear hb0 hb1 hb2
 by_cases hall : b0 = true ∧ b1 = true ∧ b2 = true
 ·obtain ⟨rfl, rfl, rfl⟩ := hall
  have x0 : 48 ≤ c.toNat ∧ c.toNat ≤ 57 := by simpa [digB] using B0.out
  have x1 : 48 ≤ c1.toNat ∧ c1.toNat ≤ 57 := by simpa [digB] using B1.out
  have x2 : 48 ≤ c2.toNat ∧ c2.toNat ≤ 57 := by simpa [digB] using B2.out
  obtain ⟨a0, ha0⟩ : ∃ a : Nat, c.toNat = a + 48 := ⟨c.toNat - 48, by omega⟩
  obtain ⟨a1, ha1⟩ : ∃ a : Nat, c1.toNat = a + 48 := ⟨c1.toNat - 48, by omega⟩
  obtain ⟨a2, ha2⟩ : ∃ a : Nat, c2.toNat = a + 48 := ⟨c2.toNat - 48, by omega⟩
  have HV : Hid (escP l = if 100 * a0 + 10 * a1 + a2 ≤ 255 then some (UInt8.ofNat (100 * a0 + 10 * a1 + a2), 3) else none) := Lib.hid (by
   rw [HE.out, B0.out, B1.out, B2.out, if_pos ⟨rfl, rfl, rfl⟩, ha0, ha1, ha2]
   simp only [Nat.add_sub_cancel])
  have y0 : (c.toNat : Int) = (a0 : Int) + 48 := by omega
  have y1 : (c1.toNat : Int) = (a1 : Int) + 48 := by omega
  have y2 : (c2.toNat : Int) = (a2 : Int) + 48 := by omega
  have z0 : a0 ≤ 9 := by omega
  have z1 : a1 ≤ 9 := by omega
  have z2 : a2 ≤ 9 := by omega
  have Y0 := Lib.hid y0
  have Y1 := Lib.hid y1
  have Y2 := Lib.hid y2
  clear ha0 ha1 ha2 x0 x1 x2 y0 y1 y2
  go_enter Tryz.func269, Tryz.ntmps269
  go_wp2_with fail
  refine (digit_any _ c).mono ?_
  rintro e w' ⟨rfl, rfl⟩
  rw [B0.out]
  go_wp2_with fail
  refine (digit_any _ c1).mono ?_
  rintro e w' ⟨rfl, rfl⟩
  rw [B1.out]
  go_wp2_with fail
  refine (digit_any _ c2).mono ?_
  rintro e w' ⟨rfl, rfl⟩
  rw [B2.out]
  go_wp2_with fail
  have y0 := Y0.out
  have y1 := Y1.out
  have y2 := Y2.out
  go_quiet (fail)
  clear y0 y1 y2
  by_cases hv : 100 * a0 + 10 * a1 + a2 ≤ 255
  ·have hvi : (a0 : Int) * 100 + (a1 : Int) * 10 + (a2 : Int) ≤ 255 := by omega
   have hv0 : 0 ≤ (a0 : Int) * 100 + (a1 : Int) * 10 + (a2 : Int) := by omega
   have dv : decide (255 < (a0 : Int) * 100 + (a1 : Int) * 10 + (a2 : Int)) = false := decide_eq_false (by omega)
   have HRV : Hid (r = some (UInt8.ofNat (100 * a0 + 10 * a1 + a2), 3)) := Lib.hid (by rw [← HR.out, HV.out, if_pos hv])
   have HU : Hid (((UInt8.ofNat (100 * a0 + 10 * a1 + a2)).toNat : Int) = (a0 : Int) * 100 + (a1 : Int) * 10 + (a2 : Int)) := Lib.hid (by rw [u8n]; omega)
   clear hv
   go_wp2_with fail
   go_ret2
   exact ⟨by rw [HRV.out]; exact ret2_of ⟨int_eq HU.out.symm, rfl⟩, (Ext.refl _).drewN _⟩
  ·have dv : decide (255 < (a0 : Int) * 100 + (a1 : Int) * 10 + (a2 : Int)) = true := decide_eq_true (by omega)
   have HRV : Hid (r = none) := Lib.hid (by rw [← HR.out, HV.out, if_neg hv])
   clear hv
   go_wp2_with fail
   go_ret2
   exact ⟨by rw [HRV.out]; rfl, (Ext.refl _).drewN _⟩
 ·have hr : r = none := by
   rw [← HR.out, HE.out, if_neg (by rw [B0.out, B1.out, B2.out]; exact hall)]
  subst hr
  cases b0
  ·go_enter Tryz.func269, Tryz.ntmps269
   go_wp2_with fail
   refine (digit_any _ c).mono ?_
   rintro e w' ⟨rfl, rfl⟩
   rw [B0.out]
   go_wp2_with fail
   go_ret2
   exact ⟨rfl, Ext.refl _⟩
  cases b1
  ·go_enter Tryz.func269, Tryz.ntmps269
   go_wp2_with fail
   refine (digit_any _ c).mono ?_
   rintro e w' ⟨rfl, rfl⟩
   rw [B0.out]
   go_wp2_with fail
   refine (digit_any _ c1).mono ?_
   rintro e w' ⟨rfl, rfl⟩
   rw [B1.out]
   go_wp2_with fail
   go_ret2
   exact ⟨rfl, Ext.refl _⟩
  cases b2
  ·go_enter Tryz.func269, Tryz.ntmps269
   go_wp2_with fail
   refine (digit_any _ c).mono ?_
   rintro e w' ⟨rfl, rfl⟩
   rw [B0.out]
   go_wp2_with fail
   refine (digit_any _ c1).mono ?_
   rintro e w' ⟨rfl, rfl⟩
   rw [B1.out]
   go_wp2_with fail
   refine (digit_any _ c2).mono ?_
   rintro e w' ⟨rfl, rfl⟩
   rw [B2.out]
   go_wp2_with fail
   go_ret2
   exact ⟨rfl, Ext.refl _⟩
  ·exact absurd ⟨rfl, rfl, rfl⟩ hall
def txtV : Option (List UInt8 × Nat) → Value
 | none => .tuple #[.string ⟨#[]⟩, .int .i64 0]
 | some (x, n) => .tuple #[.string ⟨x.toArray⟩, .int .i64 ((n + 1 : Nat) : Int)]
theorem map_acc (a : List UInt8) (r : Option (List UInt8 × Nat)) (b : UInt8) (k j i : Nat) (h : k + j = i) : ((r.map fun x => (b :: x.1, x.2 + j)).map fun x => (a ++ x.1, x.2 + k)) = r.map fun x => ((a ++ [b]) ++ x.1, x.2 + i) := by
 cases r with
 | none => rfl
 | some x => simp; omega
theorem text_end0 (q : UInt8) : textP q [] = none := by rw [textP]
theorem text_nl {q c : UInt8} {l : List UInt8} (h1 : c ≠ q) (h : c.toNat = 10) : textP q (c :: l) = none := by
 rw [textP]; simp [h1, h]
theorem text_bad {q : UInt8} {c : UInt8} {l : List UInt8} (h1 : c ≠ q) (h2 : ¬ c.toNat = 10) (h3 : c.toNat = 92) (h : escP l = none) : textP q (c :: l) = none := by
 rw [textP]; simp [h1, h2, h3, h]
theorem text_esc {q c : UInt8} {l : List UInt8} {b : UInt8} {n : Nat} (h1 : c ≠ q) (h2 : ¬ c.toNat = 10) (h3 : c.toNat = 92) (h : escP l = some (b, n)) : textP q (c :: l) = (textP q (l.drop n)).map fun x => (b :: x.1, x.2 + (n + 1)) := by
 rw [textP]; simp [h1, h2, h3, h]
theorem text_any (w : World) (s : ByteArray) (q : UInt8) (t : List UInt8) (hs : s.data.toList = q :: t) (hmax : s.size ≤ 140737488355000) : Calls Tryz.prog 227 #[.string s] w fun e w' => e = .returned (txtV (textP q t)) ∧ Ext w w' := by
 obtain ⟨n, hn⟩ : ∃ n, s.size = n := ⟨_, rfl⟩
 obtain ⟨l, hL⟩ : ∃ l, s.data.toList = l := ⟨_, rfl⟩
 have hl : l.length = n := by rw [← hL]; exact hn
 have hlq : l = q :: t := by rw [← hL, hs]
 have hlt : l.drop 1 = t := by rw [hlq]; rfl
 obtain ⟨r, hr⟩ : ∃ r, textP q t = r := ⟨_, rfl⟩
 rw [hr]
 have hn0 : 0 < n := by rw [← hl, hlq]; simp
 have hs0 : 0 < s.size := by omega
 have hq0 : s[0]'hs0 = q := by
  rw [← str_get s 0 hs0, get_of hL, get_of hlq]; rfl
 have HR := Lib.hid hr
 have HL := Lib.hid hL
 have HLL := Lib.hid hl
 have HT := Lib.hid hlt
 have HN := Lib.hid hn
 clear hr hL hl hlq hlt hs
 go_enter Tryz.func227, Tryz.ntmps227
 go_wp2_with fail
 go_loopw [4, 5] (fun v4 v5 wr => ∃ (k : Nat) (v : Value) (acc : List UInt8), v5 = .int .i64 (k : Int) ∧ v = v4 ∧ 1 ≤ k ∧ k ≤ n ∧ acc.length ≤ k ∧ Hid (Ext w wr) ∧ Hid (OwnB wr w.heap.size v acc) ∧ Hid (r = (textP q (l.drop k)).map fun x => (acc ++ x.1, x.2 + (k - 1)))) (fun _ v5 _ => n - (intOf v5).toNat)
 case atStart => exact ⟨1, _, [], rfl, rfl, Nat.le_refl _, by omega, by simp, Lib.hid (Ext.refl _), Lib.hid (OwnB.nil _ _), Lib.hid (by rw [HT.out, HR.out]; cases r <;> simp)⟩
 case round =>
  obtain ⟨k, v, acc, rfl, rfl, hk1, hk, hacc, HE, HO, HK⟩ := hrel
  by_cases hkn : k < n
  ·have d1 : decide ((k : Int) < (s.size : Int)) = true := decide_eq_true (by omega)
   have d1n : decide (k < s.size) = true := decide_eq_true (by omega)
   have hks : k < s.size := by omega
   obtain ⟨c, hc⟩ : ∃ c, s[k]'hks = c := ⟨_, rfl⟩
   obtain ⟨m, hm⟩ : ∃ m, l.drop (k + 1) = m := ⟨_, rfl⟩
   have hd : l.drop k = c :: m := by rw [List.drop_eq_getElem_cons (by have := HLL.out; omega), ← hc, hm]; congr 1; rw [← str_get]; exact get_of HL.out.symm _
   have hdl : m.length = n - (k + 1) := by rw [← hm, List.length_drop, HLL.out]
   have HM := Lib.hid hm
   have HDL := Lib.hid hdl
   have hK := HK.out
   rw [hd] at hK
   clear hd hm hdl HK
   by_cases hcq : c = q
   ·have f0 : ((c.toNat : Int) == (q.toNat : Int)) = true := by rw [hcq]; simp
    have hres : Hid (r = some (acc, k)) := Lib.hid (by rw [hK, hcq, textP_end]; simp; omega)
    obtain ⟨qa, cp, rfl⟩ := HO.out.slice
    have cv := HO.out.conv
    have HCQ := Lib.hid hcq
    clear hK hcq
    go_wp2_with fail
    go_ret2
    exact ⟨by rw [hres.out]; exact ret2_of ⟨rfl, int_eq (by omega)⟩, HE.out⟩
   have f0 : ((c.toNat : Int) == (q.toNat : Int)) = false := by rw [beq_eq_false_iff_ne]; exact fun e => hcq (u8_eq (by omega))
   by_cases h10 : c.toNat = 10
   ·have f1 : ((c.toNat : Int) == 10) = true := by rw [h10]; rfl
    have hres : Hid (r = none) := Lib.hid (by rw [hK, text_nl hcq h10]; rfl)
    have HCQ := Lib.hid hcq
    have H10 := Lib.hid h10
    clear hK hcq h10
    go_wp2_with fail
    go_ret2
    exact ⟨by rw [hres.out]; rfl, HE.out⟩
   have f1 : ((c.toNat : Int) == 10) = false := by rw [beq_eq_false_iff_ne]; omega
   by_cases h92 : c.toNat = 92
   ·have f2 : ((c.toNat : Int) == 92) = true := by rw [h92]; rfl
    have dk : k + 1 ≤ s.size := by omega
    have hex : (s.extract (k + 1) n).data.toList = m := by rw [← hn, Lib.extract_to_end, HL.out, HM.out]
    have HX := Lib.hid hex
    have HCQ := Lib.hid hcq
    have H10 := Lib.hid h10
    have H92 := Lib.hid h92
    have HKK := Lib.hid hK
    clear hK hcq h10 h92 hex
    go_wp2_with fail
    refine (escaped_any _ _).mono ?_
    rintro e w1 ⟨rfl, he1⟩
    rw [HX.out]
    have HE1 := Lib.hid he1
    clear he1
    obtain ⟨y, hy⟩ : ∃ y, escP m = y := ⟨_, rfl⟩
    rw [hy]
    cases y with
    | none =>
     have hres : Hid (r = none) := Lib.hid (by rw [HKK.out, text_bad HCQ.out H10.out H92.out hy]; rfl)
     clear hy
     show _
     simp only [escV]
     go_wp2_with fail
     go_ret2
     exact ⟨by rw [hres.out]; rfl, HE.out.trans HE1.out⟩
    | some x =>
     obtain ⟨b, j⟩ := x
     have hel := esc_len hy
     have hj : ((j : Int) == 0) = false := by rw [beq_eq_false_iff_ne]; omega
     have hjk : k + 1 + j ≤ n := by have := HDL.out; omega
     have hj1 : 1 ≤ j := hel.1
     have HK2 : Hid (r = (textP q (l.drop (k + 1 + j))).map fun x => ((acc ++ [b]) ++ x.1, x.2 + (k + 1 + j - 1))) := Lib.hid (by
      rw [HKK.out, text_esc HCQ.out H10.out H92.out hy, map_acc acc _ b (k - 1) (j + 1) (k + 1 + j - 1) (by omega), ← List.drop_drop, HM.out])
     have hO1 := HO.out.ext HE1.out
     obtain ⟨v', w2, hrun, happ⟩ := app_lit w1 142 w.heap.size v acc [b] hO1 (by have h1 := HE.out.le; have h2 := HE1.out.le; omega) (by simp; omega)
     have HRUN := Lib.hid hrun
     have HA := Lib.hid happ
     have HE2 : Hid (Ext w w2) := Lib.hid (happ.ext ((HE.out.trans HE1.out).alloc _) (Nat.le_refl _))
     clear hrun happ hO1 hel hy
     simp only [escV]
     go_wp2_with (at_builtin; refine wpList_append_run rfl _ _ 142 rfl _ _ _ _ rfl rfl HRUN.out ?_)
     go_roundw
     case rel => exact ⟨k + 1 + j, v', acc ++ [b], by go_num, rfl, by omega, hjk, by simp; omega, HE2, Lib.hid HA.out.own, HK2⟩
     case measure => simp [intOf]; omega
   ·have f2 : ((c.toNat : Int) == 92) = false := by rw [beq_eq_false_iff_ne]; omega
    have HK2 : Hid (r = (textP q (l.drop (k + 1))).map fun x => ((acc ++ [c]) ++ x.1, x.2 + (k + 1 - 1))) := Lib.hid (by
     rw [hK, textP_plain m hcq h10 h92, map_acc acc _ c (k - 1) 1 (k + 1 - 1) (by omega), HM.out])
    obtain ⟨v', w2, hrun, happ⟩ := app_lit wr 142 w.heap.size v acc [c] HO.out (by have h1 := HE.out.le; omega) (by simp; omega)
    have HRUN := Lib.hid hrun
    have HA := Lib.hid happ
    have HE2 : Hid (Ext w w2) := Lib.hid (happ.ext (HE.out.alloc _) (Nat.le_refl _))
    have HCQ := Lib.hid hcq
    clear hrun happ hK hcq h10 h92
    go_wp2_with (at_builtin; refine wpList_append_run rfl _ _ 142 rfl _ _ _ _ rfl rfl HRUN.out ?_)
    go_roundw
    case rel => exact ⟨k + 1, v', acc ++ [c], by go_num, rfl, by omega, by omega, by simp; omega, HE2, Lib.hid HA.out.own, HK2⟩
    case measure => simp [intOf]; omega
  ·obtain rfl : k = n := by omega
   have d1 : decide ((k : Int) < (s.size : Int)) = false := decide_eq_false (by omega)
   have d1n : decide (k < s.size) = false := decide_eq_false (by omega)
   have hres : Hid (r = none) := Lib.hid (by rw [HK.out, List.drop_eq_nil_of_le (by have := HLL.out; omega), text_end0]; rfl)
   go_wp2_with fail
   go_ret2
   exact ⟨by rw [hres.out]; rfl, HE.out⟩
theorem iparse63 (t : ByteArray) (hne : t.size ≠ 0) (hmax : t.size ≤ 9223372036854775806) (w : World) :
  Calls Tryz.prog 267 #[.string t, .int .i64 10, .int .i64 63] w fun e w' => e = .returned (Lib.uintTupleM 285 9223372036854775807 (Lib.parseUintM 9223372036854775807 0 t.data.toList)) ∧ w' = Lib.bytesWorld w 5 t := by
 have hemp : t.toList.isEmpty = false := by
  rw [← decide_eq_emptyBytes]
  exact decide_eq_false (fun h => hne (by rw [h]; rfl))
 have hcv := Lib.run_convert_string_bytes (P := Tryz.prog) w 9 142 5 t (u := .string) Tryz.underlying9 Tryz.underlying142 Tryz.underlying5
 have hB : ∀ j, j < t.size → (Lib.bytesWorld w 5 t).cell? ⟨w.heap.size, j, none⟩ = some (.int .u8 (t.data.toList.getD j 0).toNat) := fun j hj => Lib.bytesWorld_cell w 5 t j hj
 obtain ⟨W1, hW1⟩ : ∃ W1, W1 = Lib.bytesWorld w 5 t := ⟨_, rfl⟩
 rw [← hW1] at hcv hB ⊢
 clear hW1
 obtain ⟨bs, hL⟩ : ∃ bs, bs = t.data.toList := ⟨_, rfl⟩
 have hLn : bs.length = t.size := by rw [hL, Lib.size_eq]
 rw [← hL] at hB ⊢
 clear hL
 have hmv : IntKind.u64.wrap (IntKind.u64.wrap 9223372036854775808 - 1) = 9223372036854775807 := by
  rw [IntKind.wrap_u64, IntKind.wrap_u64]
  decide
 go_enter Tryz.func267, Tryz.ntmps267
 go_wp2
 go_loop [12, 13, 101] (fun vu vn vi => ∃ (k acc : Nat) (a : Int), vu = .bool false ∧ vn = .int .u64 a ∧ vi = .int .i64 k ∧ k ≤ t.size ∧ Hid (a = (acc : Int) ∧ acc ≤ 9223372036854775807 ∧ Lib.parseUintM 9223372036854775807 0 bs = Lib.parseUintM 9223372036854775807 acc (bs.drop k)))
  (fun _ _ vi => t.size - (intOf vi).toNat)
 case atStart => exact ⟨0, 0, 0, rfl, rfl, rfl, by omega, rfl, by omega, rfl⟩
 case round =>
  obtain ⟨k, acc, a, rfl, rfl, rfl, hk, hh⟩ := hrel
  obtain ⟨ha, hacc, hdec⟩ := hh.out
  clear hh
  have a0 : 0 ≤ a := by omega
  have a1 : a ≤ 9223372036854775807 := by omega
  by_cases hkn : k < t.size
  ·have hc := hB k hkn
   have hdrop : bs.drop k = bs[k]'(by omega) :: bs.drop (k + 1) := List.drop_eq_getElem_cons (by omega)
   have hget : bs.getD k 0 = bs[k]'(by omega) := by simp [List.getD, List.getElem?_eq_getElem (show k < bs.length by omega)]
   rw [hdrop] at hdec
   rw [hget] at hc
   generalize bs[k]'(by omega) = c at hc hdec
   have hc256 : c.toNat < 256 := c.toNat_lt
   clear hB hdrop hget
   by_cases hdig : 48 ≤ c.toNat ∧ c.toNat ≤ 57
   ·obtain ⟨hd0, hd1⟩ := hdig
    by_cases hcut : 1844674407370955162 ≤ acc
    ·have hF : Lib.parseUintM 9223372036854775807 acc (c :: bs.drop (k + 1)) = .range := by simp [Lib.parseUintM, hd0, hd1, hcut]
     rw [hF] at hdec
     have icut : 1844674407370955162 ≤ a := by omega
     clear hcut hacc hF ha
     go_wp2
     go_ret2
     exact ⟨rfl, rfl⟩
    ·by_cases hov : 9223372036854775807 < acc * 10 + (c.toNat - 48)
     ·have hF : Lib.parseUintM 9223372036854775807 acc (c :: bs.drop (k + 1)) = .range := by simp [Lib.parseUintM, hd0, hd1, hcut, hov]
      rw [hF] at hdec
      have icut : a < 1844674407370955162 := by omega
      have iov : 9223372036854775807 < a * 10 + ((c.toNat : Int) - 48) := by omega
      have hlt : a * 10 + ((c.toNat : Int) - 48) < 18446744073709551629 := by omega
      by_cases hw : a * 10 + ((c.toNat : Int) - 48) < 18446744073709551616
      ·clear hcut hacc hF hov ha hlt
       go_wp2
       go_ret2
       exact ⟨rfl, rfl⟩
      ·have iov2 : 18446744073709551616 ≤ a * 10 + ((c.toNat : Int) - 48) := by omega
       have hwr : IntKind.u64.wrap (a * 10 + ((c.toNat : Int) - 48)) = a * 10 + ((c.toNat : Int) - 48) - 18446744073709551616 := by
        rw [IntKind.wrap_u64]
        omega
       clear hcut hacc hF hov ha hw
       go_wp2
       go_ret2
       exact ⟨rfl, rfl⟩
     ·have hF : Lib.parseUintM 9223372036854775807 acc (c :: bs.drop (k + 1)) = Lib.parseUintM 9223372036854775807 (acc * 10 + (c.toNat - 48)) (bs.drop (k + 1)) := by simp [Lib.parseUintM, hd0, hd1, hcut, hov]
      have HN : Hid (a * 10 + ((c.toNat : Int) - 48) = ((acc * 10 + (c.toNat - 48) : Nat) : Int) ∧ acc * 10 + (c.toNat - 48) ≤ 9223372036854775807 ∧ Lib.parseUintM 9223372036854775807 0 bs = Lib.parseUintM 9223372036854775807 (acc * 10 + (c.toNat - 48)) (bs.drop (k + 1))) := Lib.hid ⟨by omega, by omega, hdec.trans hF⟩
      have icut : a < 1844674407370955162 := by omega
      have iov : a * 10 + ((c.toNat : Int) - 48) ≤ 9223372036854775807 := by omega
      clear hcut hacc hF hov hdec ha
      go_wp2
      refine ⟨⟨k + 1, acc * 10 + (c.toNat - 48), a * 10 + ((c.toNat : Int) - 48), rfl, (by first | rfl | (congr 1; omega)), (by first | rfl | (congr 1; omega)), by omega, HN⟩, by simp [intOf]; omega⟩
   ·have hF : Lib.parseUintM 9223372036854775807 acc (c :: bs.drop (k + 1)) = Lib.parseUintM 9 0 [0] := by simp [Lib.parseUintM, hdig]
    rw [hF] at hdec
    clear hacc hF ha
    have hv0 := bits_lo_u8 .or (c.toNat : Int) 32
    have hv1 := bits_hi_u8 .or (c.toNat : Int) 32
    have hu0 := bits_lo_u8 .or 95 32
    have hu1 := bits_hi_u8 .or 95 32
    go_wp2_with (go_at_call 301; refine (Tryz.internal_strconv_lower _ _).mono ?_; rintro e w' ⟨rfl, rfl⟩)
    all_goals go_ret2
    all_goals first | exact ⟨rfl, rfl⟩ | exact ⟨by rw [hdec]; rfl, rfl⟩
  ·have hkk : k = t.size := by omega
   subst hkk
   have hF : Lib.parseUintM 9223372036854775807 acc (bs.drop t.size) = .ok acc := by rw [List.drop_eq_nil_of_le (by omega)]; rfl
   rw [hF] at hdec
   subst ha
   clear hacc hF a0 a1
   go_wp2
   go_ret2
   exact ⟨rfl, rfl⟩
end Go.Proofs.YtkbcnacjaakleaaGreatDoor
