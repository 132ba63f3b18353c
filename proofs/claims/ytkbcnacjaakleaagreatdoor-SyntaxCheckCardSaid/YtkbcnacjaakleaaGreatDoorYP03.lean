/- Small trees: both Checks say the same. The document's Count; how many bytes a tree has, as the statements count. -/
import Derived.Test.YtkbcnacjaakleaaGreatDoorYP01
import Derived.Test.YtkbcnacjaakleaaGreatDoorYP02
set_option maxRecDepth 100000
set_option maxHeartbeats 32000000
set_option linter.unusedVariables false
set_option linter.unusedSimpArgs false
namespace Go.Proofs.YtkbcnacjaakleaaGreatDoor

def rcheckN (x : Nd) : Bool := x.k == 0 && deepN 100 x && rmayN x
theorem rnode_names {k : Int} {name text : ByteArray} {n : Int} {names : List ByteArray} {kids : List Nd} (h : rnodeP k name text n names kids = true) : (∀ s ∈ names, s.size ≤ 64) ∧ (name.size ≤ 64) := by
 simp only [rnodeP, Bool.and_eq_true, Bool.or_eq_true, Bool.not_eq_true', decide_eq_true_eq, List.all_eq_true] at h
 obtain ⟨⟨⟨⟨⟨⟨⟨⟨⟨⟨⟨⟨h1, h2⟩, h3⟩, h4⟩, h5⟩, h6⟩, h7⟩, h8⟩, h9⟩, h10⟩, h11⟩, h12⟩, h13⟩ := h
 refine ⟨fun s hs => by have := nameP_short (h13 s hs); simpa using this, ?_⟩
 rcases h4 with h4 | h4
 ·rcases h6 with (h6 | h6) | h6
  ·rw [h6] at h4; cases h4
  ·rcases h5 with h5 | h5
   ·rw [h6] at h5; cases h5
   ·have : ∀ l : List UInt8, operB l = true → l.length ≤ 64 := by
     intro l hl
     unfold operB at hl
     rw [List.any_eq_true] at hl
     obtain ⟨m, hm, hc⟩ := hl
     have hc := List.contains_iff_mem.1 hc
     simp only [bondL, List.mem_cons, List.not_mem_nil, or_false] at hm
     rcases hm with rfl|rfl|rfl|rfl|rfl|rfl <;> simp only [List.mem_cons, List.not_mem_nil, or_false] at hc <;> (repeat' (rcases hc with rfl | hc)) <;> (first | decide | (subst hc; decide))
    have := this _ h5
    simpa using this
  ·have : name = eB := by
    obtain ⟨a⟩ := name
    have h2 : (a == (#[] : Array UInt8)) = true := h6
    rw [eq_of_beq h2]
   subst this
   decide
 ·have := nameP_short h4
  simpa using this
theorem sum_le {α : Type} (f : α → Nat) (B : Nat) : ∀ l : List α, (∀ x ∈ l, f x ≤ B) → (l.map f).sum ≤ l.length * B
 | [], _ => by simp
 | x :: l, h => by
  have h1 := h x (by simp)
  have h2 := sum_le f B l (fun y hy => h y (by simp [hy]))
  simp only [List.map_cons, List.sum_cons, List.length_cons, Nat.succ_mul]
  omega
mutual
theorem tx_le : ∀ x : Nd, rmayN x = true → SzN x → txN x ≤ cntN x * 9288674231460000
 | .mk k name text n names kids, h, hs => by
  simp only [rmayN, Bool.and_eq_true] at h
  simp only [SzN] at hs
  obtain ⟨h1, h2⟩ := rnode_names h.1
  have h3 := sum_le ByteArray.size 64 names h1
  have h4 := txL_le kids h.2 hs.2
  obtain ⟨⟨_, _, _, ht, hn, _, _⟩, _⟩ := hs
  simp only [txN, cntN]
  rw [Nat.add_mul]
  have : names.length * 64 ≤ 140737488355328 * 64 := Nat.mul_le_mul_right 64 hn
  omega
theorem txL_le : ∀ l : List Nd, rmayL l = true → SzL l → txL l ≤ cntL l * 9288674231460000
 | [], _, _ => by simp [txL]
 | x :: l, h, hs => by
  simp only [rmayL, Bool.and_eq_true] at h
  simp only [SzL] at hs
  have h1 := tx_le x h.1 hs.1
  have h2 := txL_le l h.2 hs.2
  simp only [txL, cntL]
  rw [Nat.add_mul]
  omega
end
mutual
theorem few_tx : ∀ x : Nd, fewN x = false → 1048577 ≤ txN x
 | .mk k name text n names kids, h => by
  simp only [fewN, Bool.and_eq_false_iff, decide_eq_false_iff_not] at h
  simp only [txN]
  rcases h with h | h
  ·omega
  ·have := fewL_tx kids h; omega
theorem fewL_tx : ∀ l : List Nd, fewL l = false → 1048577 ≤ txL l
 | [], h => by simp [fewL] at h
 | x :: l, h => by
  simp only [fewL, Bool.and_eq_false_iff] at h
  simp only [txL]
  rcases h with h | h
  ·have := few_tx x h; omega
  ·have := fewL_tx l h; omega
end
structure Small (x : Nd) (most : Nat) : Prop where
 cnt : cntN x ≤ most
 tx : ∃ m : Int, (txN x : Int) + m * 18446744073709551616 ≤ 3000 ∧ -9223372036854775808 ≤ (txN x : Int) + m * 18446744073709551616
theorem Small.check {x : Nd} (h : Small x 300) (hs : SzN x) : rcheckN x = checkN x := by
 unfold rcheckN checkN
 congr 1
 cases hf : fewN x with
 | true => exact rmay_eq x hf
 | false =>
  have h1 : mayN x = false := by
   cases hm : mayN x with
   | false => rfl
   | true => rw [may_few x hm] at hf; cases hf
  rw [h1]
  cases hm : rmayN x with
  | false => rfl
  | true =>
   have h2 := tx_le x hm hs
   have h3 := few_tx x hf
   obtain ⟨m, h4, h5⟩ := h.tx
   have h6 := h.cnt
   have h7 : cntN x * 9288674231460000 ≤ 300 * 9288674231460000 := Nat.mul_le_mul_right _ h6
   omega
end Go.Proofs.YtkbcnacjaakleaaGreatDoor
namespace Go.Proofs.YtkbcnacjaakleaaGreatDoor
open Go.RowKit

theorem cnt_step (l : List Nd) (m c k : Nat) (hk : k < l.length) (hc : c ≤ m) : rcntL (l.drop k) m c = rcntL (l.drop (k + 1)) m (c + rcntN l[k] (m - c)) := by
 rw [List.drop_eq_getElem_cons hk]
 simp only [rcntL, if_pos hc]
theorem cnt_stop (l : List Nd) (m c : Nat) (hc : ¬ c ≤ m) : rcntL l m c = c := by
 cases l with
 | nil => rfl
 | cons x l => simp only [rcntL, if_neg hc]
theorem rcntN_eq (x : Nd) (m : Nat) : rcntN x m = rcntL x.kids m 1 := by cases x; rfl
theorem rcount_step (w : World) (ok : Nat → Prop) (d : Nat) (x : Nd) (qn : Option Addr) (cn : Nat) (ql : Option Addr) (cl : Nat) (hs : SzN x) (hk : KidsAt ok w d (.slice ql x.kids.length cl) x.kids)
  (hsub : SubN w ok d x.kids fun y v W => ∀ m : Nat, m ≤ 1000 → Calls Tryz.prog 15 #[v, .int .i64 (m : Int)] W fun e w' => e = .returned (.int .i64 (rcntN y m : Int)) ∧ Ext W w') (m : Nat) (hm : m ≤ 1000) :
  Calls Tryz.prog 15 #[ndV x (.slice qn x.names.length cn) (.slice ql x.kids.length cl), .int .i64 (m : Int)] w fun e w' => e = .returned (.int .i64 (rcntN x m : Int)) ∧ Ext w w' := by
 have ih := Lib.hid hsub
 have HK0 := Lib.hid hk
 rw [rcntN_eq]
 have hkl := hs.out.kids
 obtain ⟨nl, hnl⟩ : ∃ n, x.names.length = n := ⟨_, rfl⟩
 obtain ⟨n, hn⟩ : ∃ n, x.kids.length = n := ⟨_, rfl⟩
 have HN := Lib.hid hn
 rw [hnl, hn]
 rw [hn] at hkl
 have HB := Lib.hid (fun W => nd_box (w := w) (W := W) (x := x) (nv := .slice qn nl cn) (lv := .slice ql n cl))
 obtain ⟨r, hr⟩ : ∃ r, rcntL x.kids m 1 = r := ⟨_, rfl⟩
 rw [hr]
 have HR := Lib.hid hr
 clear hsub hs hk hnl hn hr
 go_enter Tryz.func15, Tryz.ntmps15
 go_wp2_with fail
 have HE0 := Lib.hid ((Ext.refl w).alloc (ndO x (.slice qn nl cn) (.slice ql n cl)))
 generalize hW0 : w.alloc (ndO x (.slice qn nl cn) (.slice ql n cl)) = W0 at *
 go_loopw [5, 6] (fun cv i wr => ∃ k c : Nat, k ≤ n ∧ i = .int .i64 k ∧ cv = .int .i64 c ∧ c ≤ m + 1 ∧ Hid (rcntL (x.kids.drop k) m c = r) ∧ Hid (Ext W0 wr)) (fun _ i _ => n - (intOf i).toNat)
 case atStart => exact ⟨0, 1, Nat.zero_le _, rfl, by go_num, by omega, HR, Lib.hid (Ext.refl _)⟩
 case round =>
  obtain ⟨k, c, hk, rfl, rfl, hcm, HK, HE⟩ := hrel
  obtain ⟨_, _, _, _, _, b5⟩ := HB.out wr HE.out
  by_cases hlt : k < n
  ·by_cases hc : c ≤ m
   ·have kl : k < x.kids.length := by rw [HN.out]; exact hlt
    obtain ⟨b, o, qn', cn', ql', cl', rfl, c0, c1, c2, c3, c4, c5, hnd⟩ := ((by have := HK0.out; exact this : KidsAt ok w d (.slice ql x.kids.length cl) x.kids).ext (HE0.out.trans HE.out)).node kl
    have hcc := ih.out x.kids[k] (List.getElem_mem kl) wr _ (HE0.out.trans HE.out) hnd (m - c) (by omega)
    have hd2 := cnt_step x.kids m c k kl hc
    rw [HK.out] at hd2
    have hle := rcnt_le x.kids[k] (m - c)
    obtain ⟨y, hy⟩ : ∃ y, x.kids[k] = y := ⟨_, rfl⟩
    rw [hy] at c0 c1 c2 c3 c4 c5 hd2 hcc hle
    obtain ⟨nl2, hnl2⟩ : ∃ n, y.names.length = n := ⟨_, rfl⟩
    obtain ⟨kl2, hkl2⟩ : ∃ n, y.kids.length = n := ⟨_, rfl⟩
    obtain ⟨z, hz⟩ : ∃ z, rcntN y (m - c) = z := ⟨_, rfl⟩
    rw [hnl2] at c4 hcc
    rw [hkl2] at c5 hcc
    rw [hz] at hd2 hcc hle
    have k0 : (0 : Int) ≤ (k : Int) := by omega
    have k1 : (k : Int) < (n : Int) := by omega
    have k2 : decide ((k : Int) < (n : Int)) = true := decide_eq_true k1
    have k3 : decide (k < n) = true := decide_eq_true hlt
    have k4 : decide ((c : Int) ≤ (m : Int)) = true := decide_eq_true (by omega)
    have k5 : decide (c ≤ m) = true := decide_eq_true hc
    have hwr : IntKind.i64.wrap ((m : Int) - (c : Int)) = ((m - c : Nat) : Int) := by rw [IntWalk.i64_in _ (by omega)]; omega
    have hz1 : z ≤ m - c + 1 := hle.2.1
    have HD := Lib.hid hd2
    have HC := Lib.hid hcc
    clear hnd hy kl hd2 hcc hnl2 hkl2 hz hle
    go_wp2_with fail
    refine HC.out.mono ?_
    rintro e w1 ⟨rfl, he⟩
    have HE1 := Lib.hid (HE.out.trans he)
    clear he HC c0 c1 c2 c3 c4 c5 b5
    go_wp2_with fail
    go_roundw
    case rel => exact ⟨k + 1, c + z, hlt, by go_num, by go_num, by omega, Lib.hid HD.out.symm, HE1⟩
    case measure => simp [intOf]; omega
   ·have k2 : decide ((k : Int) < (n : Int)) = true := decide_eq_true (by omega)
    have k3 : decide (k < n) = true := decide_eq_true hlt
    have k4 : decide ((c : Int) ≤ (m : Int)) = false := decide_eq_false (by omega)
    have k5 : decide (c ≤ m) = false := decide_eq_false hc
    have hrr : r = c := by rw [← HK.out, cnt_stop _ _ _ hc]
    subst hrr
    go_wp2_with fail
    go_ret
    exact ⟨rfl, HE0.out.trans HE.out⟩
  ·obtain rfl : k = n := by omega
   have hrr : r = c := by rw [← HK.out, List.drop_eq_nil_of_le (by rw [HN.out]; exact Nat.le_refl _)]; rfl
   subst hrr
   have k2 : decide ((k : Int) < (k : Int)) = false := decide_eq_false (by omega)
   go_wp2_with fail
   go_ret
   exact ⟨rfl, HE0.out.trans HE.out⟩
theorem rcount_any : ∀ (d : Nat) (w : World) (ok : Nat → Prop) (v : Value) (x : Nd), SzN x → NodeAt ok w d v x → ∀ m : Nat, m ≤ 1000 → Calls Tryz.prog 15 #[v, .int .i64 (m : Int)] w fun e w' => e = .returned (.int .i64 (rcntN x m : Int)) ∧ Ext w w'
 | 0, w, ok, v, x, hs, h, m, hm => by
  obtain ⟨qn, cn, ql, cl, rfl, _, hk⟩ := h.parts
  exact rcount_step w ok 0 x qn cn ql cl hs hk (SubN.zero hk) m hm
 | d + 1, w, ok, v, x, hs, h, m, hm => by
  obtain ⟨qn, cn, ql, cl, rfl, _, hk⟩ := h.parts
  exact rcount_step w ok (d + 1) x qn cn ql cl hs hk (fun y hy W v' _ hn m hm => rcount_any d W ok v' y (hs.out.sub y hy) hn m hm) m hm
/-! ### texts -/
theorem wrap_add (a b : Int) : IntKind.i64.wrap (IntKind.i64.wrap a + b) = IntKind.i64.wrap (a + b) := by
 simp only [IntKind.wrap_i64]; omega
theorem wrap_add2 (a b : Int) : IntKind.i64.wrap (IntKind.i64.wrap a + IntKind.i64.wrap b) = IntKind.i64.wrap (a + b) := by
 simp only [IntKind.wrap_i64]; omega
theorem wrap_in (a : Int) : -9223372036854775808 ≤ IntKind.i64.wrap a ∧ IntKind.i64.wrap a ≤ 9223372036854775807 := by
 simp only [IntKind.wrap_i64]; omega
theorem tx_kids (l : List Nd) (k : Nat) (hk : k < l.length) : txL (l.drop k) = txN l[k] + txL (l.drop (k + 1)) := by
 rw [List.drop_eq_getElem_cons hk]; simp only [txL]
theorem tx_names (l : List ByteArray) (k : Nat) (hk : k < l.length) : ((l.drop k).map ByteArray.size).sum = l[k].size + ((l.drop (k + 1)).map ByteArray.size).sum := by
 rw [List.drop_eq_getElem_cons hk]; simp only [List.map_cons, List.sum_cons]
theorem txN_eq (x : Nd) : txN x = x.name.size + x.text.size + x.names.length + (x.names.map ByteArray.size).sum + txL x.kids := by cases x; rfl
theorem TxtsAt.elem {ok : Nat → Prop} {w : World} {q : Option Addr} {n c : Nat} {l : List ByteArray} (h : TxtsAt ok w (.slice q n c) l) {j : Nat} (hj : j < l.length) : ∃ b o, q = some ⟨b, o, none⟩ ∧ w.cell? ⟨b, o + j, none⟩ = some (.string l[j]) := by
 obtain ⟨q', c', e, hx⟩ := h
 injection e with e1 _ _
 obtain ⟨b, o, e2, _, _, hc⟩ := hx (by omega)
 exact ⟨b, o, e1.trans e2, hc j hj⟩
theorem texts_step (w : World) (ok : Nat → Prop) (d : Nat) (x : Nd) (qn : Option Addr) (cn : Nat) (ql : Option Addr) (cl : Nat) (hs : SzN x) (hnm : TxtsAt ok w (.slice qn x.names.length cn) x.names) (hk : KidsAt ok w d (.slice ql x.kids.length cl) x.kids)
  (hsub : SubN w ok d x.kids fun y v W => Calls Tryz.prog 38 #[v] W fun e w' => e = .returned (.int .i64 (IntKind.i64.wrap (txN y : Int))) ∧ Ext W w') :
  Calls Tryz.prog 38 #[ndV x (.slice qn x.names.length cn) (.slice ql x.kids.length cl)] w fun e w' => e = .returned (.int .i64 (IntKind.i64.wrap (txN x : Int))) ∧ Ext w w' := by
 have ih := Lib.hid hsub
 have HK0 := Lib.hid hk
 have HN0 := Lib.hid hnm
 have hso := hs.out
 have hkl := hso.kids
 have hnn := hso.names
 have hsn := hso.name
 have hst := hso.text
 obtain ⟨T, hT⟩ : ∃ T, txN x = T := ⟨_, rfl⟩
 rw [hT]
 have HT := Lib.hid ((txN_eq x).symm.trans hT)
 obtain ⟨nl, hnl⟩ : ∃ n, x.names.length = n := ⟨_, rfl⟩
 obtain ⟨n, hn⟩ : ∃ n, x.kids.length = n := ⟨_, rfl⟩
 have HN := Lib.hid hn
 have HNL := Lib.hid hnl
 rw [hnl, hn]
 rw [hn] at hkl
 rw [hnl] at hnn
 have HB := Lib.hid (fun W => nd_box (w := w) (W := W) (x := x) (nv := .slice qn nl cn) (lv := .slice ql n cl))
 have h0 : IntKind.i64.wrap ((x.name.size : Int) + (x.text.size : Int)) = (x.name.size : Int) + (x.text.size : Int) := IntWalk.i64_in _ (by omega)
 have h1 : IntKind.i64.wrap ((x.name.size : Int) + (x.text.size : Int) + (nl : Int)) = (x.name.size : Int) + (x.text.size : Int) + (nl : Int) := IntWalk.i64_in _ (by omega)
 have HS1 : Hid (IntKind.i64.wrap (((x.name.size + x.text.size + nl : Nat)) : Int) = (x.name.size : Int) + (x.text.size : Int) + (nl : Int)) := Lib.hid (by rw [IntWalk.i64_in _ (by omega)]; omega)
 clear hsub hs hk hnl hn hT hnm hso
 go_enter Tryz.func38, Tryz.ntmps38
 go_wp2_with fail
 have HE0 := Lib.hid ((Ext.refl w).alloc (ndO x (.slice qn nl cn) (.slice ql n cl)))
 generalize hW0 : w.alloc (ndO x (.slice qn nl cn) (.slice ql n cl)) = W0 at *
 go_loopw [3, 4] (fun cv i wr => ∃ (k C : Nat) (c : Int), k ≤ nl ∧ i = .int .i64 k ∧ cv = .int .i64 c ∧ Hid (c = IntKind.i64.wrap (C : Int)) ∧ Hid (C + ((x.names.drop k).map ByteArray.size).sum + txL x.kids = T) ∧ Hid (Ext W0 wr)) (fun _ i _ => nl - (intOf i).toNat)
 case atStart => exact ⟨0, x.name.size + x.text.size + nl, _, Nat.zero_le _, rfl, rfl, Lib.hid HS1.out.symm, Lib.hid (by have := HT.out; rw [HNL.out] at this; exact this), Lib.hid (Ext.refl _)⟩
 case round =>
  obtain ⟨k, C, c, hk, rfl, rfl, HC, HK, HE⟩ := hrel
  obtain ⟨_, _, _, _, b4, b5⟩ := HB.out wr HE.out
  by_cases hlt : k < nl
  ·have kl : k < x.names.length := by rw [HNL.out]; exact hlt
   obtain ⟨b, o, rfl, c0⟩ := ((by have := HN0.out; exact this : TxtsAt ok w (.slice qn x.names.length cn) x.names).ext (HE0.out.trans HE.out)).elem kl
   have hd2 := tx_names x.names k kl
   obtain ⟨y, hy⟩ : ∃ y, x.names[k] = y := ⟨_, rfl⟩
   rw [hy] at c0 hd2
   have k0 : (0 : Int) ≤ (k : Int) := by omega
   have k1 : (k : Int) < (nl : Int) := by omega
   have k2 : decide ((k : Int) < (nl : Int)) = true := decide_eq_true k1
   have k3 : decide (k < nl) = true := decide_eq_true hlt
   have HD := Lib.hid hd2
   clear hy kl hd2
   go_wp2_with fail
   go_roundw
   case rel => exact ⟨k + 1, C + y.size, _, hlt, by go_num, rfl, Lib.hid (by rw [HC.out, ← IntWalk.i64_left]; exact wrap_add (C : Int) (y.size : Int)), Lib.hid (by have h1 := HD.out; have h2 := HK.out; omega), HE⟩
   case measure => simp [intOf]; omega
  ·obtain rfl : k = nl := by omega
   have k2 : decide ((k : Int) < (k : Int)) = false := decide_eq_false (by omega)
   have HK2 : Hid (C + txL x.kids = T) := Lib.hid (by have := HK.out; rw [List.drop_eq_nil_of_le (by rw [HNL.out]; exact Nat.le_refl _)] at this; simpa using this)
   go_wp2_with fail
   clear b4 b5 k2
   go_loopw [3, 5] (fun cv i wr2 => ∃ (j C : Nat) (c : Int), j ≤ n ∧ i = .int .i64 j ∧ cv = .int .i64 c ∧ Hid (c = IntKind.i64.wrap (C : Int)) ∧ Hid (C + txL (x.kids.drop j) = T) ∧ Hid (Ext W0 wr2)) (fun _ i _ => n - (intOf i).toNat)
   case atStart => exact ⟨0, C, _, Nat.zero_le _, rfl, rfl, HC, HK2, HE⟩
   case round =>
    obtain ⟨j, D, c', hj, rfl, rfl, HC, HK, HE⟩ := hrel
    obtain ⟨_, _, _, _, b4, b5⟩ := HB.out _ HE.out
    by_cases hlt : j < n
    ·have kl : j < x.kids.length := by rw [HN.out]; exact hlt
     obtain ⟨b, o, qn', cn', ql', cl', rfl, c0, c1, c2, c3, c4, c5, hnd⟩ := ((by have := HK0.out; exact this : KidsAt ok w d (.slice ql x.kids.length cl) x.kids).ext (HE0.out.trans HE.out)).node kl
     have hcc := ih.out x.kids[j] (List.getElem_mem kl) _ _ (HE0.out.trans HE.out) hnd
     have hd2 := tx_kids x.kids j kl
     obtain ⟨y, hy⟩ : ∃ y, x.kids[j] = y := ⟨_, rfl⟩
     rw [hy] at c0 c1 c2 c3 c4 c5 hd2 hcc
     obtain ⟨nl2, hnl2⟩ : ∃ n, y.names.length = n := ⟨_, rfl⟩
     obtain ⟨kl2, hkl2⟩ : ∃ n, y.kids.length = n := ⟨_, rfl⟩
     obtain ⟨z, hz⟩ : ∃ z, IntKind.i64.wrap (txN y : Int) = z := ⟨_, rfl⟩
     rw [hnl2] at c4 hcc
     rw [hkl2] at c5 hcc
     rw [hz] at hcc
     have k0 : (0 : Int) ≤ (j : Int) := by omega
     have k1 : (j : Int) < (n : Int) := by omega
     have k2 : decide ((j : Int) < (n : Int)) = true := decide_eq_true k1
     have k3 : decide (j < n) = true := decide_eq_true hlt
     have HD := Lib.hid hd2
     have HCC := Lib.hid hcc
     have HZ := Lib.hid hz
     clear hnd hy kl hd2 hcc hnl2 hkl2 hz
     go_wp2_with fail
     refine HCC.out.mono ?_
     rintro e w1 ⟨rfl, he⟩
     have HE1 := Lib.hid (HE.out.trans he)
     clear he HCC c0 c1 c2 c3 c4 c5 b4 b5
     go_wp2_with fail
     go_roundw
     case rel => exact ⟨j + 1, D + txN y, _, hlt, by go_num, rfl, Lib.hid (by rw [HC.out, ← HZ.out, ← IntWalk.i64_left]; exact wrap_add2 (D : Int) (txN y : Int)), Lib.hid (by have h1 := HD.out; have h2 := HK.out; omega), HE1⟩
     case measure => simp [intOf]; omega
    ·obtain rfl : j = n := by omega
     have hrr : c' = IntKind.i64.wrap (T : Int) := by
      have := HK.out
      rw [List.drop_eq_nil_of_le (by rw [HN.out]; exact Nat.le_refl _)] at this
      simp only [txL, Nat.add_zero] at this
      rw [← this]; exact HC.out
     have HRR := Lib.hid hrr
     clear hrr
     have k2 : decide ((j : Int) < (j : Int)) = false := decide_eq_false (by omega)
     go_wp2_with fail
     go_ret
     exact ⟨by rw [← HRR.out]; rfl, HE0.out.trans HE.out⟩
theorem texts_any : ∀ (d : Nat) (w : World) (ok : Nat → Prop) (v : Value) (x : Nd), SzN x → NodeAt ok w d v x → Calls Tryz.prog 38 #[v] w fun e w' => e = .returned (.int .i64 (IntKind.i64.wrap (txN x : Int))) ∧ Ext w w'
 | 0, w, ok, v, x, hs, h => by
  obtain ⟨qn, cn, ql, cl, rfl, hn, hk⟩ := h.parts
  exact texts_step w ok 0 x qn cn ql cl hs hn hk (SubN.zero hk)
 | d + 1, w, ok, v, x, hs, h => by
  obtain ⟨qn, cn, ql, cl, rfl, hn, hk⟩ := h.parts
  exact texts_step w ok (d + 1) x qn cn ql cl hs hn hk (fun y hy W v' _ hn => texts_any d W ok v' y (hs.out.sub y hy) hn)
/-! ### large -/
theorem large_any (d : Nat) (w : World) (ok : Nat → Prop) (v : Value) (x : Nd) (hs : SzN x) (h : NodeAt ok w d v x) :
  Calls Tryz.prog 14 #[v] w fun e w' => ∃ b : Bool, e = .returned (.bool b) ∧ Ext w w' ∧ (b = false → Small x 300) := by
 have hc := fun W (e : Ext w W) => rcount_any d W ok v x hs (h.ext e) 300 (by omega)
 have ht := fun W (e : Ext w W) => texts_any d W ok v x hs (h.ext e)
 have HC := Lib.hid hc
 have HT := Lib.hid ht
 have hb := (rcnt_le x 300)
 obtain ⟨qn, cn, ql, cl, rfl, _, _⟩ := h.parts
 have HE := Lib.hid ((Ext.refl w).alloc (ndO x (.slice qn x.names.length cn) (.slice ql x.kids.length cl)))
 have HSM : Hid (rcntN x 300 ≤ 300 → IntKind.i64.wrap (txN x : Int) ≤ 3000 → Small x 300) := Lib.hid (fun h1 h2 => ⟨by have := hb.2.2.1 h1; omega, by
  have h3 := wrap_in (txN x : Int)
  rw [IntKind.wrap_i64] at h2 h3
  exact ⟨-(((txN x : Int) + 9223372036854775808) / 18446744073709551616), by omega, by omega⟩⟩)
 have HBD := Lib.hid hb
 clear hc ht h hb hs
 have hbx := fun W => nd_box (w := w) (W := W) (x := x) (nv := .slice qn x.names.length cn) (lv := .slice ql x.kids.length cl)
 have HBX := Lib.hid hbx
 clear hbx
 generalize x.names.length = nl at *
 generalize x.kids.length = kl at *
 generalize IntKind.i64.wrap (txN x : Int) = T at *
 obtain ⟨C, hC⟩ : ∃ C, rcntN x 300 = C := ⟨_, rfl⟩
 rw [hC] at HC HSM HBD
 clear hC
 go_enter Tryz.func14, Tryz.ntmps14
 go_wp2_with fail
 refine (HC.out _ HE.out).mono ?_
 rintro e w1 ⟨rfl, e1⟩
 have E1 := Lib.hid (HE.out.trans e1)
 obtain ⟨c0, c1, c2, c3, c4, c5⟩ := HBX.out w1 e1
 clear e1
 by_cases hc : 300 < C
 ·have k4 : decide ((300 : Int) < (C : Int)) = true := decide_eq_true (by omega)
  have k5 : decide (300 < C) = true := decide_eq_true hc
  go_wp2_with fail
  go_ret
  exact ⟨true, rfl, E1.out, fun h => by cases h⟩
 ·have k4 : decide ((300 : Int) < (C : Int)) = false := decide_eq_false (by omega)
  have k5 : decide (300 < C) = false := decide_eq_false hc
  go_wp2_with fail
  refine (HT.out w1 E1.out).mono ?_
  rintro e w2 ⟨rfl, e2⟩
  have E2 := Lib.hid (E1.out.trans e2)
  clear e2
  go_wp2_with fail
  go_ret
  exact ⟨_, rfl, E2.out, fun h => HSM.out (by omega) (by have := of_decide_eq_false h; omega)⟩
end Go.Proofs.YtkbcnacjaakleaaGreatDoor
