/- Trees as words, in plain words. tabor.tree.Same. The document's Same. -/
import Derived.Test.YtkbcnacjaakleaaGreatDoorYP01
import Derived.Test.YtkbcnacjaakleaaGreatDoorYP02
import Derived.Test.YtkbcnacjaakleaaGreatDoorYP03
import Derived.Test.YtkbcnacjaakleaaGreatDoorYShelf
set_option maxRecDepth 100000
set_option maxHeartbeats 32000000
set_option linter.unusedVariables false
set_option linter.unusedSimpArgs false
namespace Go.Proofs.YtkbcnacjaakleaaGreatDoor

def kwW (t : List UInt8) : Wd := ⟨1, t, 0, 0⟩
def sgW (t : List UInt8) : Wd := ⟨4, t, 0, 0⟩
def nmW (s : ByteArray) : Wd := ⟨0, s.data.toList, 0, 0⟩
def commaT : List (List Wd) → List Wd
 | [] => []
 | x :: l => x ++ l.flatMap fun y => sgW [44] :: y
def innerT (b : Bool) (l : List Wd) : List Wd := if b then sgW [40] :: (l ++ [sgW [41]]) else l
def madeK (k : Int) : Bool := k == 21 || k == 22 || k == 23 || k == 24
def opW (s : ByteArray) : Wd := if s.data.toList == tAnd || s.data.toList == tOr then kwW s.data.toList else sgW s.data.toList
def restT : List (List Wd) → List Wd
 | [] => [kwW tEnd]
 | [e] => kwW tElse :: (e ++ [kwW tEnd])
 | c :: b :: l => kwW tElseif :: (c ++ kwW tThen :: (b ++ restT l))
def ifT : List (List Wd) → List Wd
 | c :: b :: l => kwW tIf :: (c ++ kwW tThen :: (b ++ restT l))
 | _ => []
def namesT (l : List ByteArray) : List Wd := commaT (l.map fun s => [nmW s])
def aheadW (k : Int) : Wd := if k = 22 then kwW tNot else if k = 23 then sgW [45] else sgW [35]
def tellK (k : Int) (name text : ByteArray) (n : Int) (names : List ByteArray) (ks : List Int) (tl : List (List Wd)) : List Wd :=
 if k = 0 then tl.flatMap (· ++ [sgW [59]])
 else if k = 1 then kwW tLocal :: (namesT names ++ (if tl.isEmpty then [] else sgW [61] :: commaT tl))
 else if k = 2 then tl.getD 0 [] ++ sgW [61] :: tl.getD 1 []
 else if k = 3 then kwW tDo :: (tl.getD 0 [] ++ [kwW tEnd])
 else if k = 4 then ifT tl
 else if k = 5 then kwW tWhile :: (tl.getD 0 [] ++ kwW tDo :: (tl.getD 1 [] ++ [kwW tEnd]))
 else if k = 6 then kwW tFor :: nmW (names.headD eB) :: sgW [61] :: (commaT tl.dropLast ++ kwW tDo :: (tl.getLastD [] ++ [kwW tEnd]))
 else if k = 7 then kwW tReturn :: commaT tl
 else if k = 8 then [kwW tBreak]
 else if k = 9 then kwW tLocal :: kwW tFunction :: nmW name :: sgW [40] :: (namesT names ++ sgW [41] :: (tl.getD 0 [] ++ [kwW tEnd]))
 else if k = 10 then [kwW tNil]
 else if k = 11 then [kwW tTrue]
 else if k = 12 then [kwW tFalse]
 else if k = 13 then [⟨2, [], n, 0⟩]
 else if k = 14 then [⟨3, text.data.toList, 0, 0⟩]
 else if k = 15 then [nmW name]
 else if k = 16 then innerT (!(ks.headD 0 == 15 || ks.headD 0 == 17 || ks.headD 0 == 16)) (tl.getD 0 []) ++ sgW [91] :: (tl.getD 1 [] ++ [sgW [93]])
 else if k = 17 then nmW name :: sgW [40] :: (commaT tl ++ [sgW [41]])
 else if k = 18 then sgW [123] :: (commaT tl ++ [sgW [125]])
 else if k = 19 then tl.getD 0 []
 else if k = 20 then sgW [91] :: (tl.getD 0 [] ++ sgW [93] :: sgW [61] :: tl.getD 1 [])
 else if k = 21 then innerT (madeK (ks.headD 0)) (tl.getD 0 []) ++ opW name :: innerT (madeK (ks.getD 1 0)) (tl.getD 1 [])
 else aheadW k :: innerT (madeK (ks.headD 0)) (tl.getD 0 [])
mutual
def tellN : Nd → List Wd
 | .mk k name text n names kids => tellK k name text n names (kids.map Nd.k) (tellL kids)
def tellL : List Nd → List (List Wd)
 | [] => []
 | x :: l => tellN x :: tellL l
end
theorem tellL_map : ∀ l : List Nd, tellL l = l.map tellN
 | [] => by simp [tellL]
 | x :: l => by simp [tellL, tellL_map l]
theorem mayL_mem : ∀ {l : List Nd}, mayL l = true → ∀ x ∈ l, mayN x = true
 | [], _, x, hx => by simp at hx
 | y :: l, h, x, hx => by
  simp only [mayL, Bool.and_eq_true] at h
  rcases List.mem_cons.1 hx with rfl | hx
  ·exact h.1
  ·exact mayL_mem h.2 x hx
theorem deepL_mem : ∀ {d : Nat} {l : List Nd}, deepL d l = true → ∀ x ∈ l, deepN d x = true
 | _, [], _, x, hx => by simp at hx
 | d, y :: l, h, x, hx => by
  simp only [deepL, Bool.and_eq_true] at h
  rcases List.mem_cons.1 hx with rfl | hx
  ·exact h.1
  ·exact deepL_mem h.2 x hx
theorem deepN_kids {d : Nat} {x : Nd} (h : deepN d x = true) : 1 ≤ d ∧ ∀ y ∈ x.kids, deepN (d - 1) y = true := by
 obtain ⟨k, a, b, n, ns, kids⟩ := x
 cases d with
 | zero => simp [deepN] at h
 | succ d =>
  simp only [deepN] at h
  exact ⟨by omega, fun y hy => by simpa using deepL_mem h y hy⟩
theorem ba_eq {a b : ByteArray} (h : (a == b) = true) : a = b := by
 obtain ⟨a⟩ := a
 obtain ⟨b⟩ := b
 have h2 : (a == b) = true := h
 rw [eq_of_beq h2]
structure NodeF (s : Shp) (k : Int) (nm tx : ByteArray) (nn : Int) (nl : List ByteArray) (kl : List Nd) : Prop where
 kids : s.kids kl = true
 least : s.least ≤ nl.length
 most : nl.length ≤ s.most
 all : nl.all (fun x => nameP x.data.toList) = true
 name : s.name = true → nameP nm.data.toList = true
 oper : s.oper = true → operB nm.data.toList = true
 none : s.name = false → s.oper = false → nm = eB
 text : s.text = false → tx = eB
 num : s.num = false → nn = 0
 pos : 0 ≤ nn
 few : k = 1 → kl.length ≤ nl.length
theorem nodeP_of {k : Int} {name text : ByteArray} {n : Int} {names : List ByteArray} {kids : List Nd} (h : nodeP k name text n names kids = true) (hk : k ≠ 0) : ∃ s, shapeP k = some s ∧ NodeF s k name text n names kids := by
 unfold nodeP at h
 rw [if_neg hk] at h
 cases hs : shapeP k with
 | none => rw [hs] at h; simp at h
 | some s =>
  rw [hs] at h
  simp only [Bool.and_eq_true, decide_eq_true_eq, Bool.or_eq_true, Bool.not_eq_true', beq_eq_false_iff_ne, ne_eq] at h
  obtain ⟨⟨⟨⟨⟨⟨⟨⟨⟨⟨h1, h2⟩, h3⟩, h4⟩, h5⟩, h6⟩, h7⟩, h8⟩, h9⟩, h10⟩, h11⟩ := h
  refine ⟨s, rfl, ⟨h1, h2, h3, h4, fun e => ?_, fun e => ?_, fun e1 e2 => ?_, fun e => ?_, fun e => ?_, h10, fun e => ?_⟩⟩
  ·rcases h5 with h5 | h5
   ·rw [e] at h5; simp at h5
   ·exact h5
  ·rcases h6 with h6 | h6
   ·rw [e] at h6; simp at h6
   ·exact h6
  ·rcases h7 with (h7 | h7) | h7
   ·rw [e1] at h7; simp at h7
   ·rw [e2] at h7; simp at h7
   ·exact ba_eq h7
  ·rcases h8 with h8 | h8
   ·rw [e] at h8; simp at h8
   ·exact ba_eq h8
  ·rcases h9 with h9 | h9
   ·rw [e] at h9; simp at h9
   ·simpa using h9
  ·rcases h11 with h11 | h11
   ·exact absurd e h11
   ·exact h11
theorem nodeP_zero {name text : ByteArray} {n : Int} {names : List ByteArray} {kids : List Nd} (h : nodeP 0 name text n names kids = true) : name = eB ∧ text = eB ∧ n = 0 ∧ names = [] ∧ blockFrom kids = true := by
 unfold nodeP at h
 rw [if_pos rfl] at h
 simp only [Bool.and_eq_true, beq_iff_eq] at h
 obtain ⟨⟨⟨⟨h1, h2⟩, h3⟩, h4⟩, h5⟩ := h
 exact ⟨ba_eq h1, ba_eq h2, h3, by simpa using h4, h5⟩
theorem countP_0 {l : List Nd} (h : countP 0 l = true) : l = [] := by
 simp [countP] at h; exact h.1
theorem countP_1 {l : List Nd} (h : countP 1 l = true) : ∃ a, l = [a] ∧ exprK a.k = true := by
 match l, h with
 | [a], h => simp [countP, exprsP] at h; exact ⟨a, rfl, h⟩
 | [], h => simp [countP] at h
 | _ :: _ :: _, h => simp [countP] at h
theorem countP_2 {l : List Nd} (h : countP 2 l = true) : ∃ a b, l = [a, b] ∧ exprK a.k = true ∧ exprK b.k = true := by
 match l, h with
 | [a, b], h => simp [countP, exprsP] at h; exact ⟨a, b, rfl, h.1, h.2⟩
 | [], h => simp [countP] at h
 | [_], h => simp [countP] at h
 | _ :: _ :: _ :: _, h => simp [countP] at h
theorem blockAt_0 {l : List Nd} (h : blockAtP l 0 = true) : ∃ b, l = [b] ∧ b.k = 0 := by
 match l, h with
 | [b], h => simp [blockAtP, exprsP] at h; exact ⟨b, rfl, h⟩
 | [], h => simp [blockAtP] at h
 | _ :: _ :: _, h => simp [blockAtP] at h
theorem blockAt_1 {l : List Nd} (h : blockAtP l 1 = true) : ∃ a b, l = [a, b] ∧ exprK a.k = true ∧ b.k = 0 := by
 match l, h with
 | [a, b], h => simp [blockAtP, exprsP] at h; exact ⟨a, b, rfl, h.2, h.1⟩
 | [], h => simp [blockAtP] at h
 | [_], h => simp [blockAtP] at h
 | _ :: _ :: _ :: _, h => simp [blockAtP] at h
theorem blockAt_2 {l : List Nd} (h : blockAtP l 2 = true) : ∃ a b c, l = [a, b, c] ∧ exprK a.k = true ∧ exprK b.k = true ∧ c.k = 0 := by
 match l, h with
 | [a, b, c], h => simp [blockAtP, exprsP] at h; exact ⟨a, b, c, rfl, h.2.1, h.2.2, h.1⟩
 | [], h => simp [blockAtP] at h
 | [_], h => simp [blockAtP] at h
 | [_, _], h => simp [blockAtP] at h
 | _ :: _ :: _ :: _ :: _, h => simp [blockAtP] at h
theorem blockAt_3 {l : List Nd} (h : blockAtP l 3 = true) : ∃ a b e c, l = [a, b, e, c] ∧ exprK a.k = true ∧ exprK b.k = true ∧ exprK e.k = true ∧ c.k = 0 := by
 match l, h with
 | [a, b, e, c], h => simp [blockAtP, exprsP] at h; exact ⟨a, b, e, c, rfl, h.2.1, h.2.2.1, h.2.2.2, h.1⟩
 | [], h => simp [blockAtP] at h
 | [_], h => simp [blockAtP] at h
 | [_, _], h => simp [blockAtP] at h
 | [_, _, _], h => simp [blockAtP] at h
 | _ :: _ :: _ :: _ :: _ :: _, h => simp [blockAtP] at h
theorem assign_2 {l : List Nd} (h : assignP l = true) : ∃ a b, l = [a, b] ∧ exprK b.k = true ∧ (a.k = 15 ∨ a.k = 16) := by
 match l, h with
 | [a, b], h => simp [assignP, exprsP] at h; exact ⟨a, b, rfl, h.1.2, h.2⟩
 | [], h => simp [assignP] at h
 | [_], h => simp [assignP] at h
 | _ :: _ :: _ :: _, h => simp [assignP] at h
def BrOk : List Nd → Prop
 | [] => True
 | [e] => e.k = 0
 | c :: b :: l => exprK c.k = true ∧ b.k = 0 ∧ BrOk l
theorem branch_ok (m : Nat) : ∀ (l : List Nd) (i : Nat), i % 2 = 0 → i + l.length = m → branchFrom m i l = true → BrOk l
 | [], _, _, _, _ => trivial
 | [e], i, h0, hm, h => by
  have hc : condP i m = false := by
   unfold condP
   simp only [List.length_singleton] at hm
   rw [Bool.and_eq_false_iff]; right
   rw [Bool.or_eq_false_iff]
   exact ⟨decide_eq_false (by omega), by rw [beq_eq_false_iff_ne]; omega⟩
  simp only [branchFrom, hc, Bool.and_true, Bool.false_or, Bool.and_eq_true, beq_iff_eq] at h
  exact h.2
 | c :: b :: l, i, h0, hm, h => by
  simp only [branchFrom, List.length_cons, Bool.and_eq_true, Bool.or_eq_true, beq_iff_eq] at h hm
  obtain ⟨⟨h1, _⟩, ⟨h2, h3⟩, h4⟩ := h
  have hc : condP i m = true := by
   unfold condP
   rw [Bool.and_eq_true, Bool.or_eq_true]
   exact ⟨by simpa using h0, .inl (decide_eq_true (by omega))⟩
  have hb : condP (i + 1) m = false := by
   unfold condP
   rw [Bool.and_eq_false_iff]; left
   rw [beq_eq_false_iff_ne]; omega
  rw [hc] at h1
  rw [hb] at h3
  refine ⟨h1.symm, ?_, branch_ok m l (i + 1 + 1) (by omega) (by omega) h4⟩
  simpa using h3
theorem branches_ok {l : List Nd} (h : branchesP l = true) : BrOk l ∧ ∃ c b r, l = c :: b :: r := by
 simp only [branchesP, Bool.and_eq_true, decide_eq_true_eq] at h
 refine ⟨branch_ok l.length l 0 rfl (by omega) h.2, ?_⟩
 match l, h with
 | [], h => simp at h
 | [_], h => simp at h
 | c :: b :: r, _ => exact ⟨c, b, r, rfl⟩
theorem Nd.ind {P : Nd → Prop} (h : ∀ x : Nd, (∀ y ∈ x.kids, P y) → P x) : ∀ x, P x := by
 have : ∀ (m : Nat) (x : Nd), SizeOf.sizeOf x ≤ m → P x := by
  intro m
  induction m with
  | zero => intro x hx; obtain ⟨k, a, b, n, ns, kids⟩ := x; simp at hx
  | succ m ih =>
   intro x hx
   refine h x fun y hy => ih y ?_
   obtain ⟨k, a, b, n, ns, kids⟩ := x
   have hy : y ∈ kids := hy
   have := List.sizeOf_lt_of_mem hy
   simp at hx
   omega
 exact fun x => this _ x (Nat.le_refl _)
theorem Nd.k_mk (k : Int) (a b : ByteArray) (n : Int) (l : List ByteArray) (m : List Nd) : Nd.k (.mk k a b n l m) = k := rfl
open Go.RowKit

theorem ba_beq (a b : ByteArray) : (a == b) = (a.toList == b.toList) := by
 obtain ⟨a⟩ := a
 obtain ⟨b⟩ := b
 have h1 : ((⟨a⟩ : ByteArray) == ⟨b⟩) = (a == b) := rfl
 rw [h1, Lib.toList_data, Lib.toList_data, Bool.eq_iff_iff, beq_iff_eq, beq_iff_eq]
 exact ⟨fun h => by rw [h], fun h => Array.toList_inj.1 h⟩
theorem ba_iff (a b : ByteArray) : (a == b) = true ↔ a = b := ⟨ba_eq, fun h => by subst h; rw [ba_beq]; exact beq_self_eq_true _⟩
theorem names_beq : ∀ l m : List ByteArray, (l == m) = decide (l = m)
 | [], [] => rfl
 | [], y :: m => rfl
 | x :: l, [] => rfl
 | x :: l, y :: m => by
  have h1 : ((x :: l) == (y :: m)) = ((x == y) && (l == m)) := rfl
  rw [h1, names_beq l m, Bool.eq_iff_iff, Bool.and_eq_true, ba_iff, decide_eq_true_eq, decide_eq_true_eq, List.cons.injEq]
theorem eq_names (w : World) (ok ok' : Nat → Prop) (q q' : Option Addr) (n c n' c' : Nat) (l m : List ByteArray) (h : TxtsAt ok w (.slice q n c) l) (h' : TxtsAt ok' w (.slice q' n' c') m) (hl : l.length ≤ 140737488355328) (hm : m.length ≤ 140737488355328) :
  Calls Tryz.prog 45 #[.slice q n c, .slice q' n' c'] w fun e w' => e = .returned (.bool (l == m)) ∧ Ext w w' := by
 obtain ⟨q1, c1, e1, hx⟩ := h
 obtain ⟨q2, c2, e2, hy⟩ := h'
 injection e1 with e3 e4 e5
 injection e2 with e6 e7 e8
 subst e3 e4 e5 e6 e7 e8
 rw [names_beq]
 by_cases hlen : l.length = m.length
 ·rcases Nat.eq_zero_or_pos l.length with h0 | h0
  ·have hl0 : l = [] := List.eq_nil_of_length_eq_zero h0
   have hm0 : m = [] := List.eq_nil_of_length_eq_zero (by omega)
   subst hl0 hm0
   refine (Tryz.slices_Equal_string_empty q q' c 0 c' w (by omega)).mono ?_
   rintro e w' ⟨rfl, rfl⟩
   exact ⟨by simp, Ext.refl _⟩
  ·obtain ⟨b1, o1, rfl, _, _, hc1⟩ := hx h0
   obtain ⟨b2, o2, rfl, _, _, hc2⟩ := hy (by omega)
   refine (Tryz.slices_Equal_string b1 o1 l.length c b2 o2 m.length c' l m w (Nat.le_refl _) (Nat.le_refl _) (by omega) (by omega) (fun j hj => ?_) (fun j hj => ?_)).mono ?_
   ·rw [hc1 j hj]; simp [List.getD, List.getElem?_eq_getElem hj]
   ·rw [hc2 j hj]; simp [List.getD, List.getElem?_eq_getElem hj]
   ·rintro e w' ⟨rfl, k, rfl⟩
    rw [List.take_length, List.take_length]
    exact ⟨rfl, (Ext.refl w).drewN k⟩
 ·refine (Tryz.slices_Equal_string_lens q q' l.length c m.length c' w hlen).mono ?_
  rintro e w' ⟨rfl, rfl⟩
  refine ⟨?_, Ext.refl _⟩
  rw [decide_eq_false (fun e => hlen (by rw [e]))]
/-! ### Kids by twos -/
theorem sameL_len : ∀ (l m : List Nd), sameL l m = true → l.length = m.length
 | [], [], _ => rfl
 | [], y :: m, h => by simp [sameL] at h
 | x :: l, [], h => by simp [sameL] at h
 | x :: l, y :: m, h => by
  simp only [sameL, Bool.and_eq_true] at h
  rw [List.length_cons, List.length_cons, sameL_len l m h.2]
theorem sameL_drop (l m : List Nd) (k : Nat) (h : k < l.length) (h' : k < m.length) : sameL (l.drop k) (m.drop k) = (sameN l[k] m[k] && sameL (l.drop (k + 1)) (m.drop (k + 1))) := by
 rw [List.drop_eq_getElem_cons h, List.drop_eq_getElem_cons h']
 simp only [sameL]
def SubN2 (w : World) (ok : Nat → Prop) (d : Nat) (ok' : Nat → Prop) (d' : Nat) (l m : List Nd) (Q : Nd → Value → Nd → Value → World → Prop) : Prop := ∀ x ∈ l, ∀ y ∈ m, ∀ W u v, Ext w W → NodeAt ok W (d - 1) u x → NodeAt ok' W (d' - 1) v y → Q x u y v W
theorem eqf_any (w : World) (ok : Nat → Prop) (d : Nat) (ok' : Nat → Prop) (d' : Nat) (u v : Value) (l m : List Nd) (hu : KidsAt ok w d u l) (hv : KidsAt ok' w d' v m) (hl : l.length ≤ 140737488355328) (hm : m.length ≤ 140737488355328)
  (hsub : SubN2 w ok d ok' d' l m fun x u y v W => Calls Tryz.prog 22 #[u, v] W fun e w' => e = .returned (.bool (sameN x y)) ∧ Ext W w') :
  Calls Tryz.prog 46 #[u, v, .func (.func 22) #[] #[]] w fun e w' => e = .returned (.bool (sameL l m)) ∧ Ext w w' := by
 obtain ⟨q, c, rfl⟩ := hu.slice
 obtain ⟨q', c', rfl⟩ := hv.slice
 have HU := Lib.hid hu
 have HV := Lib.hid hv
 have HS := Lib.hid hsub
 obtain ⟨r, hr⟩ : ∃ r, sameL l m = r := ⟨_, rfl⟩
 rw [hr]
 have HR := Lib.hid hr
 obtain ⟨n, hn⟩ : ∃ n, l.length = n := ⟨_, rfl⟩
 obtain ⟨n', hn'⟩ : ∃ n, m.length = n := ⟨_, rfl⟩
 rw [hn, hn']
 rw [hn] at hl
 rw [hn'] at hm
 have HN := Lib.hid hn
 have HN' := Lib.hid hn'
 clear hu hv hsub hr hn hn'
 by_cases hne : n = n'
 rotate_left
 ·have e1 : ((n : Int) != (n' : Int)) = true := bne_iff_ne.2 (by omega)
  have e2 : ((n : Int) == (n' : Int)) = false := beq_eq_false_iff_ne.2 (by omega)
  have hrr : r = false := by
   rw [← HR.out]
   cases hs : sameL l m with
   | false => rfl
   | true => exact absurd (sameL_len l m hs) (by rw [HN.out, HN'.out]; exact hne)
  subst hrr
  clear hne
  go_enter Tryz.func46, Tryz.ntmps46
  go_wp2_with fail
  go_ret
  exact ⟨rfl, Ext.refl w⟩
 subst hne
 go_enter Tryz.func46, Tryz.ntmps46
 go_wp2_with fail
 go_loopw [17] (fun i wr => ∃ j : Nat, j ≤ n ∧ i = .int .i64 j ∧ Hid (sameL (l.drop j) (m.drop j) = r) ∧ Hid (Ext w wr)) (fun i _ => n - (intOf i).toNat)
 case atStart => exact ⟨0, Nat.zero_le _, rfl, HR, Lib.hid (Ext.refl w)⟩
 case round =>
  obtain ⟨j, hj, rfl, HK, HE⟩ := hrel
  by_cases hlt : j < n
  ·have kl : j < l.length := by rw [HN.out]; exact hlt
   have km : j < m.length := by rw [HN'.out]; exact hlt
   obtain ⟨b, o, qn, cn, ql, cl, rfl, c0, c1, c2, c3, c4, c5, hnd⟩ := ((by have := HU.out; exact this : KidsAt ok w d (.slice q l.length c) l).ext HE.out).node kl
   obtain ⟨b', o', qn', cn', ql', cl', rfl, k0, k1, k2, k3, k4, k5, hnd'⟩ := ((by have := HV.out; exact this : KidsAt ok' w d' (.slice q' m.length c') m).ext HE.out).node km
   have hd := sameL_drop l m j kl km
   rw [HK.out] at hd
   have hml := List.getElem_mem kl
   have hmm := List.getElem_mem km
   obtain ⟨x, hx⟩ : ∃ x, l[j] = x := ⟨_, rfl⟩
   obtain ⟨y, hy⟩ : ∃ y, m[j] = y := ⟨_, rfl⟩
   rw [hx] at c0 c1 c2 c3 c4 c5 hnd hd hml
   rw [hy] at k0 k1 k2 k3 k4 k5 hnd' hd hmm
   have HX := Lib.hid (fun W (e : Ext wr W) => HS.out x hml y hmm W _ _ (HE.out.trans e) (hnd.ext e) (hnd'.ext e))
   have HE0 := Lib.hid (((Ext.refl wr).alloc (ndO x (.slice qn x.names.length cn) (.slice ql x.kids.length cl))).alloc (ndO y (.slice qn' y.names.length cn') (.slice ql' y.kids.length cl')))
   generalize x.names.length = xn at *
   generalize x.kids.length = xk at *
   generalize y.names.length = yn at *
   generalize y.kids.length = yk at *
   have l1 := cell_lt c0
   have l2 := cell_lt k0
   simp only at l1 l2
   have i0 : (0 : Int) ≤ (j : Int) := by omega
   have i1 : (j : Int) < (n : Int) := by omega
   have HD := Lib.hid hd
   clear hnd hnd' hml hmm hx hy kl km hd
   go_wp2_with fail
   refine (HX.out _ HE0.out).mono ?_
   rintro e w1 ⟨rfl, e1⟩
   have HE1 := Lib.hid (HE.out.trans (HE0.out.trans e1))
   clear e1 HX HE0 c0 c1 c2 c3 c4 c5 k0 k1 k2 k3 k4 k5
   obtain ⟨bb, hb⟩ : ∃ b, sameN x y = b := ⟨_, rfl⟩
   rw [hb]
   have hd := HD.out
   rw [hb] at hd
   clear hb HD
   cases bb with
   | true =>
    have HD : Hid (sameL (l.drop (j + 1)) (m.drop (j + 1)) = r) := Lib.hid (by rw [hd, Bool.true_and])
    clear hd
    go_wp2_with fail
    go_roundw
    case rel => exact ⟨j + 1, hlt, by go_num, HD, HE1⟩
    case measure => simp [intOf]; omega
   | false =>
    have hrr : r = false := hd
    clear hd
    subst hrr
    go_wp2_with fail
    go_ret
    exact ⟨rfl, HE1.out⟩
  ·obtain rfl : j = n := by omega
   have hrr : r = true := by
    rw [← HK.out, List.drop_eq_nil_of_le (by rw [HN.out]; exact Nat.le_refl _), List.drop_eq_nil_of_le (by rw [HN'.out]; exact Nat.le_refl _)]; rfl
   subst hrr
   go_wp2_with fail
   go_ret
   exact ⟨rfl, HE.out⟩
/-! ### Same -/
theorem sameN_eq (x y : Nd) : sameN x y = (x.k == y.k && x.name == y.name && x.text == y.text && x.n == y.n && x.names == y.names && sameL x.kids y.kids) := by
 cases x; cases y; rfl
theorem same_step (w : World) (k k' i i' : Int) (a t a' t' : ByteArray) (q : Option Addr) (n c : Nat) (q' : Option Addr) (n' c' : Nat) (r : Option Addr) (m e : Nat) (r' : Option Addr) (m' e' : Nat) (b1 b2 : Bool)
  (h1 : ∀ W, Ext w W → Calls Tryz.prog 45 #[.slice q n c, .slice q' n' c'] W fun e w' => e = .returned (.bool b1) ∧ Ext W w')
  (h2 : ∀ W, Ext w W → Calls Tryz.prog 46 #[.slice r m e, .slice r' m' e', .func (.func 22) #[] #[]] W fun e w' => e = .returned (.bool b2) ∧ Ext W w') :
  Calls Tryz.prog 22 #[.agg #[.int .i64 k, .string a, .string t, .int .i64 i, .slice q n c, .slice r m e], .agg #[.int .i64 k', .string a', .string t', .int .i64 i', .slice q' n' c', .slice r' m' e']] w fun e w' => e = .returned (.bool (k == k' && a == a' && t == t' && i == i' && b1 && b2)) ∧ Ext w w' := by
 have H1 := Lib.hid h1
 have H2 := Lib.hid h2
 have HE0 := Lib.hid (((Ext.refl w).alloc (.cells #[.int .i64 k, .string a, .string t, .int .i64 i, .slice q n c, .slice r m e] 28)).alloc (.cells #[.int .i64 k', .string a', .string t', .int .i64 i', .slice q' n' c', .slice r' m' e'] 28))
 have c5 : Hid (∀ W, Ext ((w.alloc (.cells #[.int .i64 k, .string a, .string t, .int .i64 i, .slice q n c, .slice r m e] 28)).alloc (.cells #[.int .i64 k', .string a', .string t', .int .i64 i', .slice q' n' c', .slice r' m' e'] 28)) W → W.cell? ⟨w.heap.size, 5, none⟩ = some (.slice r m e) ∧ W.cell? ⟨w.heap.size + 1, 5, none⟩ = some (.slice r' m' e')) := Lib.hid (fun W hW =>
  ⟨(((Blk.new w _ _).alloc _).ext hW).cell 5, by have h := (Blk.new (w.alloc (.cells #[.int .i64 k, .string a, .string t, .int .i64 i, .slice q n c, .slice r m e] 28)) _ _).ext hW; rw [size_alloc] at h; exact h.cell 5⟩)
 rw [ba_beq, ba_beq]
 clear h1 h2
 cases g1 : (k == k') with
 | false =>
  simp only [Bool.false_and]
  go_enter Tryz.func22, Tryz.ntmps22
  go_wp2_with fail
  go_ret
  exact ⟨rfl, HE0.out⟩
 | true =>
  cases g2 : (a.toList == a'.toList) with
  | false =>
   simp only [Bool.false_and, Bool.and_false]
   go_enter Tryz.func22, Tryz.ntmps22
   go_wp2_with fail
   go_ret
   exact ⟨rfl, HE0.out⟩
  | true =>
   cases g3 : (t.toList == t'.toList) with
   | false =>
    simp only [Bool.false_and, Bool.and_false]
    go_enter Tryz.func22, Tryz.ntmps22
    go_wp2_with fail
    go_ret
    exact ⟨rfl, HE0.out⟩
   | true =>
    cases g4 : (i == i') with
    | false =>
     simp only [Bool.false_and, Bool.and_false]
     go_enter Tryz.func22, Tryz.ntmps22
     go_wp2_with fail
     go_ret
     exact ⟨rfl, HE0.out⟩
    | true =>
     simp only [Bool.true_and]
     go_enter Tryz.func22, Tryz.ntmps22
     go_wp2_with fail
     refine (H1.out _ HE0.out).mono ?_
     rintro e9 w1 ⟨rfl, e1⟩
     have E1 := Lib.hid (HE0.out.trans e1)
     obtain ⟨d0, d1⟩ := c5.out w1 e1
     clear e1 c5
     cases b1 with
     | false =>
      go_wp2_with fail
      go_ret
      exact ⟨rfl, E1.out⟩
     | true =>
      go_wp2_with fail
      refine (H2.out _ E1.out).mono ?_
      rintro e9 w2 ⟨rfl, e2⟩
      have E2 := Lib.hid (E1.out.trans e2)
      clear e2
      go_wp2_with fail
      go_ret
      exact ⟨by simp, E2.out⟩
theorem same_nd : ∀ (d d' : Nat) (w : World) (ok ok' : Nat → Prop) (u v : Value) (x y : Nd), SzN x → SzN y → NodeAt ok w d u x → NodeAt ok' w d' v y → Calls Tryz.prog 22 #[u, v] w fun e w' => e = .returned (.bool (sameN x y)) ∧ Ext w w' := by
 intro d
 induction d with
 | zero =>
  intro d' w ok ok' u v x y hx hy hu hv
  obtain ⟨qn, cn, ql, cl, rfl, hn, hk⟩ := hu.parts
  obtain ⟨qn', cn', ql', cl', rfl, hn', hk'⟩ := hv.parts
  rw [sameN_eq]
  refine same_step w x.k y.k x.n y.n x.name x.text y.name y.text _ _ _ _ _ _ _ _ _ _ _ _ _ _ (fun W hW => eq_names W ok ok' _ _ _ _ _ _ _ _ (hn.ext hW) (hn'.ext hW) hx.out.names hy.out.names)
   (fun W hW => eqf_any W ok 0 ok' d' _ _ _ _ (hk.ext hW) (hk'.ext hW) hx.out.kids hy.out.kids (fun z hz => by rw [hk.1] at hz; simp at hz))
 | succ d ih =>
  intro d' w ok ok' u v x y hx hy hu hv
  obtain ⟨qn, cn, ql, cl, rfl, hn, hk⟩ := hu.parts
  obtain ⟨qn', cn', ql', cl', rfl, hn', hk'⟩ := hv.parts
  rw [sameN_eq]
  refine same_step w x.k y.k x.n y.n x.name x.text y.name y.text _ _ _ _ _ _ _ _ _ _ _ _ _ _ (fun W hW => eq_names W ok ok' _ _ _ _ _ _ _ _ (hn.ext hW) (hn'.ext hW) hx.out.names hy.out.names)
   (fun W hW => eqf_any W ok (d + 1) ok' d' _ _ _ _ (hk.ext hW) (hk'.ext hW) hx.out.kids hy.out.kids (fun z hz z' hz' W' a b _ ha hb => ih (d' - 1) W' ok ok' a b z z' (hx.out.sub z hz) (hy.out.sub z' hz') ha hb))
theorem str_ne' {a b : ByteArray} (h : ¬ a = b) : (a.toList == b.toList) = false := by
 cases hc : (a.toList == b.toList) with
 | false => rfl
 | true => exact absurd ((ba_iff a b).1 (by rw [ba_beq]; exact hc)) h
theorem rsame_differ (w : World) (k k' i i' : Int) (a t a' t' : ByteArray) (q : Option Addr) (n c : Nat) (q' : Option Addr) (n' c' : Nat) (r : Option Addr) (m e : Nat) (r' : Option Addr) (m' e' : Nat) (h : ¬ (k = k' ∧ a = a' ∧ t = t' ∧ i = i' ∧ n = n' ∧ m = m')) :
  Calls Tryz.prog 19 #[.agg #[.int .i64 k, .string a, .string t, .int .i64 i, .slice q n c, .slice r m e], .agg #[.int .i64 k', .string a', .string t', .int .i64 i', .slice q' n' c', .slice r' m' e']] w fun e w' => e = .returned (.bool false) ∧ Ext w w' := by
 have HE := Lib.hid (((Ext.refl w).alloc (.cells #[.int .i64 k, .string a, .string t, .int .i64 i, .slice q n c, .slice r m e] 28)).alloc (.cells #[.int .i64 k', .string a', .string t', .int .i64 i', .slice q' n' c', .slice r' m' e'] 28))
 have fin : ∀ {P : Prop}, P → P := fun h => h
 by_cases h0 : k = k'
 ·subst h0
  by_cases h1 : a = a'
  ·subst h1
   by_cases h2 : t = t'
   ·subst h2
    by_cases h3 : i = i'
    ·subst h3
     by_cases h4 : n = n'
     ·subst h4
      have hm : ¬ m = m' := fun e => h ⟨rfl, rfl, rfl, rfl, rfl, e⟩
      have e1 : ((m : Int) != (m' : Int)) = true := bne_iff_ne.2 (by omega)
      have e2 : ((m : Int) == (m' : Int)) = false := beq_eq_false_iff_ne.2 (by omega)
      clear h hm
      go_enter Tryz.func19, Tryz.ntmps19
      go_wp2_with fail
      go_ret
      exact ⟨rfl, HE.out⟩
     ·skip
      have e1 : ((n : Int) != (n' : Int)) = true := bne_iff_ne.2 (by omega)
      have e2 : ((n : Int) == (n' : Int)) = false := beq_eq_false_iff_ne.2 (by omega)
      clear h h4
      go_enter Tryz.func19, Tryz.ntmps19
      go_wp2_with fail
      go_ret
      exact ⟨rfl, HE.out⟩
    ·skip
     have e1 : (i != i') = true := bne_iff_ne.2 h3
     have e2 : (i == i') = false := beq_eq_false_iff_ne.2 h3
     clear h h3
     go_enter Tryz.func19, Tryz.ntmps19
     go_wp2_with fail
     go_ret
     exact ⟨rfl, HE.out⟩
   ·skip
    have e1 := str_ne' h2
    clear h h2
    go_enter Tryz.func19, Tryz.ntmps19
    go_wp2_with fail
    go_ret
    exact ⟨rfl, HE.out⟩
  ·skip
   have e1 := str_ne' h1
   clear h h1
   go_enter Tryz.func19, Tryz.ntmps19
   go_wp2_with fail
   go_ret
   exact ⟨rfl, HE.out⟩
 ·skip
  have e1 : (k != k') = true := bne_iff_ne.2 h0
  have e2 : (k == k') = false := beq_eq_false_iff_ne.2 h0
  clear h h0
  go_enter Tryz.func19, Tryz.ntmps19
  go_wp2_with fail
  go_ret
  exact ⟨rfl, HE.out⟩
theorem nm_drop (l m : List ByteArray) (k : Nat) (h : k < l.length) (h' : k < m.length) : (l.drop k == m.drop k) = (l[k] == m[k] && (l.drop (k + 1) == m.drop (k + 1))) := by
 rw [List.drop_eq_getElem_cons h, List.drop_eq_getElem_cons h']
 rfl
theorem rsame_loops (w : World) (ok : Nat → Prop) (d : Nat) (ok' : Nat → Prop) (d' : Nat) (k i : Int) (a t : ByteArray) (q : Option Addr) (c : Nat) (q' : Option Addr) (c' : Nat) (r : Option Addr) (e : Nat) (r' : Option Addr) (e' : Nat) (l l' : List ByteArray) (ks ks' : List Nd)
  (hl : l.length = l'.length) (hks : ks.length = ks'.length) (hlm : l.length ≤ 140737488355328) (hkm : ks.length ≤ 140737488355328)
  (hn : TxtsAt ok w (.slice q l.length c) l) (hn' : TxtsAt ok' w (.slice q' l'.length c') l') (hk : KidsAt ok w d (.slice r ks.length e) ks) (hk' : KidsAt ok' w d' (.slice r' ks'.length e') ks')
  (hsub : SubN2 w ok d ok' d' ks ks' fun x u y v W => Calls Tryz.prog 19 #[u, v] W fun e w' => e = .returned (.bool (sameN x y)) ∧ Ext W w') :
  Calls Tryz.prog 19 #[.agg #[.int .i64 k, .string a, .string t, .int .i64 i, .slice q l.length c, .slice r ks.length e], .agg #[.int .i64 k, .string a, .string t, .int .i64 i, .slice q' l.length c', .slice r' ks.length e']] w fun e w' => e = .returned (.bool (l == l' && sameL ks ks')) ∧ Ext w w' := by
 have HN := Lib.hid hn
 have HN' := Lib.hid hn'
 have HK := Lib.hid hk
 have HK' := Lib.hid hk'
 have HS := Lib.hid hsub
 have HL := Lib.hid hl
 have HKS := Lib.hid hks
 clear hn
 obtain ⟨n, hn⟩ : ∃ n, l.length = n := ⟨_, rfl⟩
 obtain ⟨m, hm⟩ : ∃ n, ks.length = n := ⟨_, rfl⟩
 have HLN := Lib.hid hn
 have HKN := Lib.hid hm
 rw [hn] at hlm ⊢
 rw [hm] at hkm ⊢
 have HE := Lib.hid (((Ext.refl w).alloc (.cells #[.int .i64 k, .string a, .string t, .int .i64 i, .slice q n c, .slice r m e] 28)).alloc (.cells #[.int .i64 k, .string a, .string t, .int .i64 i, .slice q' n c', .slice r' m e'] 28))
 have HX : Hid (Blk ((w.alloc (.cells #[.int .i64 k, .string a, .string t, .int .i64 i, .slice q n c, .slice r m e] 28)).alloc (.cells #[.int .i64 k, .string a, .string t, .int .i64 i, .slice q' n c', .slice r' m e'] 28)) w.heap.size 28 #[.int .i64 k, .string a, .string t, .int .i64 i, .slice q n c, .slice r m e]) := Lib.hid ((Blk.new w _ _).alloc _)
 have HY : Hid (Blk ((w.alloc (.cells #[.int .i64 k, .string a, .string t, .int .i64 i, .slice q n c, .slice r m e] 28)).alloc (.cells #[.int .i64 k, .string a, .string t, .int .i64 i, .slice q' n c', .slice r' m e'] 28)) (w.heap.size + 1) 28 #[.int .i64 k, .string a, .string t, .int .i64 i, .slice q' n c', .slice r' m e']) := Lib.hid (by
  have := Blk.new (w.alloc (.cells #[.int .i64 k, .string a, .string t, .int .i64 i, .slice q n c, .slice r m e] 28)) 28 #[.int .i64 k, .string a, .string t, .int .i64 i, .slice q' n c', .slice r' m e']
  rwa [size_alloc] at this)
 obtain ⟨res, hres⟩ : ∃ res, (l == l' && sameL ks ks') = res := ⟨_, rfl⟩
 rw [hres]
 have HRES := Lib.hid hres
 have e0 : (a.toList == a.toList) = true := beq_self_eq_true _
 have e1 : (t.toList == t.toList) = true := beq_self_eq_true _
 clear hsub hl hks hk hk' hn' hm hres hn
 go_enter Tryz.func19, Tryz.ntmps19
 go_wp2_with fail
 generalize (w.alloc (.cells #[.int .i64 k, .string a, .string t, .int .i64 i, .slice q n c, .slice r m e] 28)).alloc (.cells #[.int .i64 k, .string a, .string t, .int .i64 i, .slice q' n c', .slice r' m e'] 28) = w0 at HE HX HY ⊢
 clear e0 e1
 go_loopw [5] (fun v5 wr => ∃ j : Nat, v5 = .int .i64 j ∧ j ≤ n ∧ Hid (Ext w0 wr) ∧ Hid ((l.drop j == l'.drop j && sameL ks ks') = res)) (fun v5 _ => n - (intOf v5).toNat)
 case atStart => exact ⟨0, rfl, Nat.zero_le _, Lib.hid (Ext.refl w0), HRES⟩
 case round =>
  obtain ⟨j, rfl, hj, HR, HA⟩ := hrel
  have x4 := (HX.out.ext HR.out).cell 4
  have y4 := (HY.out.ext HR.out).cell 4
  simp only [List.getElem?_toArray, List.getElem?_cons_zero, List.getElem?_cons_succ] at x4 y4
  by_cases hlt : j < n
  ·have kl : j < l.length := by rw [HLN.out]; exact hlt
   have km : j < l'.length := by rw [← HL.out, HLN.out]; exact hlt
   obtain ⟨b, o, rfl, c1⟩ := (HN.out.ext (HE.out.trans HR.out)).elem kl
   obtain ⟨b', o', rfl, c1'⟩ := (HN'.out.ext (HE.out.trans HR.out)).elem km
   have hd := nm_drop l l' j kl km
   have hA := HA.out
   rw [hd] at hA
   obtain ⟨x, hx⟩ : ∃ x, l[j] = x := ⟨_, rfl⟩
   obtain ⟨y, hy⟩ : ∃ y, l'[j] = y := ⟨_, rfl⟩
   rw [hx] at c1 hA
   rw [hy] at c1' hA
   have k0 : (0 : Int) ≤ (j : Int) := by omega
   have k1 : (j : Int) < (n : Int) := by omega
   have HA2 := Lib.hid hA
   clear hd hA hx hy kl km
   by_cases hxy : x = y
   ·subst hxy
    have HA3 : Hid ((l.drop (j + 1) == l'.drop (j + 1) && sameL ks ks') = res) := Lib.hid (by
     have h1 := HA2.out
     rw [(ba_iff x x).2 rfl, Bool.true_and] at h1
     exact h1)
    go_wp2_with fail
    refine wp_region_ext (by kernel_rfl) (by kernel_rfl) ?_
    repeat (
     first
      | go_big_quiet_skip
      | (
        go_big_quiet_want
        go_big_quiet_op
        first
         | go_big_quiet_on
         | (
           apply Exists.intro
           refine ⟨fun wq hq => ?_, ?_⟩
           focus (
            have x4 := hq.cell x4
            have y4 := hq.cell y4
            have c1 := hq.cell c1
            have c1' := hq.cell c1'
            first
             | (go_simp; exact rfl))
           go_big_quiet_on)))
    refine wpQuiet_nil ?_
    intro we hwe
    have HR2 := Lib.hid (HR.out.trans hwe)
    clear hwe x4 y4 c1 c1'
    go_wp2_with fail
    go_roundw
    case rel => exact ⟨j + 1, by go_num, by omega, HR2, HA3⟩
    case measure => simp [intOf]; omega
   ·have e1 := str_ne' hxy
    have hrr : res = false := by
     have h1 := HA2.out
     have h2 : (x == y) = false := by rw [ba_beq]; exact e1
     rw [h2, Bool.false_and, Bool.false_and] at h1
     exact h1.symm
    subst hrr
    clear hxy HA2
    go_wp2_with fail
    refine wp_region_ext (by kernel_rfl) (by kernel_rfl) ?_
    repeat (
     first
      | go_big_quiet_skip
      | (
        go_big_quiet_want
        go_big_quiet_op
        first
         | go_big_quiet_on
         | (
           apply Exists.intro
           refine ⟨fun wq hq => ?_, ?_⟩
           focus (
            have x4 := hq.cell x4
            have y4 := hq.cell y4
            have c1 := hq.cell c1
            have c1' := hq.cell c1'
            first
             | (go_simp; exact rfl))
           go_big_quiet_on)))
    refine wpQuiet_nil ?_
    intro we hwe
    have HR2 := Lib.hid (HR.out.trans hwe)
    clear hwe x4 y4 c1 c1'
    go_wp2_with fail
    go_ret
    exact ⟨rfl, HE.out.trans HR2.out⟩
  ·obtain rfl : j = n := by omega
   have HA2 : Hid (sameL ks ks' = res) := Lib.hid (by
    have h1 := HA.out
    rw [List.drop_eq_nil_of_le (by rw [HLN.out]; exact Nat.le_refl _), List.drop_eq_nil_of_le (by rw [← HL.out, HLN.out]; exact Nat.le_refl _)] at h1
    exact h1)
   go_wp2_with fail
   clear x4 y4
   go_loopw [6] (fun v6 wr2 => ∃ j : Nat, v6 = .int .i64 j ∧ j ≤ m ∧ Hid (Ext w0 wr2) ∧ Hid (sameL (ks.drop j) (ks'.drop j) = res)) (fun v6 _ => m - (intOf v6).toNat)
   case atStart => exact ⟨0, rfl, Nat.zero_le _, HR, HA2⟩
   case round =>
    obtain ⟨j2, rfl, hj2, HR3, HA3⟩ := hrel
    have x5 := (HX.out.ext HR3.out).cell 5
    have y5 := (HY.out.ext HR3.out).cell 5
    simp only [List.getElem?_toArray, List.getElem?_cons_zero, List.getElem?_cons_succ] at x5 y5
    by_cases hlt2 : j2 < m
    ·have kl : j2 < ks.length := by rw [HKN.out]; exact hlt2
     have km : j2 < ks'.length := by rw [← HKS.out, HKN.out]; exact hlt2
     obtain ⟨b, o, qn, cn, ql, cl, rfl, c0, c1, c2, c3, c4, c5, hnd⟩ := (HK.out.ext (HE.out.trans HR3.out)).node kl
     obtain ⟨b', o', qn', cn', ql', cl', rfl, d0, d1, d2, d3, d4, d5, hnd'⟩ := (HK'.out.ext (HE.out.trans HR3.out)).node km
     have hd := sameL_drop ks ks' j2 kl km
     rw [HA3.out] at hd
     have hml := List.getElem_mem kl
     have hmm := List.getElem_mem km
     obtain ⟨x, hx⟩ : ∃ x, ks[j2] = x := ⟨_, rfl⟩
     obtain ⟨y, hy⟩ : ∃ y, ks'[j2] = y := ⟨_, rfl⟩
     rw [hx] at c0 c1 c2 c3 c4 c5 hnd hd hml
     rw [hy] at d0 d1 d2 d3 d4 d5 hnd' hd hmm
     obtain ⟨bb, hb⟩ : ∃ b, sameN x y = b := ⟨_, rfl⟩
     have HX0 := fun W (e : Ext _ W) => Calls.ext_of e (HS.out x hml y hmm W _ _ ((HE.out.trans HR3.out).trans e) (hnd.ext e) (hnd'.ext e))
     rw [hb] at hd HX0
     have HX := Lib.hid HX0
     generalize x.names.length = xn at *
     generalize x.kids.length = xk at *
     generalize y.names.length = yn at *
     generalize y.kids.length = yk at *
     have i0 : (0 : Int) ≤ (j2 : Int) := by omega
     have i1 : (j2 : Int) < (m : Int) := by omega
     have HD := Lib.hid hd
     clear hnd hnd' hml hmm hx hy kl km hd hb HX0
     cases bb with
     | true =>
      have HD : Hid (sameL (ks.drop (j2 + 1)) (ks'.drop (j2 + 1)) = res) := Lib.hid (by rw [HD.out, Bool.true_and])
      go_wp2_with fail
      refine wp_region_ext (by kernel_rfl) (by kernel_rfl) ?_
      repeat (
       first
        | go_big_quiet_skip
        | (
          go_big_quiet_want
          go_big_quiet_op
          first
           | go_big_quiet_on
           | (
             apply Exists.intro
             refine ⟨fun wq hq => ?_, ?_⟩
             focus (
              have x5 := hq.cell x5
              have y5 := hq.cell y5
              have c0 := hq.cell c0
              have c1 := hq.cell c1
              have c2 := hq.cell c2
              have c3 := hq.cell c3
              have c4 := hq.cell c4
              have c5 := hq.cell c5
              have d0 := hq.cell d0
              have d1 := hq.cell d1
              have d2 := hq.cell d2
              have d3 := hq.cell d3
              have d4 := hq.cell d4
              have d5 := hq.cell d5
              first
               | (go_at_call 19; with_reducible exact HX.out wq hq; done)
               | (go_simp; exact rfl))
             go_big_quiet_on)))
      refine wpQuiet_nil ?_
      intro we hwe
      have HR4 := Lib.hid (HR3.out.trans hwe)
      clear hwe x5 y5 c0 c1 c2 c3 c4 c5 d0 d1 d2 d3 d4 d5 HX
      go_wp2_with fail
      go_roundw
      case rel => exact ⟨j2 + 1, by go_num, by omega, HR4, HD⟩
      case measure => simp [intOf]; omega
     | false =>
      have hrr : res = false := HD.out
      clear HD
      subst hrr
      go_wp2_with fail
      refine wp_region_ext (by kernel_rfl) (by kernel_rfl) ?_
      repeat (
       first
        | go_big_quiet_skip
        | (
          go_big_quiet_want
          go_big_quiet_op
          first
           | go_big_quiet_on
           | (
             apply Exists.intro
             refine ⟨fun wq hq => ?_, ?_⟩
             focus (
              have x5 := hq.cell x5
              have y5 := hq.cell y5
              have c0 := hq.cell c0
              have c1 := hq.cell c1
              have c2 := hq.cell c2
              have c3 := hq.cell c3
              have c4 := hq.cell c4
              have c5 := hq.cell c5
              have d0 := hq.cell d0
              have d1 := hq.cell d1
              have d2 := hq.cell d2
              have d3 := hq.cell d3
              have d4 := hq.cell d4
              have d5 := hq.cell d5
              first
               | (go_at_call 19; with_reducible exact HX.out wq hq; done)
               | (go_simp; exact rfl))
             go_big_quiet_on)))
      refine wpQuiet_nil ?_
      intro we hwe
      have HR4 := Lib.hid (HR3.out.trans hwe)
      clear hwe x5 y5 c0 c1 c2 c3 c4 c5 d0 d1 d2 d3 d4 d5 HX
      go_wp2_with fail
      go_ret
      exact ⟨rfl, HE.out.trans HR4.out⟩
    ·obtain rfl : j2 = m := by omega
     have hrr : res = true := by
      rw [← HA3.out, List.drop_eq_nil_of_le (by rw [HKN.out]; exact Nat.le_refl _), List.drop_eq_nil_of_le (by rw [← HKS.out, HKN.out]; exact Nat.le_refl _)]; rfl
     subst hrr
     go_wp2_with fail
     go_ret
     exact ⟨rfl, HE.out.trans HR3.out⟩
theorem sameN_heads (x y : Nd) (h : ¬ (x.k = y.k ∧ x.name = y.name ∧ x.text = y.text ∧ x.n = y.n ∧ x.names.length = y.names.length ∧ x.kids.length = y.kids.length)) : sameN x y = false := by
 cases hs : sameN x y with
 | false => rfl
 | true =>
  rw [sameN_eq] at hs
  simp only [Bool.and_eq_true, beq_iff_eq, ba_iff] at hs
  obtain ⟨⟨⟨⟨⟨h1, h2⟩, h3⟩, h4⟩, h5⟩, h6⟩ := hs
  have h5' : x.names = y.names := by
   have := names_beq x.names y.names
   rw [h5] at this
   exact of_decide_eq_true this.symm
  exact absurd ⟨h1, h2, h3, h4, by rw [h5'], sameL_len _ _ h6⟩ h
theorem rsame_nd : ∀ (d d' : Nat) (w : World) (ok ok' : Nat → Prop) (u v : Value) (x y : Nd), SzN x → SzN y → NodeAt ok w d u x → NodeAt ok' w d' v y → Calls Tryz.prog 19 #[u, v] w fun e w' => e = .returned (.bool (sameN x y)) ∧ Ext w w' := by
 intro d
 induction d with
 | zero =>
  intro d' w ok ok' u v x y hx hy hu hv
  obtain ⟨qn, cn, ql, cl, rfl, hn, hk⟩ := hu.parts
  obtain ⟨qn', cn', ql', cl', rfl, hn', hk'⟩ := hv.parts
  by_cases h : x.k = y.k ∧ x.name = y.name ∧ x.text = y.text ∧ x.n = y.n ∧ x.names.length = y.names.length ∧ x.kids.length = y.kids.length
  ·have e : sameN x y = (x.names == y.names && sameL x.kids y.kids) := by
    rw [sameN_eq, h.1, h.2.1, h.2.2.1, h.2.2.2.1, (ba_iff y.name y.name).2 rfl, (ba_iff y.text y.text).2 rfl]
    simp
   rw [e]
   have := rsame_loops w ok 0 ok' d' x.k x.n x.name x.text qn cn qn' cn' ql cl ql' cl' x.names y.names x.kids y.kids h.2.2.2.2.1 h.2.2.2.2.2 hx.out.names hx.out.kids hn hn' hk hk' (fun z hz => by rw [hk.1] at hz; simp at hz)
   rw [show ndV y (.slice qn' y.names.length cn') (.slice ql' y.kids.length cl') = .agg #[.int .i64 x.k, .string x.name, .string x.text, .int .i64 x.n, .slice qn' x.names.length cn', .slice ql' x.kids.length cl'] by rw [h.1, h.2.1, h.2.2.1, h.2.2.2.1, h.2.2.2.2.1, h.2.2.2.2.2]]
   exact this
  ·rw [sameN_heads x y h]
   exact rsame_differ w _ _ _ _ _ _ _ _ _ _ _ _ _ _ _ _ _ _ _ _ h
 | succ d ih =>
  intro d' w ok ok' u v x y hx hy hu hv
  obtain ⟨qn, cn, ql, cl, rfl, hn, hk⟩ := hu.parts
  obtain ⟨qn', cn', ql', cl', rfl, hn', hk'⟩ := hv.parts
  by_cases h : x.k = y.k ∧ x.name = y.name ∧ x.text = y.text ∧ x.n = y.n ∧ x.names.length = y.names.length ∧ x.kids.length = y.kids.length
  ·have e : sameN x y = (x.names == y.names && sameL x.kids y.kids) := by
    rw [sameN_eq, h.1, h.2.1, h.2.2.1, h.2.2.2.1, (ba_iff y.name y.name).2 rfl, (ba_iff y.text y.text).2 rfl]
    simp
   rw [e]
   have := rsame_loops w ok (d + 1) ok' d' x.k x.n x.name x.text qn cn qn' cn' ql cl ql' cl' x.names y.names x.kids y.kids h.2.2.2.2.1 h.2.2.2.2.2 hx.out.names hx.out.kids hn hn' hk hk' (fun z hz z' hz' W' a b _ ha hb => ih (d' - 1) W' ok ok' a b z z' (hx.out.sub z hz) (hy.out.sub z' hz') ha hb)
   rw [show ndV y (.slice qn' y.names.length cn') (.slice ql' y.kids.length cl') = .agg #[.int .i64 x.k, .string x.name, .string x.text, .int .i64 x.n, .slice qn' x.names.length cn', .slice ql' x.kids.length cl'] by rw [h.1, h.2.1, h.2.2.1, h.2.2.2.1, h.2.2.2.2.1, h.2.2.2.2.2]]
   exact this
  ·rw [sameN_heads x y h]
   exact rsame_differ w _ _ _ _ _ _ _ _ _ _ _ _ _ _ _ _ _ _ _ _ h
end Go.Proofs.YtkbcnacjaakleaaGreatDoor
