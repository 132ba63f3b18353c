/- Words, the plain law's third part: words that are printed are read as they were; what is read may be. A range over a function whose rounds are asked at what the iterator hands out alone, and where an element may forbid that a round goes on. Words: strings.FieldsSeq over the words of the language. -/
import Derived.Test.YtkbcnacjaakleaaGreatDoorYP07
import Derived.Test.YtkbcnacjaakleaaGreatDoorYP00
import Derived.RangeFuncWrites
import Derived.RangeFuncBound
import Derived.RangeFuncCalls
import Derived.RangeFuncLeaves
import Derived.RangeFuncBox
import Derived.OwnWalkIn
import Derived.Test.YtkbcnacjaakleaaGreatDoorProg
import Derived.Lib.Space
import Derived.Lib.LaidTab
import Derived.Shelf.Abstract
import Derived.Shelf.RegionOpen
import Derived.WalkKit
import Derived.TacticsInMore
import Derived.LoopNIn
import Derived.LoopIn
import Derived.Lib.Strings
set_option maxRecDepth 100000
set_option maxHeartbeats 32000000
set_option linter.unusedVariables false
set_option linter.unusedSimpArgs false
namespace Go.Proofs.YtkbcnacjaakleaaGreatDoor
open Go.Lib

def EndW (r : List UInt8) : Prop := r = [] ∨ ∃ r', r = 32 :: r'
theorem run_all : ∀ (t r : List UInt8), t.all wrdB = true → EndW r → runP (t ++ r) = t.length
 | [], r, _, h => by
  rcases h with rfl | ⟨r', rfl⟩
  ·rfl
  ·rfl
 | c :: t, r, ht, h => by
  simp only [List.all_cons, Bool.and_eq_true] at ht
  show (if wrdB c = true then runP (t ++ r) + 1 else 0) = _
  rw [if_pos ht.1, run_all t r ht.2 h]
  rfl
theorem key_facts : keyL.all (fun x => headB letB x && x.all wrdB) = true := by decide
theorem key_in {t : List UInt8} (h : keyB t = true) : t ∈ keyL := by
 obtain ⟨x, hx, e⟩ := List.any_eq_true.1 h
 rw [← eq_of_beq e]
 exact hx
theorem key_head {t : List UInt8} (h : keyB t = true) : headB letB t = true ∧ t.all wrdB = true := by
 have := List.all_eq_true.1 key_facts t (key_in h)
 simpa [Bool.and_eq_true] using this
theorem name_head {t : List UInt8} (h : nameP t = true) : headB letB t = true ∧ t.all wrdB = true ∧ keyB t = false := by
 unfold nameP at h
 simp only [Bool.and_eq_true, Bool.not_eq_true'] at h
 exact ⟨h.1.1.2, h.2, h.1.2⟩
theorem head_pos {p : UInt8 → Bool} {t : List UInt8} (h : headB p t = true) : ∃ c l, t = c :: l ∧ p c = true := by
 cases t with
 | nil => cases h
 | cons c l => exact ⟨c, l, rfl, h⟩
theorem word_let {t r : List UInt8} (h1 : headB letB t = true) (h2 : t.all wrdB = true) (hr : EndW r) :
  wordP (t ++ r) = if keyB t = true then some (⟨1, t, 0, 0⟩, t.length) else if nameP t = true then some (⟨0, t, 0, 0⟩, t.length) else none := by
 have e := run_all t r h2 hr
 obtain ⟨c, l, rfl, hc⟩ := head_pos h1
 unfold wordP
 rw [e, if_pos (by simp)]
 rw [show headB letB (c :: l ++ r) = true from hc, if_pos rfl, List.take_left]
theorem dig_let {c : UInt8} (h : digB c = true) : letB c = false ∧ wrdB c = true := by
 have h2 : 48 ≤ c.toNat ∧ c.toNat ≤ 57 := by simpa [digB] using h
 have h3 : letB c = false := by simp [letB]; omega
 exact ⟨h3, by simp [wrdB, h]⟩
theorem dec_all : ∀ n : Nat, (decDigits n).all digB = true := fun n => by
 induction n using Nat.strongRecOn with
 | _ n ih =>
  by_cases h : n < 10
  ·rw [decDigits_one h]
   have : (UInt8.ofNat (48 + n)).toNat = 48 + n := by rw [u8n]; omega
   simp only [List.all_cons, List.all_nil, digB, this]
   simp; omega
  ·rw [decDigits, dif_neg h, List.all_append, ih (n / 10) (by omega)]
   have : (UInt8.ofNat (48 + n % 10)).toNat = 48 + n % 10 := by rw [u8n]; omega
   simp only [List.all_cons, List.all_nil, digB, this]
   simp; omega
theorem val_snoc : ∀ (l : List UInt8) (c : UInt8) (m : Nat), decVal (l ++ [c]) m = 10 * decVal l m + (c.toNat - 48)
 | [], c, m => rfl
 | d :: l, c, m => val_snoc l c _
theorem dec_val (n : Nat) : decVal (decDigits n) 0 = n := by
 induction n using Nat.strongRecOn with
 | _ n ih =>
  by_cases h : n < 10
  ·rw [decDigits_one h]
   have : (UInt8.ofNat (48 + n)).toNat = 48 + n := by rw [u8n]; omega
   simp only [decVal, this]
   omega
  ·rw [decDigits, dif_neg h, val_snoc, ih (n / 10) (by omega)]
   have : (UInt8.ofNat (48 + n % 10)).toNat = 48 + n % 10 := by rw [u8n]; omega
   rw [this]
   omega
theorem dec_pos (n : Nat) : 1 ≤ (decDigits n).length := by rw [decDigits_length]; exact nDigits_pos n
theorem dec_head (n : Nat) : headB digB (decDigits n) = true := by
 have h1 := dec_all n
 have h2 := dec_pos n
 cases hd : decDigits n with
 | nil => rw [hd] at h2; simp at h2
 | cons c l => rw [hd] at h1; simp only [List.all_cons, Bool.and_eq_true] at h1; exact h1.1
theorem nDigits_le : ∀ (k u : Nat), u < 10 ^ (k + 1) → nDigits u ≤ k + 1
 | 0, u, h => by rw [nDigits_small (by simpa using h)]; omega
 | k + 1, u, h => by
  by_cases hu : u < 10
  ·rw [nDigits_small hu]; omega
  ·rw [nDigits_big hu]
   have := nDigits_le k (u / 10) (by rw [Nat.pow_succ] at h; omega)
   omega
theorem dec_len {n : Nat} (h : n ≤ 9223372036854775807) : (decDigits n).length ≤ 19 := by
 rw [decDigits_length]
 exact nDigits_le 18 n (by omega)
theorem word_num {n : Nat} (hn : n ≤ 9223372036854775807) {r : List UInt8} (hr : EndW r) : wordP (decDigits n ++ r) = some (⟨2, [], (n : Int), 0⟩, (decDigits n).length) := by
 have ha := dec_all n
 have hw : (decDigits n).all wrdB = true := by
  rw [List.all_eq_true] at ha ⊢
  exact fun c hc => (dig_let (ha c hc)).2
 have e := run_all _ r hw hr
 obtain ⟨c, l, hd, hc⟩ := head_pos (dec_head n)
 have hv : numP (decDigits n) = some n := by unfold numP; rw [dec_val, if_pos ⟨ha, hn⟩]
 unfold wordP
 have hh : headB letB (decDigits n ++ r) = false := by rw [hd]; exact (dig_let hc).1
 rw [e, if_pos (show 0 < (decDigits n).length from dec_pos n), List.take_left, hv, hh]
 rfl
theorem pre_append : ∀ (y a b : List UInt8), y.length ≤ a.length → y.isPrefixOf (a ++ b) = y.isPrefixOf a
 | [], a, b, _ => by cases a <;> cases b <;> rfl
 | c :: y, [], b, h => by simp at h
 | c :: y, d :: a, b, h => by
  show (c == d && y.isPrefixOf (a ++ b)) = (c == d && y.isPrefixOf a)
  rw [pre_append y a b (by simpa using h)]
theorem find_congr {p q : List UInt8 → Bool} : ∀ (l : List (List UInt8)), (∀ x ∈ l, p x = q x) → l.find? p = l.find? q
 | [], _ => rfl
 | x :: l, h => by
  rw [List.find?_cons, List.find?_cons, h x (by simp), find_congr l (fun y hy => h y (by simp [hy]))]
theorem sign_two : signL.all (fun x => decide (x.length ≤ 2) && decide (1 ≤ x.length)) = true := by decide
theorem sign_find0 : signL.all (fun x => decide ((signL.find? fun y => preB y x) = some x)) = true := by decide
theorem sign_find1 : signL.all (fun x => decide ((signL.find? fun y => preB y (x ++ [32])) = some x)) = true := by decide
theorem sign_head : signL.all (fun x => headB (fun c => !wrdB c && !(decide (c.toNat = 39)) && !(decide (c.toNat = 34)) && !blkB c) x) = true := by decide
theorem sign_in {t : List UInt8} (h : signB t = true) : t ∈ signL := by
 obtain ⟨x, hx, e⟩ := List.any_eq_true.1 h
 rw [← eq_of_beq e]
 exact hx
theorem sign_len {x : List UInt8} (h : x ∈ signL) : x.length ≤ 2 ∧ 1 ≤ x.length := by
 have := List.all_eq_true.1 sign_two x h
 simpa using this
theorem find_sign {t : List UInt8} (h : t ∈ signL) {r : List UInt8} (hr : EndW r) : (signL.find? fun y => preB y (t ++ r)) = some t := by
 rcases hr with rfl | ⟨r', rfl⟩
 ·rw [List.append_nil]
  simpa using List.all_eq_true.1 sign_find0 t h
 ·have h1 : (signL.find? fun y => preB y (t ++ [32])) = some t := by simpa using List.all_eq_true.1 sign_find1 t h
  rw [← h1]
  refine find_congr _ fun y hy => ?_
  rw [show t ++ 32 :: r' = (t ++ [32]) ++ r' by simp]
  refine pre_append _ _ _ ?_
  have := (sign_len hy).1
  have := (sign_len h).2
  simp only [List.length_append, List.length_cons, List.length_nil]
  omega
theorem word_sign {t : List UInt8} (h : signB t = true) {r : List UInt8} (hr : EndW r) : wordP (t ++ r) = some (⟨4, t, 0, 0⟩, t.length) := by
 have hm := sign_in h
 have hf := find_sign hm hr
 have hh := List.all_eq_true.1 sign_head t hm
 obtain ⟨c, l, rfl, hc⟩ := head_pos hh
 simp only [Bool.and_eq_true, Bool.not_eq_true', decide_eq_false_iff_not] at hc
 have hrun : runP (c :: l ++ r) = 0 := by show (if wrdB c = true then _ else 0) = 0; rw [hc.1.1.1]; rfl
 unfold wordP
 rw [hrun, if_neg (by omega)]
 show (if c.toNat = 39 ∨ c.toNat = 34 then _ else (signL.find? fun x => preB x (c :: l ++ r)).map _) = _
 rw [if_neg (by have := hc.1.1.2; have := hc.1.2; omega), hf]
 rfl
theorem word_told {w : Wd} (h : mayP w = true) (hn : w.n ≤ 9223372036854775807) {r : List UInt8} (hr : EndW r) : wordP (toldP w ++ r) = some ({ w with a := 0 }, (toldP w).length) := by
 obtain ⟨k, t, n, a⟩ := w
 unfold mayP at h
 simp only at h hn
 unfold toldP
 simp only
 by_cases h0 : k = 0
 ·subst h0
  simp at h
  obtain ⟨hk, rfl⟩ := h
  obtain ⟨g1, g2, g3⟩ := name_head hk
  simp only [show ¬ ((0 : Int) = 2) by decide, show ¬ ((0 : Int) = 3) by decide, if_false]
  rw [word_let g1 g2 hr, g3, hk]
  rfl
 by_cases h1 : k = 1
 ·subst h1
  simp at h
  obtain ⟨hk, rfl⟩ := h
  obtain ⟨g1, g2⟩ := key_head hk
  simp only [show ¬ ((1 : Int) = 2) by decide, show ¬ ((1 : Int) = 3) by decide, if_false]
  rw [word_let g1 g2 hr, hk]
  rfl
 by_cases h2 : k = 2
 ·subst h2
  simp at h
  obtain ⟨rfl, hk⟩ := h
  simp only [if_true]
  rw [word_num (by omega) hr]
  simp [Int.toNat_of_nonneg hk]
 by_cases h3 : k = 3
 ·subst h3
  simp at h
  subst h
  simp only [show ¬ ((3 : Int) = 2) by decide, if_false, if_true]
  exact quote_word t r
 by_cases h4 : k = 4
 ·subst h4
  simp at h
  obtain ⟨hk, rfl⟩ := h
  simp only [show ¬ ((4 : Int) = 2) by decide, show ¬ ((4 : Int) = 3) by decide, if_false]
  exact word_sign hk hr
 ·simp [h0, h1, h2, h3, h4] at h
theorem blank_wrd {c : UInt8} (h : wrdB c = true) (l : List UInt8) : blankS false (c :: l) = 0 := by
 have h1 : (48 ≤ c.toNat ∧ c.toNat ≤ 57) ∨ (65 ≤ c.toNat) := by
  simp [wrdB, letB, digB] at h
  omega
 have h2 : blkB c = false := by simp [blkB]; omega
 show (if blkB c = true then _ else if c.toNat = 45 ∧ _ then _ else 0) = 0
 rw [h2, if_neg (by simp), if_neg (by omega)]
theorem blank_let {t : List UInt8} {p : UInt8 → Bool} (hp : ∀ c, p c = true → wrdB c = true) (h : headB p t = true) (r : List UInt8) : blankS false (t ++ r) = 0 := by
 obtain ⟨c, l, rfl, hc⟩ := head_pos h
 exact blank_wrd (hp c hc) _
theorem sign_blank {t : List UInt8} (h : t ∈ signL) {r : List UInt8} (hr : EndW r) : blankS false (t ++ r) = 0 := by
 have hh := List.all_eq_true.1 sign_head t h
 have hs : signL.all (fun x => match x with | [] => true | c :: l => !(decide (c.toNat = 45)) || l.isEmpty) = true := by decide
 have h3 := List.all_eq_true.1 hs t h
 obtain ⟨c, l, rfl, hc⟩ := head_pos hh
 simp only [Bool.and_eq_true, Bool.not_eq_true', decide_eq_false_iff_not] at hc
 show (if blkB c = true then _ else if c.toNat = 45 ∧ (((l ++ r).head?.map (·.toNat)) = some 45) then _ else 0) = 0
 rw [hc.2, if_neg (by simp)]
 by_cases h45 : c.toNat = 45
 ·simp [h45] at h3
  subst h3
  rcases hr with rfl | ⟨r', rfl⟩
  ·rw [if_neg (by simp)]
  ·rw [if_neg (by simp)]
 ·rw [if_neg (by omega)]
theorem blank_told {w : Wd} (h : mayP w = true) {r : List UInt8} (hr : EndW r) : blankS false (toldP w ++ r) = 0 := by
 obtain ⟨k, t, n, a⟩ := w
 unfold mayP at h
 simp only at h
 unfold toldP
 simp only
 have hl : ∀ c, letB c = true → wrdB c = true := fun c hc => by simp [wrdB, hc]
 by_cases h0 : k = 0
 ·subst h0
  simp at h
  simp only [show ¬ ((0 : Int) = 2) by decide, show ¬ ((0 : Int) = 3) by decide, if_false]
  exact blank_let hl (name_head h.1).1 r
 by_cases h1 : k = 1
 ·subst h1
  simp at h
  simp only [show ¬ ((1 : Int) = 2) by decide, show ¬ ((1 : Int) = 3) by decide, if_false]
  exact blank_let hl (key_head h.1).1 r
 by_cases h2 : k = 2
 ·subst h2
  simp only [if_true]
  exact blank_let (fun c hc => (dig_let hc).2) (dec_head _) r
 by_cases h3 : k = 3
 ·subst h3
  simp only [show ¬ ((3 : Int) = 2) by decide, if_false, if_true]
  exact blank_quote t r
 by_cases h4 : k = 4
 ·subst h4
  simp at h
  simp only [show ¬ ((4 : Int) = 2) by decide, show ¬ ((4 : Int) = 3) by decide, if_false]
  exact sign_blank (sign_in h.1) hr
 ·simp [h0, h1, h2, h3, h4] at h
theorem told_pos {w : Wd} (h : mayP w = true) : 1 ≤ (toldP w).length := by
 obtain ⟨k, t, n, a⟩ := w
 unfold mayP at h
 simp only at h
 unfold toldP
 simp only
 by_cases h0 : k = 0
 ·subst h0
  simp at h
  simp only [show ¬ ((0 : Int) = 2) by decide, show ¬ ((0 : Int) = 3) by decide, if_false]
  obtain ⟨c, l, rfl, _⟩ := head_pos (name_head h.1).1
  simp
 by_cases h1 : k = 1
 ·subst h1
  simp at h
  simp only [show ¬ ((1 : Int) = 2) by decide, show ¬ ((1 : Int) = 3) by decide, if_false]
  obtain ⟨c, l, rfl, _⟩ := head_pos (key_head h.1).1
  simp
 by_cases h2 : k = 2
 ·subst h2
  simp only [if_true]
  exact dec_pos _
 by_cases h3 : k = 3
 ·subst h3
  simp only [show ¬ ((3 : Int) = 2) by decide, if_false, if_true]
  have := quote_pos t
  omega
 by_cases h4 : k = 4
 ·subst h4
  simp at h
  simp only [show ¬ ((4 : Int) = 2) by decide, show ¬ ((4 : Int) = 3) by decide, if_false]
  exact (sign_len (sign_in h.1)).2
 ·simp [h0, h1, h2, h3, h4] at h
theorem blank_join : ∀ (l : List Wd), l.all mayP = true → blankS false (joinP l) = 0
 | [], _ => rfl
 | [w], h => by
  have := blank_told (w := w) (by simpa using h) (r := []) (.inl rfl)
  rwa [List.append_nil] at this
 | w :: v :: l, h => by
  simp only [List.all_cons, Bool.and_eq_true] at h
  exact blank_told h.1 (.inr ⟨_, rfl⟩)
theorem lex_join : ∀ (l : List Wd) (a : Nat), l.all mayP = true → (∀ w ∈ l, w.n ≤ 9223372036854775807) → ∃ m, lexP a (joinP l) = .ok m ∧ alikeL m l = true
 | [], a, _, _ => ⟨[], lexP_nil a, rfl⟩
 | [w], a, h, hn => by
  have hw := word_told (w := w) (by simpa using h) (hn w (by simp)) (r := []) (.inl rfl)
  have hp := told_pos (w := w) (by simpa using h)
  rw [List.append_nil] at hw
  refine ⟨[{ { w with a := 0 } with a := a }], ?_, by simp [alikeL, alikeW]⟩
  show lexP a (toldP w) = _
  rw [lexP_word (by intro e; rw [e] at hp; simp at hp) hw hp, List.drop_eq_nil_of_le (Nat.le_add_right _ _), lexP_nil]
  rfl
 | w :: v :: l, a, h, hn => by
  have h' := h
  simp only [List.all_cons, Bool.and_eq_true] at h'
  have hw := word_told (w := w) h'.1 (hn w (by simp)) (r := 32 :: joinP (v :: l)) (.inr ⟨_, rfl⟩)
  have hp := told_pos (w := w) h'.1
  have hb : blankS false (joinP (v :: l)) = 0 := blank_join (v :: l) (by simp [h'.2])
  have hd : (toldP w ++ 32 :: joinP (v :: l)).drop (toldP w).length = 32 :: joinP (v :: l) := List.drop_left
  have hb1 : blankS false (32 :: joinP (v :: l)) = 1 := by
   show (if blkB 32 = true then blankS false (joinP (v :: l)) + 1 else _) = 1
   rw [hb]
   rfl
  obtain ⟨m, hm, ha⟩ := lex_join (v :: l) (a + (toldP w).length + 1) (by simp [h'.2]) (fun x hx => hn x (by simp [List.mem_cons.1 hx]))
  refine ⟨{ { w with a := 0 } with a := a } :: m, ?_, by simp [alikeL, alikeW, ha]⟩
  show lexP a (toldP w ++ 32 :: joinP (v :: l)) = _
  rw [lexP_word (by simp) hw hp, hd, hb1]
  have hd2 : (toldP w ++ 32 :: joinP (v :: l)).drop ((toldP w).length + 1) = joinP (v :: l) := by
   rw [← List.drop_drop, hd]; rfl
  rw [hd2, hm]
  rfl
theorem lexS_join (l : List Wd) (h : l.all mayP = true) (hn : ∀ w ∈ l, w.n ≤ 9223372036854775807) : ∃ m, lexS (joinP l) = .ok m ∧ alikeL m l = true := by
 unfold lexS
 rw [blank_join l h, List.drop_zero]
 exact lex_join l 0 h hn
/-! ### What is read may be -/
theorem esc_len {l : List UInt8} {b : UInt8} {n : Nat} (h : escP l = some (b, n)) : 1 ≤ n ∧ n ≤ l.length := by
 cases l with
 | nil => cases h
 | cons c l =>
  unfold escP at h
  dsimp only at h
  by_cases h1 : c.toNat = 110
  ·rw [if_pos h1] at h; injection h with h; injection h with _ h; subst h; simp
  rw [if_neg h1] at h
  by_cases h2 : c.toNat = 116
  ·rw [if_pos h2] at h; injection h with h; injection h with _ h; subst h; simp
  rw [if_neg h2] at h
  by_cases h3 : c.toNat = 114
  ·rw [if_pos h3] at h; injection h with h; injection h with _ h; subst h; simp
  rw [if_neg h3] at h
  by_cases h4 : c.toNat = 92 ∨ c.toNat = 39 ∨ c.toNat = 34
  ·rw [if_pos h4] at h; injection h with h; injection h with _ h; subst h; simp
  rw [if_neg h4] at h
  match l, h with
  | [], h => cases h
  | [d], h => cases h
  | d :: e :: l, h =>
   simp only at h
   split at h
   ·split at h
    ·injection h with h; injection h with _ h; subst h; simp
    ·cases h
   ·cases h
theorem text_len (q : UInt8) : ∀ (m : Nat) (l x : List UInt8) (n : Nat), l.length ≤ m → textP q l = some (x, n) → x.length + 1 ≤ n ∧ n ≤ l.length
 | _, [], x, n, _, h => by rw [textP] at h; cases h
 | m, c :: l, x, n, hm, h => by
  rw [textP] at h
  by_cases h1 : c = q
  ·rw [if_pos h1] at h; injection h with h; injection h with e1 e2; subst e1 e2; simp
  rw [if_neg h1] at h
  by_cases h2 : c.toNat = 10
  ·rw [if_pos h2] at h; cases h
  rw [if_neg h2] at h
  match m, hm with
  | 0, hm => simp at hm
  | m + 1, hm =>
  have hm' : l.length ≤ m := by simpa using hm
  by_cases h3 : c.toNat = 92
  ·rw [if_pos h3] at h
   cases he : escP l with
   | none => rw [he] at h; cases h
   | some bn =>
    obtain ⟨b, k⟩ := bn
    rw [he] at h
    simp only [Option.map_eq_some_iff] at h
    obtain ⟨⟨y, j⟩, hy, e⟩ := h
    injection e with e1 e2
    subst e1 e2
    have := esc_len he
    have := text_len q m (l.drop k) y j (by rw [List.length_drop]; omega) hy
    rw [List.length_drop] at this
    simp only [List.length_cons]
    omega
  ·rw [if_neg h3] at h
   simp only [Option.map_eq_some_iff] at h
   obtain ⟨⟨y, j⟩, hy, e⟩ := h
   injection e with e1 e2
   subst e1 e2
   have := text_len q m l y j hm' hy
   simp only [List.length_cons]
   omega
theorem run_len : ∀ l : List UInt8, runP l ≤ l.length
 | [] => Nat.le_refl _
 | c :: l => by
  have := run_len l
  show (if wrdB c = true then runP l + 1 else 0) ≤ _
  split
  ·simp only [List.length_cons]; omega
  ·omega
theorem quote_len (l : List UInt8) : (quoteP l).length ≤ 4 * l.length + 2 := by
 have h : ∀ l : List UInt8, (l.flatMap quoB).length ≤ 4 * l.length := fun l => by
  induction l with
  | nil => simp
  | cons c l ih =>
   have h1 : (quoB c).length ≤ 4 := by unfold quoB; (repeat' split) <;> simp
   rw [List.flatMap_cons, List.length_append, List.length_cons]
   omega
 have := h l
 simp only [quoteP, List.length_cons, List.length_append, List.length_nil]
 omega
theorem find_mem {p : List UInt8 → Bool} {l : List (List UInt8)} {x : List UInt8} (h : l.find? p = some x) : x ∈ l ∧ p x = true := ⟨List.mem_of_find?_eq_some h, List.find?_some h⟩
theorem pre_len : ∀ (y a : List UInt8), y.isPrefixOf a = true → y.length ≤ a.length
 | [], a, _ => by simp
 | c :: y, [], h => by cases h
 | c :: y, d :: a, h => by
  have h2 : (c == d && y.isPrefixOf a) = true := h
  simp only [Bool.and_eq_true] at h2
  have := pre_len y a h2.2
  simp only [List.length_cons]
  omega
theorem word_may {l : List UInt8} {w : Wd} {n : Nat} (h : wordP l = some (w, n)) : mayP w = true ∧ w.n ≤ 9223372036854775807 ∧ 1 ≤ n ∧ n ≤ l.length ∧ (toldP w).length ≤ 20 * n := by
 unfold wordP at h
 by_cases hr : 0 < runP l
 ·rw [if_pos hr] at h
  have hl := run_len l
  have htl : (l.take (runP l)).length = runP l := by rw [List.length_take]; omega
  split at h
  ·split at h
   ·rename_i hk
    injection h with h; injection h with e1 e2
    subst e1 e2
    refine ⟨by simp [mayP, hk], by simp, hr, hl, ?_⟩
    show (l.take (runP l)).length ≤ _
    omega
   ·split at h
    ·rename_i hk
     injection h with h; injection h with e1 e2
     subst e1 e2
     refine ⟨by simp [mayP, hk], by simp, hr, hl, ?_⟩
     show (l.take (runP l)).length ≤ _
     omega
    ·cases h
  ·simp only [Option.map_eq_some_iff] at h
   obtain ⟨x, hx, e⟩ := h
   injection e with e1 e2
   subst e1 e2
   have hx9 : x ≤ 9223372036854775807 := by
    unfold numP at hx
    split at hx
    ·injection hx with hx; subst hx; rename_i h9; exact h9.2
    ·cases hx
   refine ⟨by simp [mayP], by simp; omega, hr, hl, ?_⟩
   show (decDigits (x : Int).toNat).length ≤ _
   have := dec_len hx9
   simp only [Int.toNat_natCast]
   omega
 ·rw [if_neg hr] at h
  cases l with
  | nil => cases h
  | cons c r =>
   unfold wordQ at h
   dsimp only at h
   split at h
   ·simp only [Option.map_eq_some_iff] at h
    obtain ⟨⟨y, j⟩, hy, e⟩ := h
    injection e with e1 e2
    subst e1 e2
    have h1 := text_len c _ r y j (Nat.le_refl _) hy
    have h2 := quote_len y
    refine ⟨by simp [mayP], by simp, by omega, by simp only [List.length_cons]; omega, ?_⟩
    show (quoteP y).length ≤ _
    omega
   ·simp only [Option.map_eq_some_iff] at h
    obtain ⟨x, hx, e⟩ := h
    injection e with e1 e2
    subst e1 e2
    obtain ⟨hm, hp⟩ := find_mem hx
    have h1 := sign_len hm
    have h2 := pre_len _ _ hp
    refine ⟨?_, by simp, h1.2, h2, ?_⟩
    ·have : signB x = true := List.any_eq_true.2 ⟨x, hm, by simp⟩
     simp [mayP, this]
    ·show x.length ≤ _
     omega
theorem join_cons (w : Wd) (l : List Wd) : (joinP (w :: l)).length ≤ (toldP w).length + 1 + (joinP l).length := by
 cases l with
 | nil => simp only [joinP, List.length_nil]; omega
 | cons v l => simp only [joinP, List.length_append, List.length_cons]; omega
theorem told_a (w : Wd) (a : Int) : toldP { w with a := a } = toldP w := rfl
theorem may_a (w : Wd) (a : Int) : mayP { w with a := a } = mayP w := rfl
theorem lex_may : ∀ (k : Nat) (l : List UInt8) (a : Nat) (m : List Wd), l.length ≤ k → lexP a l = .ok m → m.all mayP = true ∧ (∀ w ∈ m, w.n ≤ 9223372036854775807) ∧ (joinP m).length ≤ 21 * l.length
 | k, l, a, m, hk, h => by
  by_cases hl : l = []
  ·subst hl
   rw [lexP_nil] at h
   injection h with h
   subst h
   exact ⟨rfl, by simp, by simp [joinP]⟩
  have hp : 0 < l.length := List.length_pos_iff.2 hl
  cases hw : wordP l with
  | none => rw [lexP_none hl hw] at h; cases h
  | some wn =>
   obtain ⟨w, n⟩ := wn
   obtain ⟨h1, h2, h3, h4, h5⟩ := word_may hw
   rw [lexP_word hl hw h3] at h
   match k, hk with
   | 0, hk => omega
   | k + 1, hk =>
   cases hr : lexP (a + n + blankS false (l.drop n)) (l.drop (n + blankS false (l.drop n))) with
   | error e => rw [hr] at h; cases h
   | ok m' =>
    rw [hr] at h
    have h : Except.ok ({ w with a := a } :: m') = Except.ok m := h
    injection h with h
    subst h
    obtain ⟨g1, g2, g3⟩ := lex_may k _ _ m' (by rw [List.length_drop]; omega) hr
    rw [List.length_drop] at g3
    refine ⟨by simp [g1, may_a, h1], fun x hx => ?_, ?_⟩
    ·rcases List.mem_cons.1 hx with rfl | hx
     ·exact h2
     ·exact g2 x hx
    ·have := join_cons { w with a := a } m'
     rw [told_a] at this
     omega
theorem lexS_may {l : List UInt8} {m : List Wd} (h : lexS l = .ok m) : m.all mayP = true ∧ (∀ w ∈ m, w.n ≤ 9223372036854775807) ∧ (joinP m).length ≤ 21 * l.length := by
 obtain ⟨g1, g2, g3⟩ := lex_may _ _ _ m (Nat.le_refl _) h
 rw [List.length_drop] at g3
 exact ⟨g1, g2, by omega⟩
end Go.Proofs.YtkbcnacjaakleaaGreatDoor
namespace Go.Proofs.YtkbcnacjaakleaaGreatDoor
open Go.RowKit
variable {F : Fence} {n : Nat} {P : Program}

def SeqR {α : Type} (F : Fence) (n : Nat) (P : Program) (g : Nat) (lb : Array Value) (encs : α → Array Value) (Kp : World → World → Prop) (R : List α → α → Prop) (G : α → Prop) (S Sp : List α → Prop) (w : World) : Prop :=
 ∀ (l : Nat) (J Jx : List α → World → Prop) (W : World), Below w.heap.size w W → AbidesFrom W.heap.size J → AbidesFrom W.heap.size Jx →
  (∀ pre x W1, J pre W1 → R pre x → YieldAt F (n - 1) P l (encs x) W1 fun e W' =>
   (e = .returned (.bool true) ∧ G x ∧ J (pre ++ [x]) W' ∧ Kp W1 W') ∨ (e = .returned (.bool false) ∧ Jx (pre ++ [x]) W')) →
  J [] W →
  CallsIn F n P g (#[.func (.yield l) #[] #[]] ++ lb) W fun e W' => (∃ v, e = .returned v) ∧ ((∃ xs, S xs ∧ J xs W') ∨ (∃ pre, Sp pre ∧ Jx pre W'))
def ownPostR {α : Type} (B : Nat) (Kp : World → World → Prop) (G : Prop) (I : List α → World → Prop) (Ix : Code → List α → World → Prop) (xs : List α) (W : World) : Exit → Act → World → Prop
 | .normal, _, W' => KeepsFrom B W W' ∧ Kp W W' ∧ G ∧ I xs W'
 | .ret, _, W' => KeepsFrom B W W' ∧ Ix .ret xs W'
 | .exit id, _, W' => KeepsFrom B W W' ∧ Ix (.exit id) xs W'
 | .goto t, _, W' => KeepsFrom B W W' ∧ Ix (.goto t) xs W'
 | .panic _, _, _ => False
 | .outgrown, _, _ => False
theorem wpIn_rangeFunc_R {α : Type} {g : Operand} {ps : Array Tmp} {assign body : Code} {Q : Exit → Act → World → Prop} {a : Act} {w : World}
  (hro : F.round = none) (h1 : 1 ≤ n) {gf : Nat} {lb : Array Value} (hg : a.eval g = .func (.func gf) #[] lb) (hFg : F.fn gf) (eg : ∀ args w, (callFunc gf args).run P w = .ok (.enter gf args) w)
  {encs : α → Array Value} {Kp : World → World → Prop} {R : List α → α → Prop} {G : α → Prop} {S Sp : List α → Prop} {w0 : World} (hseq : SeqR F (n - 1) P gf lb encs Kp R G S Sp w0)
  (hKt : ∀ {A B C : World}, Kp A B → Kp B C → Kp A C) (hKb : ∀ (W : World) (l : Nat) (o o' : Obj), w.heap.size ≤ l → W.heap[l]? = some o → o.isCells = false → o.isWalk = false → Kp W (W.putObj l o')) (hb0 : Below w0.heap.size w0 w) (hps : ∀ x, (encs x).size = ps.size)
  (I : List α → World → Prop) (Ix : Code → List α → World → Prop) (hI : OwnFrom w.heap.size I) (hIx : ∀ c, OwnFrom w.heap.size (Ix c)) (h0 : I [] w)
  (Ax : α → Act → World → Prop) (hAx : ∀ x, OwnFrom w.heap.size (Ax x))
  (hassign : ∀ (l : Nat) (pre : List α) (x : α) (W : World) (K : Act → World → Prop), I pre W → R pre x →
   (∀ a' W', KeepsFrom w.heap.size W W' → Kp W W' → I pre W' → Ax x a' W' → K a' W') →
   assign.wpIn (F.inRound l) (n - 1 - 1) P (Exit.then K (fun _ _ _ => False)) { tmps := (ps.zip (encs x)).foldl (fun t (p, v) => t.setIfInBounds p v) a.tmps, defers := [] } W)
  (hbody : ∀ (l : Nat) (pre : List α) (x : α) (a' : Act) (W : World), I pre W → R pre x → Ax x a' W → body.wpIn (F.inRound l) (n - 1 - 1) P (ownPostR w.heap.size Kp (G x) I Ix (pre ++ [x]) W) a' W)
  (hdone : ∀ (D : Nat) (xs : List α) (W : World), w.heap.size ≤ D → S xs → I xs W → W.heap[D]? = some (.deferred (some [])) → Q .normal { a with defers := { target := .collected D, args := #[] } :: a.defers } W)
  (hstop : ∀ (D : Nat) (c : Code) (pre : List α) (W : World), w.heap.size ≤ D → Sp pre → Ix c pre W → W.heap[D]? = some (.deferred (some [])) → c.wpIn F n P Q { a with defers := { target := .collected D, args := #[] } :: a.defers } W) :
  (Code.rangeFunc g ps assign body).wpIn F n P Q a w := by
 refine wpIn_rangeFunc fun fn hfn => ?_
 rw [hro]
 obtain ⟨rc, hrc⟩ : ∃ rc : LoopState → Option Code → Loop, rc = fun st pe => { state := st, pending := pe, fn, tmps := a.tmps, params := ps, assign, body, defers := w.heap.size } := ⟨_, rfl⟩
 obtain ⟨V, hV⟩ : ∃ V, (w.alloc (.deferred (some []))).alloc (.loop (rc .ready none)) = V := ⟨_, rfl⟩
 have vL : V.heap[w.heap.size + 1]? = some (.loop (rc .ready none)) := by
  rw [← hV]; have h := World.alloc_heap_new (w.alloc (.deferred (some []))) (.loop (rc .ready none)); rwa [World.size_alloc] at h
 have vD : V.heap[w.heap.size]? = some (.deferred (some [])) := by
  rw [← hV]; exact (Below.heap_alloc _ _ _ (by simp)).trans (World.alloc_heap_new w _)
 have vI : I [] V := by rw [← hV]; exact hI.alloc _ (hI.alloc _ h0)
 have vB : Below w0.heap.size w0 V := by
  rw [← hV]; exact hb0.trans ((((Below.refl _ w).alloc (Nat.le_refl _) _).alloc (by simp) _).mono hb0.size)
 have hsz : V.heap.size = w.heap.size + 1 + 1 := by rw [← hV]; simp
 refine ⟨w.heap.size + 1, [{ target := .collected w.heap.size, args := #[] }], V, { target := .fn (.func gf) lb, args := #[.func (.yield (w.heap.size + 1)) #[] #[]] }, V, gf,
  #[.func (.yield (w.heap.size + 1)) #[] #[]] ++ lb, V, ?_, ?_, ?_, ?_, fun _ => h1, ?_⟩
 ·rw [← hV, hrc]; exact run_enterLoop_outer _ _ _ _ _
 ·simp only [resolve, hg]
  simp [go_sem]
 ·intro f' hf'
  simp [Target.leads] at hf'
  subst hf'
  exact hFg
 ·simp [invoke, go_sem, eg]
 have hrow : ∀ {A : World} {row : Option Nat}, (∀ r, row = some r → V.heap.size ≤ r ∧ ∃ o : Obj, A.heap[r]? = some o ∧ o.isWalk = true) → (∀ r, row = some r → w.heap.size ≤ r ∧ ∃ o : Obj, A.heap[r]? = some o ∧ o.isCells = false) :=
  fun hr r e => by
   obtain ⟨hB, o, ho, hw⟩ := hr r e
   exact ⟨by omega, o, ho, Obj.not_cells_of_walk hw⟩
 refine (hseq (w.heap.size + 1)
  (fun pre W => I pre W ∧ W.heap[w.heap.size + 1]? = some (.loop (rc .ready none)) ∧ W.heap[w.heap.size]? = some (.deferred (some [])))
  (fun pre W => ∃ c, Ix c pre W ∧ W.heap[w.heap.size + 1]? = some (.loop (rc .done (some c))) ∧ W.heap[w.heap.size]? = some (.deferred (some [])))
  V vB ?abide ?abidex ?round ⟨vI, vL, vD⟩).mono ?behind
 case abide =>
  exact fun s A B row hs hg' hr => ⟨hI s A B row hs.1 hg' (hrow hr), (grownBy_keeps hg' (fun r e => (hr r e).2) hs.2.1 rfl).trans hs.2.1, (grownBy_keeps hg' (fun r e => (hr r e).2) hs.2.2 rfl).trans hs.2.2⟩
 case abidex =>
  rintro s A B row ⟨c, hc, hl, hk⟩ hg' hr
  exact ⟨c, hIx c s A B row hc hg' (hrow hr), (grownBy_keeps hg' (fun r e => (hr r e).2) hl rfl).trans hl, (grownBy_keeps hg' (fun r e => (hr r e).2) hk rfl).trans hk⟩
 case round =>
  rintro pre x W ⟨hi, hl, hk⟩ hR
  have hy := run_yield (P := P) (args := encs x) hl (by rw [hrc]; exact hps x)
  rw [hrc] at hy
  refine ⟨fn, _, assign, body, hy, roundIn_of_wpIn hfn (hassign _ pre x W _ hi hR fun a' Wa ka kpa hia hxa => ?_)⟩
  have hla : Wa.heap[w.heap.size + 1]? = some (.loop (rc .ready none)) := ka.same _ _ (by omega) hl rfl
  have hka : Wa.heap[w.heap.size]? = some (.deferred (some [])) := ka.same _ _ (Nat.le_refl _) hk rfl
  have hlt : w.heap.size + 1 < Wa.heap.size := (Array.getElem?_eq_some_iff.1 hla).1
  refine ⟨_, run_beginRound hla (by rw [hrc]), ?_⟩
  have hl2 : (Wa.putObj (w.heap.size + 1) (.loop { rc .ready none with state := .busy })).heap[w.heap.size + 1]? = some (.loop { rc .ready none with state := .busy }) := World.putObj_heap_same hlt
  have hk2 : (Wa.putObj (w.heap.size + 1) (.loop { rc .ready none with state := .busy })).heap[w.heap.size]? = some (.deferred (some [])) := (World.putObj_heap_other (by omega)).trans hka
  have hw2 : Kp Wa (Wa.putObj (w.heap.size + 1) (.loop { rc .ready none with state := .busy })) := hKb _ _ _ _ (by omega) hla rfl rfl
  refine wpIn_mono (hbody _ pre x a' _ (hI.putObj _ hia (by omega) hla rfl) hR ((hAx x).putObj _ hxa (by omega) hla rfl)) ?_
  have fin : ∀ (jump : Option Code) (W3 : World), KeepsFrom w.heap.size (Wa.putObj (w.heap.size + 1) (.loop { rc .ready none with state := .busy })) W3 →
    (Instr.endRound (w.heap.size + 1) jump).run P W3 = .ok (.bool jump.isNone) (W3.putObj (w.heap.size + 1) (.loop (rc (if jump.isNone then .ready else .done) jump))) ∧
    W3.heap[w.heap.size + 1]? = some (.loop { rc .ready none with state := .busy }) ∧
    (W3.putObj (w.heap.size + 1) (.loop (rc (if jump.isNone then .ready else .done) jump))).heap[w.heap.size + 1]? = some (.loop (rc (if jump.isNone then .ready else .done) jump)) ∧
    (W3.putObj (w.heap.size + 1) (.loop (rc (if jump.isNone then .ready else .done) jump))).heap[w.heap.size]? = some (.deferred (some [])) := fun jump W3 hk3 => by
   have hl3 := hk3.same _ _ (by omega) hl2 rfl
   have h := run_endRound (P := P) jump hl3
   rw [hrc] at h ⊢
   exact ⟨h, by rw [hrc] at hl3; exact hl3, World.putObj_heap_same (Array.getElem?_eq_some_iff.1 hl3).1, (World.putObj_heap_other (by omega)).trans (hk3.same _ _ (Nat.le_refl _) hk2 rfl)⟩
  rintro e a3 W3 hp
  cases e with
  | normal =>
   obtain ⟨hk3, hkp3, hG, hi3⟩ := hp
   obtain ⟨hr, hl3, hl4, hk4⟩ := fin none W3 hk3
   exact ⟨_, _, hr, .inl ⟨rfl, hG, ⟨hI.putObj _ hi3 (by omega) hl3 rfl, hl4, hk4⟩, hKt (hKt (hKt kpa hw2) hkp3) (hKb _ _ _ _ (by omega) hl3 rfl rfl)⟩⟩
  | ret =>
   obtain ⟨hk3, hi3⟩ := hp
   obtain ⟨hr, hl3, hl4, hk4⟩ := fin (some .ret) W3 hk3
   exact ⟨_, _, hr, .inr ⟨rfl, .ret, (hIx _).putObj _ hi3 (by omega) hl3 rfl, hl4, hk4⟩⟩
  | exit id =>
   obtain ⟨hk3, hi3⟩ := hp
   obtain ⟨hr, hl3, hl4, hk4⟩ := fin (some (.exit id)) W3 hk3
   exact ⟨_, _, hr, .inr ⟨rfl, .exit id, (hIx _).putObj _ hi3 (by omega) hl3 rfl, hl4, hk4⟩⟩
  | goto t =>
   obtain ⟨hk3, hi3⟩ := hp
   obtain ⟨hr, hl3, hl4, hk4⟩ := fin (some (.goto t)) W3 hk3
   exact ⟨_, _, hr, .inr ⟨rfl, .goto t, (hIx _).putObj _ hi3 (by omega) hl3 rfl, hl4, hk4⟩⟩
  | panic ch => exact hp.elim
  | outgrown => exact hp.elim
 case behind =>
  rintro e W2 ⟨⟨v, rfl⟩, (⟨xs, hS, hi, hl, hk⟩ | ⟨pre, hSp, c, hi, hl, hk⟩)⟩
  ·exact ⟨none, _, by have h := run_endLoop (P := P) hl (by rw [hrc]; simp); rw [hrc] at h; exact h, hdone _ xs _ (Nat.le_refl _) hS (hI.putObj _ hi (by omega) hl rfl) ((World.putObj_heap_other (by omega)).trans hk)⟩
  ·exact ⟨some c, _, by have h := run_endLoop (P := P) hl (by rw [hrc]; simp); rw [hrc] at h; exact h, hstop _ c pre _ (Nat.le_refl _) hSp ((hIx c).putObj _ hi (by omega) hl rfl) ((World.putObj_heap_other (by omega)).trans hk)⟩
theorem wpListIn_append_run {w : World} {ops : Array Oper} {rest : List Oper} {o : Oper} {a : Act} {Q : Exit → Act → World → Prop} (hgd : o.guard = none) (s x : Operand) (t : TypeId)
  (ho : o.op = .call { callee := .builtin .append, args := #[s, x], argTypes := #[t, t] }) (v x' v' : Value) (w' : World) (hs : a.eval s = v) (hx : a.eval x = x')
  (hrun : (Builtin.append_ #[t, t] o.type #[v, x']).run P w = .ok v' w') (h : wpListIn F n P ops Q rest (a.put o.dst v') w') : wpListIn F n P ops Q (o :: rest) a w := by
 refine wpListIn_plain hgd fun K hK => ?_
 unfold Oper.wpIn
 refine ⟨?_, ?_⟩
 ·simp [Oper.about, ho, resolve, Target.leads, Sem.run_pure]
 ·rw [Oper.semAt_plain F _ _ (by rw [ho]; intro c hc; cases hc)]
  simp [execOp, ho, resolve, invoke, builtin, hs, hx, hrun, Result.andThen]
  exact hK _ _ h
end Go.Proofs.YtkbcnacjaakleaaGreatDoor
namespace Go.Proofs.YtkbcnacjaakleaaGreatDoor
open Go.RowKit Go.Shelf
attribute [local go_sem] Oper.semAt_some

def keyC : List UInt8 := [97, 110, 100, 32, 98, 114, 101, 97, 107, 32, 100, 111, 32, 101, 108, 115, 101, 32, 101, 108, 115, 101, 105, 102, 32, 101, 110, 100, 32, 102, 97, 108, 115, 101, 32, 102, 111, 114, 32, 102, 117, 110, 99, 116, 105, 111, 110, 32, 105, 102, 32, 105, 110, 32, 108, 111, 99, 97, 108, 32, 110, 105, 108, 32, 110, 111, 116, 32, 111, 114, 32, 114, 101, 116, 117, 114, 110, 32, 116, 104, 101, 110, 32, 116, 114, 117, 101, 32, 119, 104, 105, 108, 101]
def keyS : ByteArray := ⟨keyC.toArray⟩
def keyb (k : Nat) : UInt8 := keyC.getD k 0
def keyW : List ByteArray := keyL.map fun x => ⟨x.toArray⟩
def stK : Nat → Option Nat × Nat
 | 0 => (none, 0)
 | k + 1 => match stK k with
  | (none, j) => if keyb k = 32 then (none, j) else (some k, j)
  | (some a, j) => if keyb k = 32 then (none, j + 1) else (some a, j)
def stZ : Option Nat → Int
 | none => -1
 | some a => a
def stC (k : Nat) : Bool := decide ((keyb k).toNat < 128) && (decide (Lib.isSp (keyb k) = decide (keyb k = 32))) && match stK k with
 | (none, j) => decide (keyb k ≠ 32)
 | (some a, j) => decide (a < k) && (decide (keyb k ≠ 32) || (decide (j < 19) && decide ((keyC.drop a).take (k - a) = keyL.getD j [])))
theorem stC_all : (List.range 93).all stC = true := by decide +kernel
theorem st_end : stK 93 = (some 88, 18) ∧ (keyC.drop 88).take (93 - 88) = keyL.getD 18 [] := by decide +kernel
theorem keyW_len : keyW.length = 19 := rfl
theorem key_get (k : Nat) (h : k < keyS.size) : keyS[k]'h = keyb k := by
 have h' : k < keyC.length := h
 show keyC[k]'h' = _
 unfold keyb
 simp [List.getD, h']
theorem keyW_get (j : Nat) (h : j < 19) : keyW[j]'(by rw [keyW_len]; exact h) = ⟨(keyL.getD j []).toArray⟩ := by
 have h' : j < keyL.length := h
 simp [keyW, List.getD, h']
theorem ext_eq (a k : Nat) (h : k ≤ 93) (l : List UInt8) (e : (keyC.drop a).take (k - a) = l) : keyS.extract a k = ⟨l.toArray⟩ := by
 apply ByteArray.ext
 rw [← e]
 apply Array.ext'
 rw [ByteArray.data_extract]
 simp [keyS, List.drop_take]
theorem st_blank {k a j : Nat} (hk : k < 93) (hs : stK k = (some a, j)) (hb : keyb k = 32) : j < 19 ∧ stK (k + 1) = (none, j + 1) ∧ a < k ∧ ∃ h : j < keyW.length, keyS.extract a k = keyW[j]'h := by
 have h := List.all_eq_true.1 stC_all k (List.mem_range.2 hk)
 unfold stC at h
 rw [hs] at h
 simp only [Bool.and_eq_true, Bool.or_eq_true, decide_eq_true_eq] at h
 obtain ⟨_, h1, h2 | ⟨h2, h3⟩⟩ := h
 ·exact absurd hb h2
 ·refine ⟨h2, ?_, h1, h2, ?_⟩
  ·rw [stK, hs]; simp [hb]
  ·exact (ext_eq a k (by omega) _ h3).trans (keyW_get j h2).symm
theorem st_none {k j : Nat} (hk : k < 93) (hs : stK k = (none, j)) : keyb k ≠ 32 ∧ stK (k + 1) = (some k, j) := by
 have h := List.all_eq_true.1 stC_all k (List.mem_range.2 hk)
 unfold stC at h
 rw [hs] at h
 simp only [Bool.and_eq_true, decide_eq_true_eq] at h
 have h2 := h.2
 exact ⟨h2, by rw [stK, hs]; simp [h2]⟩
theorem st_more {k a j : Nat} (hs : stK k = (some a, j)) (hb : keyb k ≠ 32) : stK (k + 1) = (some a, j) := by rw [stK, hs]; simp [hb]
theorem st_byte {k : Nat} (hk : k < 93) : (keyb k).toNat < 128 ∧ Lib.isSp (keyb k) = decide (keyb k = 32) := by
 have h := List.all_eq_true.1 stC_all k (List.mem_range.2 hk)
 unfold stC at h
 simp only [Bool.and_eq_true, decide_eq_true_eq] at h
 exact h.1
abbrev Asc (w : World) : Prop := Lib.TabIs Tryz.prog w "strings.asciiSpace" .u8 Lib.asciiSpaceTab
theorem ascG : Tryz.prog.globalNamed "strings.asciiSpace" = some 0 := by kernel_rfl
theorem Asc.of_same {w w' : World} (h : Asc w) (he : w'.heap[(0 : Nat)]? = w.heap[(0 : Nat)]?) : Asc w' := by
 unfold Asc Lib.TabIs World.var? at *
 simp only [ascG, Option.bind_some] at *
 rw [he]; exact h
theorem Asc.lt {w : World} (h : Asc w) : (0 : Nat) < w.heap.size := by
 have hc := h.cell ascG 0 (by rw [Lib.asciiSpaceTab_length]; omega)
 rcases Nat.lt_or_ge (0 : Nat) w.heap.size with h1 | h1
 ·exact h1
 ·simp [World.cell?, Array.getElem?_eq_none h1] at hc
theorem Asc.ext {w w' : World} (h : Asc w) (he : Ext w w') : Asc w' := h.of_same (he.block _ h.lt)
theorem Asc.at_ {w : World} (h : Asc w) (c : UInt8) : w.cell? ⟨(0 : Nat), c.toNat, none⟩ = some (.int .u8 (if Lib.isSp c = true then 1 else 0)) := by
 rw [h.cell ascG c.toNat (by rw [Lib.asciiSpaceTab_length]; exact c.toNat_lt), Lib.asciiSpaceTab_at _ c.toNat_lt, u8_of]
def KpB (B b : Nat) (W W' : World) : Prop := Below B W W' ∧ W'.heap[b]? = W.heap[b]?
theorem KpB.t {B b : Nat} {X Y Z : World} (h : KpB B b X Y) (k : KpB B b Y Z) : KpB B b X Z := ⟨h.1.trans k.1, k.2.trans h.2⟩
theorem KpB.b {B b : Nat} {w : World} (hB : B ≤ w.heap.size) (hb : b < w.heap.size) (W : World) (l : Nat) (o o' : Obj) (hl : w.heap.size ≤ l) (h : W.heap[l]? = some o) (h1 : o.isCells = false) (h2 : o.isWalk = false) : KpB B b W (W.putObj l o') :=
 ⟨belowK_b hB W l o o' hl h h1 h2, World.putObj_heap_other (by omega)⟩
theorem seq_in (F : Fence) (n : Nat) (hf : F.fn 208) (hro : F.round = none) (s : ByteArray) (w : World) :
  CallsIn F n Tryz.prog 208 #[.string s] w fun e w' => e = .returned (.func (.func 255) #[] #[.pointer (some ⟨w.heap.size, 0, none⟩)]) ∧ w.alloc (.cells #[.string s] 9) = w' := by
 refine callsIn_of_wp Tryz.func208 rfl hf ?_ hro
 simp only [Tryz.ntmps208, List.size_toArray, List.length_cons, List.length_nil, Nat.reduceAdd, Nat.reduceSub, Array.replicate_succ, Array.replicate_zero, List.push_toArray, List.append_toArray, List.nil_append, List.cons_append]
 gi_wp2
 go_ret
 exact ⟨rfl, rfl⟩
def RKey (pre : List ByteArray) (x : ByteArray) : Prop := ∃ (j : Nat) (h : j < keyW.length), pre = keyW.take j ∧ x = keyW[j]'h
theorem fields_in (F : Fence) (n : Nat) (hf : F.fn 255) (hro : F.round = none) (hn : 1 ≤ n) (B b : Nat) (s : ByteArray) (hs : Hid (s = keyS)) (w : World) (hBw : B ≤ w.heap.size)
  (hB : (0 : Nat) < B) (hb : b < w.heap.size) (hbs : Blk w b 9 #[.string s]) (ha : Asc w) :
  SeqR F n Tryz.prog 255 #[.pointer (some ⟨b, 0, none⟩)] (fun x : ByteArray => #[Value.string x]) (KpB B b) RKey (fun _ => True) (fun xs => xs = keyW) (fun _ => True) w := fun l J Jx W hW hJ hJx hY h0 => by
 have hbW := Lib.hid (show Blk W b 9 #[.string s] from (hW.block b hb).trans hbs)
 have haW := Lib.hid (ha.ext hW)
 clear hbs ha
 refine callsIn_of_wp Tryz.func255 rfl hf ?_ hro
 simp only [Tryz.ntmps255, List.size_toArray, List.length_cons, List.length_nil, Nat.reduceAdd, Nat.reduceSub, Array.replicate_succ, Array.replicate_zero, List.push_toArray, List.append_toArray, List.nil_append, List.cons_append]
 gi_wp2
 gi_loopw [3, 4] (fun v3 v4 wr => ∃ (k : Nat) (z : Int), k ≤ 93 ∧ v4 = .int .i64 (k : Int) ∧ v3 = .int .i64 z ∧ Hid (z = stZ (stK k).1) ∧ Hid (Blk wr b 9 #[.string s]) ∧ Hid (Asc wr) ∧ Hid (J (keyW.take (stK k).2) wr)) (fun _ v4 _ => 93 - (intOf v4).toNat)
 case atStart => exact ⟨0, -1, Nat.zero_le _, rfl, rfl, Lib.hid rfl, hbW, haW, Lib.hid h0⟩
 case round =>
  obtain ⟨k, z, hk, rfl, rfl, H3, HB, HA, HJ⟩ := hrel
  have c0 : wr.cell? ⟨b, 0, none⟩ = some (.string s) := HB.out.cell 0
  have hsz : s.size = 93 := by rw [hs.out]; rfl
  by_cases hkn : k < 93
  ·have hks : k < s.size := by omega
   have d1 : decide ((k : Int) < (s.size : Int)) = true := decide_eq_true (by omega)
   have d1n : decide (k < s.size) = true := decide_eq_true hks
   obtain ⟨c, hc⟩ : ∃ c, s[k]'hks = c := ⟨_, rfl⟩
   have hck : c = keyb k := by have e := hs.out; subst e; exact hc.symm.trans (key_get k _)
   have hby := st_byte hkn
   rw [← hck] at hby
   have hc1 : (c.toNat : Int) < 128 := by have := hby.1; omega
   have hca := HA.out.at_ c
   rw [hby.2] at hca
   have HSP := Lib.hid hsz
   clear hby hsz
   by_cases hb32 : c = 32
   ·have hb3 : keyb k = 32 := by rw [← hck, hb32]
    rw [if_pos (by simp [hb32])] at hca
    have HCK := Lib.hid hck
    have HB3 := Lib.hid hb32
    clear hck hb32
    obtain ⟨a?, j, hst⟩ : ∃ a? j, stK k = (a?, j) := ⟨_, _, rfl⟩
    cases a? with
    | none => exact absurd hb3 (st_none hkn hst).1
    | some a =>
     obtain ⟨hj, hst1, hak, hjl, hex⟩ := st_blank hkn hst hb3
     have hv := H3.out
     rw [hst] at hv
     obtain rfl : z = (a : Int) := hv
     have hJ0 := HJ.out
     rw [hst] at hJ0
     obtain ⟨fn, tmps, assign, body, hy, hR⟩ := hY (keyW.take j) (keyW[j]'hjl) wr hJ0 ⟨j, hjl, rfl, rfl⟩
     have hex' : keyW[j]'hjl = s.extract a k := by rw [← hex, hs.out]
     rw [hex'] at hy
     have d2 : a ≤ k := by omega
     have d3 : k ≤ s.size := by omega
     have HX := Lib.hid hex'
     have HST := Lib.hid hst
     have HST1 := Lib.hid hst1
     have HB4 := Lib.hid hb3
     clear hex hex' hst hst1 hb3 hJ0 H3 HJ
     gi_wp2
     refine hR.mono ?_
     rintro e W3 (⟨rfl, _, hJ3, hk3⟩ | ⟨rfl, hJx3⟩)
     ·have c3 : W3.cell? ⟨b, 0, none⟩ = some (.string s) := by
       have h : Blk W3 b 9 #[.string s] := hk3.2.trans HB.out
       exact h.cell 0
      have HB3' := Lib.hid (show Blk W3 b 9 #[.string s] from hk3.2.trans HB.out)
      have HA3 := Lib.hid (HA.out.of_same (hk3.1.block _ hB))
      have HJ3 := Lib.hid (show J (keyW.take (j + 1)) W3 by rw [List.take_succ_eq_append_getElem hjl]; exact hJ3)
      clear hJ3 hk3
      gi_wp2
      go_roundw
      case rel => exact ⟨k + 1, -1, by omega, by go_num, rfl, Lib.hid (by rw [HST1.out]; rfl), HB3', HA3, by rw [HST1.out]; exact HJ3⟩
      case measure => simp [intOf]; omega
     ·gi_wp2
      refine bodyPost_ret (results_none rfl _ _ _) rfl ?_
      exact ⟨⟨_, rfl⟩, .inr ⟨_, trivial, hJx3⟩⟩
   ·have hb3 : keyb k ≠ 32 := by rw [← hck]; exact hb32
    rw [if_neg (by simp [hb32])] at hca
    have HCK := Lib.hid hck
    clear hck hb32
    obtain ⟨a?, j, hst⟩ : ∃ a? j, stK k = (a?, j) := ⟨_, _, rfl⟩
    cases a? with
    | none =>
     have hst1 := (st_none hkn hst).2
     have hv := H3.out
     rw [hst] at hv
     obtain rfl : z = (-1 : Int) := hv
     have HJ' := Lib.hid (show J (keyW.take (stK (k + 1)).2) wr by have h := HJ.out; rw [hst] at h; rw [hst1]; exact h)
     have HST1 := Lib.hid hst1
     clear hst hst1 hb3 H3 HJ
     gi_wp2
     go_roundw
     case rel => exact ⟨k + 1, k, by omega, by go_num, rfl, Lib.hid (by rw [HST1.out]; rfl), HB, HA, HJ'⟩
     case measure => simp [intOf]; omega
    | some a =>
     have hst1 := st_more hst hb3
     have hv := H3.out
     rw [hst] at hv
     obtain rfl : z = (a : Int) := hv
     have HJ' := Lib.hid (show J (keyW.take (stK (k + 1)).2) wr by have h := HJ.out; rw [hst] at h; rw [hst1]; exact h)
     have HST1 := Lib.hid hst1
     clear hst hst1 hb3 H3 HJ
     gi_wp2
     go_roundw
     case rel => exact ⟨k + 1, a, by omega, by go_num, rfl, Lib.hid (by rw [HST1.out]; rfl), HB, HA, HJ'⟩
     case measure => simp [intOf]; omega
  ·obtain rfl : k = 93 := by omega
   have hv := H3.out
   rw [st_end.1] at hv
   obtain rfl : z = (88 : Int) := hv
   have hJ0 := HJ.out
   rw [st_end.1] at hJ0
   have hjl : 18 < keyW.length := by decide
   obtain ⟨fn, tmps, assign, body, hy, hR⟩ := hY (keyW.take 18) (keyW[18]'hjl) wr hJ0 ⟨18, hjl, rfl, rfl⟩
   have hex' : keyW[18]'hjl = s.extract 88 s.size := by
    rw [hsz, hs.out]
    exact ((ext_eq 88 93 (by omega) _ st_end.2).trans (keyW_get 18 (by omega)).symm).symm
   rw [hex'] at hy
   have d1 : decide ((93 : Int) < (s.size : Int)) = false := decide_eq_false (by omega)
   have d2 : 88 ≤ s.size := by omega
   have HX := Lib.hid hex'
   have HSP := Lib.hid hsz
   clear hex' hJ0 H3 HJ hsz
   gi_wp2
   refine hR.mono ?_
   rintro e W3 (⟨rfl, _, hJ3, hk3⟩ | ⟨rfl, hJx3⟩)
   ·have HJ3 := Lib.hid (show J keyW W3 by
     have e : keyW = keyW.take 18 ++ [keyW[18]'hjl] := by rw [← List.take_succ_eq_append_getElem hjl]; rfl
     rw [e]; exact hJ3)
    clear hJ3 hk3
    gi_wp2
    go_end0
    exact ⟨⟨_, rfl⟩, .inl ⟨_, rfl, HJ3.out⟩⟩
   ·gi_wp2
    go_end0
    exact ⟨⟨_, rfl⟩, .inr ⟨_, trivial, hJx3⟩⟩
end Go.Proofs.YtkbcnacjaakleaaGreatDoor
