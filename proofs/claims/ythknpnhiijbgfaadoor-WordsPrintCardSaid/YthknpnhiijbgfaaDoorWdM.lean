/- Words, the plain law's third part: words that are printed are read as they were; what is read may be. -/
import Derived.Test.YthknpnhiijbgfaaDoorWdL
namespace Go.Proofs.YthknpnhiijbgfaaDoor
open Go.Lib
set_option linter.unusedVariables false
set_option linter.unusedSimpArgs false

/-- What stands behind a word that is printed. -/
def EndW (r : List UInt8) : Prop := r = [] ∨ ∃ r', r = 32 :: r'
theorem run_all : ∀ (t r : List UInt8), t.all wrdB = true → EndW r → runP (t ++ r) = t.length
  | [], r, _, h => by
    rcases h with rfl | ⟨r', rfl⟩
    · rfl
    · rfl
  | c :: t, r, ht, h => by
    simp only [List.all_cons, Bool.and_eq_true] at ht
    show (if wrdB c = true then runP (t ++ r) + 1 else 0) = _
    rw [if_pos ht.1, run_all t r ht.2 h]
    rfl
theorem key_facts : keyL.all (fun x => headB letB x && x.all wrdB) = true := by decide
theorem key_in {t : List UInt8} (h : keyB t = true) : t ∈ keyL := by
  obtain ⟨x, hx, e⟩ := List.any_eq_true.1 h
  rw [← eq_of_beq e]
  exact hx
theorem key_head {t : List UInt8} (h : keyB t = true) : headB letB t = true ∧ t.all wrdB = true := by
  have := List.all_eq_true.1 key_facts t (key_in h)
  simpa [Bool.and_eq_true] using this
theorem name_head {t : List UInt8} (h : nameP t = true) : headB letB t = true ∧ t.all wrdB = true ∧ keyB t = false := by
  unfold nameP at h
  simp only [Bool.and_eq_true, Bool.not_eq_true'] at h
  exact ⟨h.1.1.2, h.2, h.1.2⟩
theorem head_pos {p : UInt8 → Bool} {t : List UInt8} (h : headB p t = true) : ∃ c l, t = c :: l ∧ p c = true := by
  cases t with
  | nil => cases h
  | cons c l => exact ⟨c, l, rfl, h⟩
theorem word_let {t r : List UInt8} (h1 : headB letB t = true) (h2 : t.all wrdB = true) (hr : EndW r) :
    wordP (t ++ r) = if keyB t = true then some (⟨1, t, 0, 0⟩, t.length) else if nameP t = true then some (⟨0, t, 0, 0⟩, t.length) else none := by
  have e := run_all t r h2 hr
  obtain ⟨c, l, rfl, hc⟩ := head_pos h1
  unfold wordP
  rw [e, if_pos (by simp)]
  rw [show headB letB (c :: l ++ r) = true from hc, if_pos rfl, List.take_left]
theorem dig_let {c : UInt8} (h : digB c = true) : letB c = false ∧ wrdB c = true := by
  have h2 : 48 ≤ c.toNat ∧ c.toNat ≤ 57 := by simpa [digB] using h
  have h3 : letB c = false := by simp [letB]; omega
  exact ⟨h3, by simp [wrdB, h]⟩
theorem dec_all : ∀ n : Nat, (decDigits n).all digB = true := fun n => by
  induction n using Nat.strongRecOn with
  | _ n ih =>
    by_cases h : n < 10
    · rw [decDigits_one h]
      have : (UInt8.ofNat (48 + n)).toNat = 48 + n := by rw [u8n]; omega
      simp only [List.all_cons, List.all_nil, digB, this]
      simp; omega
    · rw [decDigits, dif_neg h, List.all_append, ih (n / 10) (by omega)]
      have : (UInt8.ofNat (48 + n % 10)).toNat = 48 + n % 10 := by rw [u8n]; omega
      simp only [List.all_cons, List.all_nil, digB, this]
      simp; omega
theorem val_snoc : ∀ (l : List UInt8) (c : UInt8) (m : Nat), decVal (l ++ [c]) m = 10 * decVal l m + (c.toNat - 48)
  | [], c, m => rfl
  | d :: l, c, m => val_snoc l c _
theorem dec_val (n : Nat) : decVal (decDigits n) 0 = n := by
  induction n using Nat.strongRecOn with
  | _ n ih =>
    by_cases h : n < 10
    · rw [decDigits_one h]
      have : (UInt8.ofNat (48 + n)).toNat = 48 + n := by rw [u8n]; omega
      simp only [decVal, this]
      omega
    · rw [decDigits, dif_neg h, val_snoc, ih (n / 10) (by omega)]
      have : (UInt8.ofNat (48 + n % 10)).toNat = 48 + n % 10 := by rw [u8n]; omega
      rw [this]
      omega
theorem dec_pos (n : Nat) : 1 ≤ (decDigits n).length := by rw [decDigits_length]; exact nDigits_pos n
theorem dec_head (n : Nat) : headB digB (decDigits n) = true := by
  have h1 := dec_all n
  have h2 := dec_pos n
  cases hd : decDigits n with
  | nil => rw [hd] at h2; simp at h2
  | cons c l => rw [hd] at h1; simp only [List.all_cons, Bool.and_eq_true] at h1; exact h1.1
theorem nDigits_le : ∀ (k u : Nat), u < 10 ^ (k + 1) → nDigits u ≤ k + 1
  | 0, u, h => by rw [nDigits_small (by simpa using h)]; omega
  | k + 1, u, h => by
    by_cases hu : u < 10
    · rw [nDigits_small hu]; omega
    · rw [nDigits_big hu]
      have := nDigits_le k (u / 10) (by rw [Nat.pow_succ] at h; omega)
      omega
theorem dec_len {n : Nat} (h : n ≤ 9223372036854775807) : (decDigits n).length ≤ 19 := by
  rw [decDigits_length]
  exact nDigits_le 18 n (by omega)
theorem word_num {n : Nat} (hn : n ≤ 9223372036854775807) {r : List UInt8} (hr : EndW r) : wordP (decDigits n ++ r) = some (⟨2, [], (n : Int), 0⟩, (decDigits n).length) := by
  have ha := dec_all n
  have hw : (decDigits n).all wrdB = true := by
    rw [List.all_eq_true] at ha ⊢
    exact fun c hc => (dig_let (ha c hc)).2
  have e := run_all _ r hw hr
  obtain ⟨c, l, hd, hc⟩ := head_pos (dec_head n)
  have hv : numP (decDigits n) = some n := by unfold numP; rw [dec_val, if_pos ⟨ha, hn⟩]
  unfold wordP
  have hh : headB letB (decDigits n ++ r) = false := by rw [hd]; exact (dig_let hc).1
  rw [e, if_pos (show 0 < (decDigits n).length from dec_pos n), List.take_left, hv, hh]
  rfl
theorem pre_append : ∀ (y a b : List UInt8), y.length ≤ a.length → y.isPrefixOf (a ++ b) = y.isPrefixOf a
  | [], a, b, _ => by cases a <;> cases b <;> rfl
  | c :: y, [], b, h => by simp at h
  | c :: y, d :: a, b, h => by
    show (c == d && y.isPrefixOf (a ++ b)) = (c == d && y.isPrefixOf a)
    rw [pre_append y a b (by simpa using h)]
theorem find_congr {p q : List UInt8 → Bool} : ∀ (l : List (List UInt8)), (∀ x ∈ l, p x = q x) → l.find? p = l.find? q
  | [], _ => rfl
  | x :: l, h => by
    rw [List.find?_cons, List.find?_cons, h x (by simp), find_congr l (fun y hy => h y (by simp [hy]))]
theorem sign_two : signL.all (fun x => decide (x.length ≤ 2) && decide (1 ≤ x.length)) = true := by decide
theorem sign_find0 : signL.all (fun x => decide ((signL.find? fun y => preB y x) = some x)) = true := by decide
theorem sign_find1 : signL.all (fun x => decide ((signL.find? fun y => preB y (x ++ [32])) = some x)) = true := by decide
theorem sign_head : signL.all (fun x => headB (fun c => !wrdB c && !(decide (c.toNat = 39)) && !(decide (c.toNat = 34)) && !blkB c) x) = true := by decide
theorem sign_in {t : List UInt8} (h : signB t = true) : t ∈ signL := by
  obtain ⟨x, hx, e⟩ := List.any_eq_true.1 h
  rw [← eq_of_beq e]
  exact hx
theorem sign_len {x : List UInt8} (h : x ∈ signL) : x.length ≤ 2 ∧ 1 ≤ x.length := by
  have := List.all_eq_true.1 sign_two x h
  simpa using this
theorem find_sign {t : List UInt8} (h : t ∈ signL) {r : List UInt8} (hr : EndW r) : (signL.find? fun y => preB y (t ++ r)) = some t := by
  rcases hr with rfl | ⟨r', rfl⟩
  · rw [List.append_nil]
    simpa using List.all_eq_true.1 sign_find0 t h
  · have h1 : (signL.find? fun y => preB y (t ++ [32])) = some t := by simpa using List.all_eq_true.1 sign_find1 t h
    rw [← h1]
    refine find_congr _ fun y hy => ?_
    rw [show t ++ 32 :: r' = (t ++ [32]) ++ r' by simp]
    refine pre_append _ _ _ ?_
    have := (sign_len hy).1
    have := (sign_len h).2
    simp only [List.length_append, List.length_cons, List.length_nil]
    omega
theorem word_sign {t : List UInt8} (h : signB t = true) {r : List UInt8} (hr : EndW r) : wordP (t ++ r) = some (⟨4, t, 0, 0⟩, t.length) := by
  have hm := sign_in h
  have hf := find_sign hm hr
  have hh := List.all_eq_true.1 sign_head t hm
  obtain ⟨c, l, rfl, hc⟩ := head_pos hh
  simp only [Bool.and_eq_true, Bool.not_eq_true', decide_eq_false_iff_not] at hc
  have hrun : runP (c :: l ++ r) = 0 := by show (if wrdB c = true then _ else 0) = 0; rw [hc.1.1.1]; rfl
  unfold wordP
  rw [hrun, if_neg (by omega)]
  show (if c.toNat = 39 ∨ c.toNat = 34 then _ else (signL.find? fun x => preB x (c :: l ++ r)).map _) = _
  rw [if_neg (by have := hc.1.1.2; have := hc.1.2; omega), hf]
  rfl
theorem word_told {w : Wd} (h : mayP w = true) (hn : w.n ≤ 9223372036854775807) {r : List UInt8} (hr : EndW r) : wordP (toldP w ++ r) = some ({ w with a := 0 }, (toldP w).length) := by
  obtain ⟨k, t, n, a⟩ := w
  unfold mayP at h
  simp only at h hn
  unfold toldP
  simp only
  by_cases h0 : k = 0
  · subst h0
    simp at h
    obtain ⟨hk, rfl⟩ := h
    obtain ⟨g1, g2, g3⟩ := name_head hk
    simp only [show ¬ ((0 : Int) = 2) by decide, show ¬ ((0 : Int) = 3) by decide, if_false]
    rw [word_let g1 g2 hr, g3, hk]
    rfl
  by_cases h1 : k = 1
  · subst h1
    simp at h
    obtain ⟨hk, rfl⟩ := h
    obtain ⟨g1, g2⟩ := key_head hk
    simp only [show ¬ ((1 : Int) = 2) by decide, show ¬ ((1 : Int) = 3) by decide, if_false]
    rw [word_let g1 g2 hr, hk]
    rfl
  by_cases h2 : k = 2
  · subst h2
    simp at h
    obtain ⟨rfl, hk⟩ := h
    simp only [if_true]
    rw [word_num (by omega) hr]
    simp [Int.toNat_of_nonneg hk]
  by_cases h3 : k = 3
  · subst h3
    simp at h
    subst h
    simp only [show ¬ ((3 : Int) = 2) by decide, if_false, if_true]
    exact quote_word t r
  by_cases h4 : k = 4
  · subst h4
    simp at h
    obtain ⟨hk, rfl⟩ := h
    simp only [show ¬ ((4 : Int) = 2) by decide, show ¬ ((4 : Int) = 3) by decide, if_false]
    exact word_sign hk hr
  · simp [h0, h1, h2, h3, h4] at h
theorem blank_wrd {c : UInt8} (h : wrdB c = true) (l : List UInt8) : blankS false (c :: l) = 0 := by
  have h1 : (48 ≤ c.toNat ∧ c.toNat ≤ 57) ∨ (65 ≤ c.toNat) := by
    simp [wrdB, letB, digB] at h
    omega
  have h2 : blkB c = false := by simp [blkB]; omega
  show (if blkB c = true then _ else if c.toNat = 45 ∧ _ then _ else 0) = 0
  rw [h2, if_neg (by simp), if_neg (by omega)]
theorem blank_let {t : List UInt8} {p : UInt8 → Bool} (hp : ∀ c, p c = true → wrdB c = true) (h : headB p t = true) (r : List UInt8) : blankS false (t ++ r) = 0 := by
  obtain ⟨c, l, rfl, hc⟩ := head_pos h
  exact blank_wrd (hp c hc) _
theorem sign_blank {t : List UInt8} (h : t ∈ signL) {r : List UInt8} (hr : EndW r) : blankS false (t ++ r) = 0 := by
  have hh := List.all_eq_true.1 sign_head t h
  have hs : signL.all (fun x => match x with | [] => true | c :: l => !(decide (c.toNat = 45)) || l.isEmpty) = true := by decide
  have h3 := List.all_eq_true.1 hs t h
  obtain ⟨c, l, rfl, hc⟩ := head_pos hh
  simp only [Bool.and_eq_true, Bool.not_eq_true', decide_eq_false_iff_not] at hc
  show (if blkB c = true then _ else if c.toNat = 45 ∧ (((l ++ r).head?.map (·.toNat)) = some 45) then _ else 0) = 0
  rw [hc.2, if_neg (by simp)]
  by_cases h45 : c.toNat = 45
  · simp [h45] at h3
    subst h3
    rcases hr with rfl | ⟨r', rfl⟩
    · rw [if_neg (by simp)]
    · rw [if_neg (by simp)]
  · rw [if_neg (by omega)]
theorem blank_told {w : Wd} (h : mayP w = true) {r : List UInt8} (hr : EndW r) : blankS false (toldP w ++ r) = 0 := by
  obtain ⟨k, t, n, a⟩ := w
  unfold mayP at h
  simp only at h
  unfold toldP
  simp only
  have hl : ∀ c, letB c = true → wrdB c = true := fun c hc => by simp [wrdB, hc]
  by_cases h0 : k = 0
  · subst h0
    simp at h
    simp only [show ¬ ((0 : Int) = 2) by decide, show ¬ ((0 : Int) = 3) by decide, if_false]
    exact blank_let hl (name_head h.1).1 r
  by_cases h1 : k = 1
  · subst h1
    simp at h
    simp only [show ¬ ((1 : Int) = 2) by decide, show ¬ ((1 : Int) = 3) by decide, if_false]
    exact blank_let hl (key_head h.1).1 r
  by_cases h2 : k = 2
  · subst h2
    simp only [if_true]
    exact blank_let (fun c hc => (dig_let hc).2) (dec_head _) r
  by_cases h3 : k = 3
  · subst h3
    simp only [show ¬ ((3 : Int) = 2) by decide, if_false, if_true]
    exact blank_quote t r
  by_cases h4 : k = 4
  · subst h4
    simp at h
    simp only [show ¬ ((4 : Int) = 2) by decide, show ¬ ((4 : Int) = 3) by decide, if_false]
    exact sign_blank (sign_in h.1) hr
  · simp [h0, h1, h2, h3, h4] at h
theorem told_pos {w : Wd} (h : mayP w = true) : 1 ≤ (toldP w).length := by
  obtain ⟨k, t, n, a⟩ := w
  unfold mayP at h
  simp only at h
  unfold toldP
  simp only
  by_cases h0 : k = 0
  · subst h0
    simp at h
    simp only [show ¬ ((0 : Int) = 2) by decide, show ¬ ((0 : Int) = 3) by decide, if_false]
    obtain ⟨c, l, rfl, _⟩ := head_pos (name_head h.1).1
    simp
  by_cases h1 : k = 1
  · subst h1
    simp at h
    simp only [show ¬ ((1 : Int) = 2) by decide, show ¬ ((1 : Int) = 3) by decide, if_false]
    obtain ⟨c, l, rfl, _⟩ := head_pos (key_head h.1).1
    simp
  by_cases h2 : k = 2
  · subst h2
    simp only [if_true]
    exact dec_pos _
  by_cases h3 : k = 3
  · subst h3
    simp only [show ¬ ((3 : Int) = 2) by decide, if_false, if_true]
    have := quote_pos t
    omega
  by_cases h4 : k = 4
  · subst h4
    simp at h
    simp only [show ¬ ((4 : Int) = 2) by decide, show ¬ ((4 : Int) = 3) by decide, if_false]
    exact (sign_len (sign_in h.1)).2
  · simp [h0, h1, h2, h3, h4] at h
theorem blank_join : ∀ (l : List Wd), l.all mayP = true → blankS false (joinP l) = 0
  | [], _ => rfl
  | [w], h => by
    have := blank_told (w := w) (by simpa using h) (r := []) (.inl rfl)
    rwa [List.append_nil] at this
  | w :: v :: l, h => by
    simp only [List.all_cons, Bool.and_eq_true] at h
    exact blank_told h.1 (.inr ⟨_, rfl⟩)
theorem alikeW_a (w : Wd) (a : Int) : alikeW { w with a := a } w = true := by simp [alikeW]
theorem lex_join : ∀ (l : List Wd) (a : Nat), l.all mayP = true → (∀ w ∈ l, w.n ≤ 9223372036854775807) → ∃ m, lexP a (joinP l) = .ok m ∧ alikeL m l = true
  | [], a, _, _ => ⟨[], lexP_nil a, rfl⟩
  | [w], a, h, hn => by
    have hw := word_told (w := w) (by simpa using h) (hn w (by simp)) (r := []) (.inl rfl)
    have hp := told_pos (w := w) (by simpa using h)
    rw [List.append_nil] at hw
    refine ⟨[{ { w with a := 0 } with a := a }], ?_, by simp [alikeL, alikeW]⟩
    show lexP a (toldP w) = _
    rw [lexP_word (by intro e; rw [e] at hp; simp at hp) hw hp, List.drop_eq_nil_of_le (Nat.le_add_right _ _), lexP_nil]
    rfl
  | w :: v :: l, a, h, hn => by
    have h' := h
    simp only [List.all_cons, Bool.and_eq_true] at h'
    have hw := word_told (w := w) h'.1 (hn w (by simp)) (r := 32 :: joinP (v :: l)) (.inr ⟨_, rfl⟩)
    have hp := told_pos (w := w) h'.1
    have hb : blankS false (joinP (v :: l)) = 0 := blank_join (v :: l) (by simp [h'.2])
    have hd : (toldP w ++ 32 :: joinP (v :: l)).drop (toldP w).length = 32 :: joinP (v :: l) := List.drop_left
    have hb1 : blankS false (32 :: joinP (v :: l)) = 1 := by
      show (if blkB 32 = true then blankS false (joinP (v :: l)) + 1 else _) = 1
      rw [hb]
      rfl
    obtain ⟨m, hm, ha⟩ := lex_join (v :: l) (a + (toldP w).length + 1) (by simp [h'.2]) (fun x hx => hn x (by simp [List.mem_cons.1 hx]))
    refine ⟨{ { w with a := 0 } with a := a } :: m, ?_, by simp [alikeL, alikeW, ha]⟩
    show lexP a (toldP w ++ 32 :: joinP (v :: l)) = _
    rw [lexP_word (by simp) hw hp, hd, hb1]
    have hd2 : (toldP w ++ 32 :: joinP (v :: l)).drop ((toldP w).length + 1) = joinP (v :: l) := by
      rw [← List.drop_drop, hd]; rfl
    rw [hd2, hm]
    rfl
theorem lexS_join (l : List Wd) (h : l.all mayP = true) (hn : ∀ w ∈ l, w.n ≤ 9223372036854775807) : ∃ m, lexS (joinP l) = .ok m ∧ alikeL m l = true := by
  unfold lexS
  rw [blank_join l h, List.drop_zero]
  exact lex_join l 0 h hn
/-! ### What is read may be -/
theorem esc_len {l : List UInt8} {b : UInt8} {n : Nat} (h : escP l = some (b, n)) : 1 ≤ n ∧ n ≤ l.length := by
  cases l with
  | nil => cases h
  | cons c l =>
    unfold escP at h
    dsimp only at h
    by_cases h1 : c.toNat = 110
    · rw [if_pos h1] at h; injection h with h; injection h with _ h; subst h; simp
    rw [if_neg h1] at h
    by_cases h2 : c.toNat = 116
    · rw [if_pos h2] at h; injection h with h; injection h with _ h; subst h; simp
    rw [if_neg h2] at h
    by_cases h3 : c.toNat = 114
    · rw [if_pos h3] at h; injection h with h; injection h with _ h; subst h; simp
    rw [if_neg h3] at h
    by_cases h4 : c.toNat = 92 ∨ c.toNat = 39 ∨ c.toNat = 34
    · rw [if_pos h4] at h; injection h with h; injection h with _ h; subst h; simp
    rw [if_neg h4] at h
    match l, h with
    | [], h => cases h
    | [d], h => cases h
    | d :: e :: l, h =>
      simp only at h
      split at h
      · split at h
        · injection h with h; injection h with _ h; subst h; simp
        · cases h
      · cases h
theorem text_len (q : UInt8) : ∀ (m : Nat) (l x : List UInt8) (n : Nat), l.length ≤ m → textP q l = some (x, n) → x.length + 1 ≤ n ∧ n ≤ l.length
  | _, [], x, n, _, h => by rw [textP] at h; cases h
  | m, c :: l, x, n, hm, h => by
    rw [textP] at h
    by_cases h1 : c = q
    · rw [if_pos h1] at h; injection h with h; injection h with e1 e2; subst e1 e2; simp
    rw [if_neg h1] at h
    by_cases h2 : c.toNat = 10
    · rw [if_pos h2] at h; cases h
    rw [if_neg h2] at h
    match m, hm with
    | 0, hm => simp at hm
    | m + 1, hm =>
    have hm' : l.length ≤ m := by simpa using hm
    by_cases h3 : c.toNat = 92
    · rw [if_pos h3] at h
      cases he : escP l with
      | none => rw [he] at h; cases h
      | some bn =>
        obtain ⟨b, k⟩ := bn
        rw [he] at h
        simp only [Option.map_eq_some_iff] at h
        obtain ⟨⟨y, j⟩, hy, e⟩ := h
        injection e with e1 e2
        subst e1 e2
        have := esc_len he
        have := text_len q m (l.drop k) y j (by rw [List.length_drop]; omega) hy
        rw [List.length_drop] at this
        simp only [List.length_cons]
        omega
    · rw [if_neg h3] at h
      simp only [Option.map_eq_some_iff] at h
      obtain ⟨⟨y, j⟩, hy, e⟩ := h
      injection e with e1 e2
      subst e1 e2
      have := text_len q m l y j hm' hy
      simp only [List.length_cons]
      omega
theorem run_len : ∀ l : List UInt8, runP l ≤ l.length
  | [] => Nat.le_refl _
  | c :: l => by
    have := run_len l
    show (if wrdB c = true then runP l + 1 else 0) ≤ _
    split
    · simp only [List.length_cons]; omega
    · omega
theorem quote_len (l : List UInt8) : (quoteP l).length ≤ 4 * l.length + 2 := by
  have h : ∀ l : List UInt8, (l.flatMap quoB).length ≤ 4 * l.length := fun l => by
    induction l with
    | nil => simp
    | cons c l ih =>
      have h1 : (quoB c).length ≤ 4 := by unfold quoB; (repeat' split) <;> simp
      rw [List.flatMap_cons, List.length_append, List.length_cons]
      omega
  have := h l
  simp only [quoteP, List.length_cons, List.length_append, List.length_nil]
  omega
theorem find_mem {p : List UInt8 → Bool} {l : List (List UInt8)} {x : List UInt8} (h : l.find? p = some x) : x ∈ l ∧ p x = true := ⟨List.mem_of_find?_eq_some h, List.find?_some h⟩
theorem pre_len : ∀ (y a : List UInt8), y.isPrefixOf a = true → y.length ≤ a.length
  | [], a, _ => by simp
  | c :: y, [], h => by cases h
  | c :: y, d :: a, h => by
    have h2 : (c == d && y.isPrefixOf a) = true := h
    simp only [Bool.and_eq_true] at h2
    have := pre_len y a h2.2
    simp only [List.length_cons]
    omega
theorem word_may {l : List UInt8} {w : Wd} {n : Nat} (h : wordP l = some (w, n)) : mayP w = true ∧ w.n ≤ 9223372036854775807 ∧ 1 ≤ n ∧ n ≤ l.length ∧ (toldP w).length ≤ 20 * n := by
  unfold wordP at h
  by_cases hr : 0 < runP l
  · rw [if_pos hr] at h
    have hl := run_len l
    have htl : (l.take (runP l)).length = runP l := by rw [List.length_take]; omega
    split at h
    · split at h
      · rename_i hk
        injection h with h; injection h with e1 e2
        subst e1 e2
        refine ⟨by simp [mayP, hk], by simp, hr, hl, ?_⟩
        show (l.take (runP l)).length ≤ _
        omega
      · split at h
        · rename_i hk
          injection h with h; injection h with e1 e2
          subst e1 e2
          refine ⟨by simp [mayP, hk], by simp, hr, hl, ?_⟩
          show (l.take (runP l)).length ≤ _
          omega
        · cases h
    · simp only [Option.map_eq_some_iff] at h
      obtain ⟨x, hx, e⟩ := h
      injection e with e1 e2
      subst e1 e2
      have hx9 : x ≤ 9223372036854775807 := by
        unfold numP at hx
        split at hx
        · injection hx with hx; subst hx; rename_i h9; exact h9.2
        · cases hx
      refine ⟨by simp [mayP], by simp; omega, hr, hl, ?_⟩
      show (decDigits (x : Int).toNat).length ≤ _
      have := dec_len hx9
      simp only [Int.toNat_natCast]
      omega
  · rw [if_neg hr] at h
    cases l with
    | nil => cases h
    | cons c r =>
      unfold wordQ at h
      dsimp only at h
      split at h
      · simp only [Option.map_eq_some_iff] at h
        obtain ⟨⟨y, j⟩, hy, e⟩ := h
        injection e with e1 e2
        subst e1 e2
        have h1 := text_len c _ r y j (Nat.le_refl _) hy
        have h2 := quote_len y
        refine ⟨by simp [mayP], by simp, by omega, by simp only [List.length_cons]; omega, ?_⟩
        show (quoteP y).length ≤ _
        omega
      · simp only [Option.map_eq_some_iff] at h
        obtain ⟨x, hx, e⟩ := h
        injection e with e1 e2
        subst e1 e2
        obtain ⟨hm, hp⟩ := find_mem hx
        have h1 := sign_len hm
        have h2 := pre_len _ _ hp
        refine ⟨?_, by simp, h1.2, h2, ?_⟩
        · have : signB x = true := List.any_eq_true.2 ⟨x, hm, by simp⟩
          simp [mayP, this]
        · show x.length ≤ _
          omega
theorem join_cons (w : Wd) (l : List Wd) : (joinP (w :: l)).length ≤ (toldP w).length + 1 + (joinP l).length := by
  cases l with
  | nil => simp only [joinP, List.length_nil]; omega
  | cons v l => simp only [joinP, List.length_append, List.length_cons]; omega
theorem told_a (w : Wd) (a : Int) : toldP { w with a := a } = toldP w := rfl
theorem may_a (w : Wd) (a : Int) : mayP { w with a := a } = mayP w := rfl
theorem lex_may : ∀ (k : Nat) (l : List UInt8) (a : Nat) (m : List Wd), l.length ≤ k → lexP a l = .ok m → m.all mayP = true ∧ (∀ w ∈ m, w.n ≤ 9223372036854775807) ∧ (joinP m).length ≤ 21 * l.length
  | k, l, a, m, hk, h => by
    by_cases hl : l = []
    · subst hl
      rw [lexP_nil] at h
      injection h with h
      subst h
      exact ⟨rfl, by simp, by simp [joinP]⟩
    have hp : 0 < l.length := List.length_pos_iff.2 hl
    cases hw : wordP l with
    | none => rw [lexP_none hl hw] at h; cases h
    | some wn =>
      obtain ⟨w, n⟩ := wn
      obtain ⟨h1, h2, h3, h4, h5⟩ := word_may hw
      rw [lexP_word hl hw h3] at h
      match k, hk with
      | 0, hk => omega
      | k + 1, hk =>
      cases hr : lexP (a + n + blankS false (l.drop n)) (l.drop (n + blankS false (l.drop n))) with
      | error e => rw [hr] at h; cases h
      | ok m' =>
        rw [hr] at h
        have h : Except.ok ({ w with a := a } :: m') = Except.ok m := h
        injection h with h
        subst h
        obtain ⟨g1, g2, g3⟩ := lex_may k _ _ m' (by rw [List.length_drop]; omega) hr
        rw [List.length_drop] at g3
        refine ⟨by simp [g1, may_a, h1], fun x hx => ?_, ?_⟩
        · rcases List.mem_cons.1 hx with rfl | hx
          · exact h2
          · exact g2 x hx
        · have := join_cons { w with a := a } m'
          rw [told_a] at this
          omega
theorem lexS_may {l : List UInt8} {m : List Wd} (h : lexS l = .ok m) : m.all mayP = true ∧ (∀ w ∈ m, w.n ≤ 9223372036854775807) ∧ (joinP m).length ≤ 21 * l.length := by
  obtain ⟨g1, g2, g3⟩ := lex_may _ _ _ m (Nat.le_refl _) h
  rw [List.length_drop] at g3
  exact ⟨g1, g2, by omega⟩
end Go.Proofs.YthknpnhiijbgfaaDoor
