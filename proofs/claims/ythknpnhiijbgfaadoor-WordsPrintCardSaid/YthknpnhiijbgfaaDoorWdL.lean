/- Words, the plain law's second part: what is printed is read as it was. -/
import Derived.Test.YthknpnhiijbgfaaDoorWdP
namespace Go.Proofs.YthknpnhiijbgfaaDoor
open Go.Lib
set_option linter.unusedVariables false
set_option linter.unusedSimpArgs false

theorem u8_eq {c d : UInt8} (h : c.toNat = d.toNat) : c = d := UInt8.toNat_inj.1 h
theorem u8n (n : Nat) : (UInt8.ofNat n).toNat = n % 256 := rfl
theorem u8_of (c : UInt8) : UInt8.ofNat c.toNat = c := by simp
/-! ### Texts -/
theorem textP_end (q : UInt8) (l : List UInt8) : textP q (q :: l) = some ([], 1) := by rw [textP]; simp
theorem textP_plain {q c : UInt8} (l : List UInt8) (h1 : c ≠ q) (h2 : ¬ c.toNat = 10) (h3 : ¬ c.toNat = 92) : textP q (c :: l) = (textP q l).map fun x => (c :: x.1, x.2 + 1) := by
  rw [textP]; simp [h1, h2, h3]
theorem textP_esc {q : UInt8} {l : List UInt8} {b : UInt8} {n : Nat} (hq : (92 : UInt8) ≠ q) (h : escP l = some (b, n)) : textP q (92 :: l) = (textP q (l.drop n)).map fun x => (b :: x.1, x.2 + (n + 1)) := by
  rw [textP]; simp [hq, h]
theorem esc_dig (n : Nat) (hn : n ≤ 255) (l : List UInt8) : escP (UInt8.ofNat (48 + n / 100) :: UInt8.ofNat (48 + n / 10 % 10) :: UInt8.ofNat (48 + n % 10) :: l) = some (UInt8.ofNat n, 3) := by
  have e1 : (UInt8.ofNat (48 + n / 100)).toNat = 48 + n / 100 := by rw [u8n]; omega
  have e2 : (UInt8.ofNat (48 + n / 10 % 10)).toNat = 48 + n / 10 % 10 := by rw [u8n]; omega
  have e3 : (UInt8.ofNat (48 + n % 10)).toNat = 48 + n % 10 := by rw [u8n]; omega
  have d1 : digB (UInt8.ofNat (48 + n / 100)) = true := by unfold digB; rw [e1]; simp; omega
  have d2 : digB (UInt8.ofNat (48 + n / 10 % 10)) = true := by unfold digB; rw [e2]; simp; omega
  have d3 : digB (UInt8.ofNat (48 + n % 10)) = true := by unfold digB; rw [e3]; simp; omega
  have hv : 100 * (48 + n / 100 - 48) + 10 * (48 + n / 10 % 10 - 48) + (48 + n % 10 - 48) = n := by omega
  unfold escP
  dsimp only
  rw [e1, if_neg (by omega), if_neg (by omega), if_neg (by omega), if_neg (by omega), d1, d2, d3, if_pos ⟨rfl, rfl, rfl⟩, e2, e3, hv, if_pos hn]
theorem text_quo : ∀ (l r : List UInt8), textP 39 (l.flatMap quoB ++ 39 :: r) = some (l, (l.flatMap quoB).length + 1)
  | [], r => textP_end 39 r
  | c :: l, r => by
    have ih := text_quo l r
    rw [List.flatMap_cons, List.append_assoc]
    have h92 : (92 : UInt8) ≠ 39 := by decide
    by_cases h1 : c.toNat = 10
    · obtain rfl : c = 10 := u8_eq h1
      show textP 39 (92 :: 110 :: (l.flatMap quoB ++ 39 :: r)) = _
      rw [textP_esc h92 (b := 10) (n := 1) rfl]
      show Option.map _ (textP 39 (l.flatMap quoB ++ 39 :: r)) = _
      rw [ih]
      rfl
    by_cases h2 : c.toNat = 9
    · obtain rfl : c = 9 := u8_eq h2
      show textP 39 (92 :: 116 :: (l.flatMap quoB ++ 39 :: r)) = _
      rw [textP_esc h92 (b := 9) (n := 1) rfl]
      show Option.map _ (textP 39 (l.flatMap quoB ++ 39 :: r)) = _
      rw [ih]
      rfl
    by_cases h3 : c.toNat = 13
    · obtain rfl : c = 13 := u8_eq h3
      show textP 39 (92 :: 114 :: (l.flatMap quoB ++ 39 :: r)) = _
      rw [textP_esc h92 (b := 13) (n := 1) rfl]
      show Option.map _ (textP 39 (l.flatMap quoB ++ 39 :: r)) = _
      rw [ih]
      rfl
    by_cases h4 : c.toNat = 39 ∨ c.toNat = 92
    · have hq : quoB c = [92, c] := by unfold quoB; rw [if_neg h1, if_neg h2, if_neg h3, if_pos h4]
      have he : escP (c :: (l.flatMap quoB ++ 39 :: r)) = some (c, 1) := by
        unfold escP
        dsimp only
        rw [if_neg (by omega), if_neg (by omega), if_neg (by omega), if_pos (by omega)]
      rw [hq]
      show textP 39 (92 :: c :: (l.flatMap quoB ++ 39 :: r)) = _
      rw [textP_esc h92 he]
      show Option.map _ (textP 39 (l.flatMap quoB ++ 39 :: r)) = _
      rw [ih]
      simp
      try omega
    by_cases h5 : c.toNat < 32 ∨ 126 < c.toNat
    · have hq : quoB c = [92, UInt8.ofNat (48 + c.toNat / 100), UInt8.ofNat (48 + c.toNat / 10 % 10), UInt8.ofNat (48 + c.toNat % 10)] := by unfold quoB; rw [if_neg h1, if_neg h2, if_neg h3, if_neg h4, if_pos h5]
      have hc : c.toNat ≤ 255 := by have := c.toNat_lt; omega
      rw [hq]
      show textP 39 (92 :: UInt8.ofNat (48 + c.toNat / 100) :: UInt8.ofNat (48 + c.toNat / 10 % 10) :: UInt8.ofNat (48 + c.toNat % 10) :: (l.flatMap quoB ++ 39 :: r)) = _
      rw [textP_esc h92 (esc_dig c.toNat hc _)]
      show Option.map _ (textP 39 (l.flatMap quoB ++ 39 :: r)) = _
      rw [ih, u8_of]
      simp
      try omega
    · have hq : quoB c = [c] := by unfold quoB; rw [if_neg h1, if_neg h2, if_neg h3, if_neg h4, if_neg h5]
      rw [hq]
      show textP 39 (c :: (l.flatMap quoB ++ 39 :: r)) = _
      rw [textP_plain _ (fun e => h4 (.inl (by rw [e]; rfl))) h1 (fun e => h4 (.inr e)), ih]
      simp [Nat.add_comm, Nat.add_left_comm]
theorem quote_word (s r : List UInt8) : wordP (quoteP s ++ r) = some (⟨3, s, 0, 0⟩, (quoteP s).length) := by
  have e : quoteP s ++ r = 39 :: (s.flatMap quoB ++ 39 :: r) := by simp [quoteP]
  have hr : runP (39 :: (s.flatMap quoB ++ 39 :: r)) = 0 := by simp [runP, wrdB, letB, digB]
  rw [e]
  unfold wordP
  rw [hr, if_neg (by omega)]
  unfold wordQ
  dsimp only
  rw [if_pos (.inl rfl), text_quo]
  simp [quoteP]
theorem lexP_nil (a : Nat) : lexP a [] = .ok [] := by rw [lexP]; simp
theorem lexP_word {a : Nat} {l : List UInt8} {w : Wd} {n : Nat} (hl : l ≠ []) (h : wordP l = some (w, n)) (hn : 1 ≤ n) :
    lexP a l = (lexP (a + n + blankS false (l.drop n)) (l.drop (n + blankS false (l.drop n)))).map fun x => { w with a := a } :: x := by
  rw [lexP, dif_neg hl, h]
  simp only [show n - 1 + 1 = n by omega]
theorem lexP_none {a : Nat} {l : List UInt8} (hl : l ≠ []) (h : wordP l = none) : lexP a l = .error a := by
  rw [lexP, dif_neg hl, h]
theorem blank_quote (s r : List UInt8) : blankS false (quoteP s ++ r) = 0 := by
  have e : quoteP s ++ r = 39 :: (s.flatMap quoB ++ 39 :: r) := by simp [quoteP]
  rw [e]
  simp [blankS, blkB]
theorem quote_pos (s : List UInt8) : 2 ≤ (quoteP s).length := by simp [quoteP]
theorem lex_quote (s : List UInt8) : lexS (quoteP s) = .ok [⟨3, s, 0, 0⟩] := by
  have hb := blank_quote s []
  rw [List.append_nil] at hb
  have hw := quote_word s []
  rw [List.append_nil] at hw
  have hp := quote_pos s
  unfold lexS
  rw [hb, List.drop_zero, lexP_word (by intro e; rw [e] at hp; simp at hp) hw (by omega)]
  have e1 : (quoteP s).drop (quoteP s).length = [] := List.drop_length
  rw [e1]
  have e2 : (quoteP s).drop ((quoteP s).length + blankS false []) = [] := List.drop_eq_nil_of_le (by omega)
  rw [e2, lexP_nil]
  rfl
end Go.Proofs.YthknpnhiijbgfaaDoor
