/- Replies of each kind: when they may be laid, and their bytes. -/
import Derived.Test.YtopdgmchkoaeeaaDoorRtE
import Derived.Lib.Strings
namespace Go.Proofs.YtopdgmchkoaeeaaDoor
open Go.RowKit
set_option linter.unusedVariables false
set_option linter.unusedSimpArgs false

theorem to_nil {s : ByteArray} : s.toList = [] ↔ s.size = 0 := by
  rw [Lib.toList_data]
  constructor
  · intro h
    have := congrArg List.length h
    simpa using this
  · intro h
    rw [bytes_nil h]
theorem fine0 {d : Nat} {x : Rep} (hk : x.k = 0) : fineR d x = (x.n == 0 && x.s.size == 0 && x.l.length == 0) := by
  obtain ⟨k, n, s, l⟩ := x
  obtain rfl : k = 0 := hk
  simp [fineR, Rep.n, Rep.s, Rep.l]
theorem fine12 {d : Nat} {x : Rep} (hk : x.k = 1 ∨ x.k = 2) : fineR d x = (x.n == 0 && linedB x.s && x.l.length == 0) := by
  obtain ⟨k, n, s, l⟩ := x
  have hk' : k = 1 ∨ k = 2 := hk
  have h0 : ¬ k = 0 := by omega
  simp only [fineR, if_neg h0, if_pos hk', Rep.n, Rep.s, Rep.l]
theorem fine3 {d : Nat} {x : Rep} (hk : x.k = 3) : fineR d x = (x.s.size == 0 && x.l.length == 0) := by
  obtain ⟨k, n, s, l⟩ := x
  obtain rfl : k = 3 := hk
  simp [fineR, Rep.n, Rep.s, Rep.l]
theorem fine4 {d : Nat} {x : Rep} (hk : x.k = 4) : fineR d x = (x.n == 0 && x.l.length == 0) := by
  obtain ⟨k, n, s, l⟩ := x
  obtain rfl : k = 4 := hk
  simp [fineR, Rep.n, Rep.s, Rep.l]
theorem fine5 {d : Nat} {x : Rep} (hk : x.k = 5) : fineR (d + 1) x = (x.n == 0 && x.s.size == 0 && x.l.all (fineR d)) := by
  obtain ⟨k, n, s, l⟩ := x
  obtain rfl : k = 5 := hk
  simp [fineR, Rep.n, Rep.s, Rep.l, fineL_all]
theorem fine50 {x : Rep} (hk : x.k = 5) : fineR 0 x = false := by
  obtain ⟨k, n, s, l⟩ := x
  obtain rfl : k = 5 := hk
  simp [fineR]
theorem fineX {d : Nat} {x : Rep} (h : ¬ x.k = 0 ∧ ¬ x.k = 1 ∧ ¬ x.k = 2 ∧ ¬ x.k = 3 ∧ ¬ x.k = 4 ∧ ¬ x.k = 5) : fineR d x = false := by
  obtain ⟨k, n, s, l⟩ := x
  obtain ⟨h0, h1, h2, h3, h4, h5⟩ := h
  simp only [Rep.k] at h0 h1 h2 h3 h4 h5
  simp [fineR, h0, h1, h2, h3, h4, h5]
theorem lay_unfine {d : Nat} {x : Rep} {T I : Nat} (h : fineR d x = false) : layOk d x T I = false := by simp [layOk, h]
theorem leaf {x : Rep} (h : x.l.length = 0) : txR x = x.s.size ∧ itR x = 0 := by
  obtain ⟨k, n, s, l⟩ := x
  obtain rfl : l = [] := List.eq_nil_of_length_eq_zero h
  simp [txR, txL, itR, itL, Rep.s]
theorem lay_leaf {d : Nat} {x : Rep} {T I : Nat} (h : fineR d x = true) (hl : x.l.length = 0) (hs : x.s.size ≤ T) : layOk d x T I = true := by
  obtain ⟨h1, h2⟩ := leaf hl
  simp [layOk, h, h1, h2, hs]
theorem enc0 {x : Rep} (hk : x.k = 0) : encR x = [36, 45, 49, 13, 10] := by
  obtain ⟨k, n, s, l⟩ := x
  obtain rfl : k = 0 := hk
  simp [encR]
theorem enc1 {x : Rep} (hk : x.k = 1) : encR x = 43 :: lineB x.s.data.toList := by
  obtain ⟨k, n, s, l⟩ := x
  obtain rfl : k = 1 := hk
  simp [encR, Rep.s]
theorem enc2 {x : Rep} (hk : x.k = 2) : encR x = 45 :: lineB x.s.data.toList := by
  obtain ⟨k, n, s, l⟩ := x
  obtain rfl : k = 2 := hk
  simp [encR, Rep.s]
theorem enc3 {x : Rep} (hk : x.k = 3) : encR x = 58 :: lineB (Lib.itoa x.n) := by
  obtain ⟨k, n, s, l⟩ := x
  obtain rfl : k = 3 := hk
  simp [encR, Rep.n]
theorem enc4 {x : Rep} (hk : x.k = 4) : encR x = textB x.s := by
  obtain ⟨k, n, s, l⟩ := x
  obtain rfl : k = 4 := hk
  simp [encR, Rep.s]
theorem enc5 {x : Rep} (hk : x.k = 5) : encR x = 42 :: lineB (Lib.decDigits x.l.length) ++ encL x.l := by
  obtain ⟨k, n, s, l⟩ := x
  obtain rfl : k = 5 := hk
  simp [encR, Rep.l]
/-- A leaf is laid. -/
theorem lay_done {w w' : World} {B tb ib bb fb T I : Nat} {l l' : List UInt8} {d : Nat} {x : Rep} {lv b1 b2 b3 : Value} {e : Ending} (h : LayAt w w' B tb ib bb fb (T - x.s.size) (I - x.l.length) l' x lv b1 b2 b3) (hf : fineR d x = true) (hl : x.l.length = 0) (hs : x.s.size ≤ T)
    (he : e = .returned (.tuple #[])) (hx : l' = l ++ encR x) : LayE w B tb ib bb fb T I l d x e w' := by
  refine LayE.yes (lay_leaf hf hl hs) h.below h.keep he ?_
  obtain ⟨h1, h2⟩ := leaf hl
  rw [h1, h2, ← hx]
  have := h.enc
  rwa [hl] at this
theorem len_of {n : Int} {k : Nat} (h1 : (0 : Int) = n) (h : (n == (k : Int)) = true) : k = 0 := by
  subst h1; simp at h; omega
theorem len_no {n : Int} {k : Nat} (h1 : (0 : Int) = n) (h : (n == (k : Int)) = false) : ¬ k = 0 := by
  subst h1; simp at h; omega
theorem no0 {d : Nat} {x : Rep} (hk : x.k = 0) (h : ¬ (0 : Int) = x.n ∨ ¬ x.s.toList = [] ∨ ((0 : Int) = x.n ∧ (x.n == (x.l.length : Int)) = false)) : fineR d x = false := by
  rw [fine0 hk]
  rcases h with h | h | ⟨h, h'⟩
  · have : (x.n == 0) = false := by simp; omega
    simp [this]
  · rw [to_nil] at h; simp [h]
  · have := len_no h h'; simp at this; simp [this]
theorem yes0 {d : Nat} {x : Rep} (hk : x.k = 0) (h1 : (0 : Int) = x.n) (h2 : x.s.toList = []) (h3 : (x.n == (x.l.length : Int)) = true) : fineR d x = true := by
  rw [fine0 hk, ← h1, len_of h1 h3, to_nil.1 h2]; rfl
/-- Does a text hold a byte? -/
def hasB (s : ByteArray) (c : UInt8) : Bool := s.data.toList.any (· == c)
theorem idx_iff : ∀ (l : List UInt8) (c : UInt8), (0 ≤ Lib.indexByte l c) ↔ (l.any (· == c)) = true
  | [], c => by simp [Lib.indexByte]
  | b :: l, c => by
    have ih := idx_iff l c
    have hge := Lib.indexByte_ge l c
    simp only [Lib.indexByte, List.any_cons, Bool.or_eq_true]
    split
    · rename_i h; simp [h]
    · rename_i h
      split
      · rename_i h2
        have h3 : Lib.indexByte l c = -1 := by simpa using h2
        rw [h3] at ih
        constructor
        · intro h4; omega
        · rintro (h4 | h4)
          · exact absurd h4 h
          · have := ih.2 h4; omega
      · rename_i h2
        have h3 : ¬ Lib.indexByte l c = -1 := by simpa using h2
        constructor
        · intro _; exact .inr (ih.1 (by omega))
        · intro _; omega
theorem idx_has (l : List UInt8) (c : UInt8) : decide (0 ≤ Lib.indexByte l c) = l.any (· == c) := by
  rw [Bool.eq_iff_iff, decide_eq_true_iff]
  exact idx_iff l c
theorem contains_any (s : ByteArray) (c : UInt8) (w : World) : Calls Tryd.prog 56 #[.string s, .string ⟨#[c]⟩] w fun e w' => e = .returned (.bool (hasB s c)) ∧ w = w' := by
  refine (Tryd.strings_Contains_one s c w).mono ?_
  rintro e w' ⟨rfl, rfl⟩
  exact ⟨by rw [idx_has]; rfl, rfl⟩
theorem any_byte (l : List UInt8) (c : UInt8) (n : Nat) (h : c.toNat = n) : (l.any (· == c)) = (l.any fun b => b.toNat == n) := by
  subst h
  congr 1
  funext b
  rw [Bool.eq_iff_iff]
  simp [UInt8.toNat_inj]
theorem lined_has (s : ByteArray) : linedB s = (!hasB s 13 && !hasB s 10) := by
  unfold linedB hasB
  rw [any_byte _ 13 13 rfl, any_byte _ 10 10 rfl]
  induction s.data.toList with
  | nil => rfl
  | cons c l ih =>
    simp only [List.all_cons, List.any_cons, ih]
    cases c.toNat == 13 <;> cases c.toNat == 10 <;> cases l.any (fun b => b.toNat == 13) <;> cases l.any (fun b => b.toNat == 10) <;> rfl
theorem no12 {d : Nat} {x : Rep} (hk : x.k = 1 ∨ x.k = 2) (h : hasB x.s 13 = true ∨ hasB x.s 10 = true) : fineR d x = false := by
  rw [fine12 hk, lined_has]
  rcases h with h | h <;> simp [h]
theorem no12' {d : Nat} {x : Rep} (hk : x.k = 1 ∨ x.k = 2) (h : ¬ (0 : Int) = x.n ∨ ((0 : Int) = x.n ∧ (x.n == (x.l.length : Int)) = false)) : fineR d x = false := by
  rw [fine12 hk]
  rcases h with h | ⟨h, h'⟩
  · have : (x.n == 0) = false := by simp; omega
    simp [this]
  · have := len_no h h'; simp at this; simp [this]
theorem yes12 {d : Nat} {x : Rep} (hk : x.k = 1 ∨ x.k = 2) (h1 : (0 : Int) = x.n) (h2 : hasB x.s 13 = false) (h3 : hasB x.s 10 = false) (h4 : (x.n == (x.l.length : Int)) = true) : fineR d x = true := by
  rw [fine12 hk, lined_has, h2, h3, ← h1, len_of h1 h4]; rfl
theorem no4 {d : Nat} {x : Rep} (hk : x.k = 4) (h : ¬ (0 : Int) = x.n ∨ ((0 : Int) = x.n ∧ (x.n == (x.l.length : Int)) = false)) : fineR d x = false := by
  rw [fine4 hk]
  rcases h with h | ⟨h, h'⟩
  · have : (x.n == 0) = false := by simp; omega
    simp [this]
  · have := len_no h h'; simp at this; simp [this]
theorem yes4 {d : Nat} {x : Rep} (hk : x.k = 4) (h1 : (0 : Int) = x.n) (h4 : (x.n == (x.l.length : Int)) = true) : fineR d x = true := by
  rw [fine4 hk, ← h1, len_of h1 h4]; rfl
theorem no3 {d : Nat} {x : Rep} (hk : x.k = 3) (h : ¬ x.s.toList = [] ∨ ((0 : Int) == (x.l.length : Int)) = false) : fineR d x = false := by
  rw [fine3 hk]
  rcases h with h | h
  · rw [to_nil] at h; simp [h]
  · have : ¬ x.l.length = 0 := by simp at h; omega
    simp at this; simp [this]
theorem len0_of {k : Nat} (h : ((0 : Int) == (k : Int)) = true) : k = 0 := by simp at h; omega
theorem yes3 {d : Nat} {x : Rep} (hk : x.k = 3) (h1 : x.s.toList = []) (h4 : ((0 : Int) == (x.l.length : Int)) = true) : fineR d x = true := by
  rw [fine3 hk, to_nil.1 h1, len0_of h4]; rfl
end Go.Proofs.YtopdgmchkoaeeaaDoor
