/- Replies on what is left of the bytes. Replies: their bytes; what is read is what was laid, and the other way round. -/
import Derived.Test.YtopdgmchkoaeeaaDoorRspP
namespace Go.Proofs.YtopdgmchkoaeeaaDoor
open Go.Lib
set_option linter.unusedVariables false
set_option linter.unusedSimpArgs false

def plainR : Nat → List UInt8 → Except Int ((List UInt8 × Nat) × List UInt8)
  | _, [] => .error 130
  | t, c :: r =>
    if c.toNat = 13 then .ok (([], t), r)
    else if c.toNat = 10 ∨ t = 0 then .error 131
    else (plainR (t - 1) r).map fun x => ((c :: x.1.1, x.1.2), x.2)
def lineR (t : Nat) (b : List UInt8) : Except Int ((ByteArray × Nat) × List UInt8) :=
  match plainR t b with
  | .error e => .error e
  | .ok (x, q) => (skipR [10] q).map fun r => ((⟨x.1.toArray⟩, x.2), r)
def signR : List UInt8 → Except Int (Int × List UInt8)
  | [] => .error 130
  | c :: r =>
    if c.toNat = 45 then (numR 1 9223372036854775808 0 0 r).map fun x => (-(x.1 : Int), x.2)
    else (numR 0 9223372036854775807 0 0 (c :: r)).map fun x => ((x.1 : Int), x.2)
abbrev RepR (α : Type) : Type := Except Int ((α × Nat × Nat) × List UInt8)
def repsR (f : Nat → Nat → List UInt8 → RepR Rep) : Nat → Nat → Nat → List UInt8 → RepR (List Rep)
  | 0, t, i, b => .ok (([], t, i), b)
  | k + 1, t, i, b =>
    match f t i b with
    | .error e => .error e
    | .ok (x, b') => (repsR f k x.2.1 x.2.2 b').map fun y => ((x.1 :: y.1.1, y.1.2), y.2)
def listR (f : Nat → Nat → List UInt8 → RepR Rep) (t i : Nat) (b : List UInt8) : RepR Rep :=
  match numR 0 i 0 0 b with
  | .error e => .error e
  | .ok (n, q) => (repsR f n t (i - n) q).map fun x => ((.mk 5 0 ⟨#[]⟩ x.1.1, x.1.2), x.2)
def isDash : List UInt8 → Bool
  | [] => false
  | c :: _ => c.toNat == 45
def dollarR (t i : Nat) (b : List UInt8) : RepR Rep :=
  if isDash b = true then (skipR [45, 49, 13, 10] b).map fun q => ((.mk 0 0 ⟨#[]⟩ [], t, i), q)
  else (bulkR t b).map fun x => ((.mk 4 0 x.1 [], t - x.1.size, i), x.2)
def kindR (sub : Option (Nat → Nat → List UInt8 → RepR Rep)) (c t i : Nat) (b : List UInt8) : RepR Rep :=
  if c = 43 then (lineR t b).map fun x => ((.mk 1 0 x.1.1 [], x.1.2, i), x.2)
  else if c = 45 then (lineR t b).map fun x => ((.mk 2 0 x.1.1 [], x.1.2, i), x.2)
  else if c = 58 then (signR b).map fun x => ((.mk 3 x.1 ⟨#[]⟩ [], t, i), x.2)
  else if c = 36 then dollarR t i b
  else if c = 42 then (match sub with | none => .error 131 | some f => listR f t i b)
  else .error 131
def replyR : Nat → Nat → Nat → List UInt8 → RepR Rep
  | _, _, _, [] => .error 130
  | 0, t, i, c :: b => kindR none c.toNat t i b
  | d + 1, t, i, c :: b => kindR (some (replyR d)) c.toNat t i b
def decodeR (b : List UInt8) : RepR Rep := replyR 100 1048576 65536 b

/-! ### The same as by places -/
def BrS {α : Type} (l : List UInt8) : Except Int (α × St) → RepR α → Prop
  | .ok x, .ok y => x.1 = y.1.1 ∧ x.2.texts = y.1.2.1 ∧ x.2.items = y.1.2.2 ∧ x.2.p ≤ l.length ∧ y.2 = l.drop x.2.p
  | .error e, .error f => e = f
  | _, _ => False
theorem Br.toS {α β : Type} {l : List UInt8} {x : Except Int (α × Nat)} {y : Except Int (α × List UInt8)} (h : Br l x y) (k : α → β) (t i : α → Nat) :
    BrS l (x.map fun q => (k q.1, ⟨q.2, t q.1, i q.1⟩)) (y.map fun q => ((k q.1, t q.1, i q.1), q.2)) := by
  cases x <;> cases y <;> first | exact False.elim h | exact h | skip
  rename_i x y
  obtain ⟨x1, x2⟩ := x
  obtain ⟨y1, y2⟩ := y
  obtain ⟨h1, h2, h3⟩ := h
  simp only at h1 h2 h3
  subst h1
  exact ⟨rfl, rfl, rfl, h2, h3⟩
/-- Where a line's text ends; the text. -/
def BrP (l : List UInt8) (p : Nat) : Except Int (Nat × Nat) → Except Int ((List UInt8 × Nat) × List UInt8) → Prop
  | .ok x, .ok y => p ≤ x.1 ∧ x.1 < l.length ∧ y.1.1 = (l.drop p).take (x.1 - p) ∧ x.2 = y.1.2 ∧ y.2 = l.drop (x.1 + 1)
  | .error e, .error f => e = f
  | _, _ => False
theorem plain_br (l : List UInt8) : ∀ (k t p : Nat), p ≤ l.length → l.length - p ≤ k → BrP l p (plainS l k t p) (plainR t (l.drop p))
  | 0, t, p, hp, hk => by
    rw [drop_end (by omega)]
    simp only [plainS, plainR]; rfl
  | k + 1, t, p, hp, hk => by
    by_cases h : p < l.length
    · rw [drop_at h]
      simp only [plainS, plainR, dif_pos h]
      by_cases h1 : l[p].toNat = 13
      · rw [if_pos h1, if_pos h1]
        exact ⟨Nat.le_refl _, h, by simp, rfl, rfl⟩
      · rw [if_neg h1, if_neg h1]
        by_cases h2 : l[p].toNat = 10 ∨ t = 0
        · rw [if_pos h2, if_pos h2]; rfl
        · rw [if_neg h2, if_neg h2]
          have h := plain_br l k (t - 1) (p + 1) (by omega) (by omega)
          revert h
          cases plainS l k (t - 1) (p + 1) <;> cases plainR (t - 1) (l.drop (p + 1)) <;> intro h <;> first | exact False.elim h | exact h | skip
          rename_i hp' x y
          obtain ⟨h1, h2, h3, h4, h5⟩ := h
          refine ⟨by omega, h2, ?_, h4, h5⟩
          show l[p] :: y.1.1 = _
          rw [h3, drop_at hp', show x.1 - p = (x.1 - (p + 1)) + 1 by omega, List.take_succ_cons]
    · rw [drop_end h]
      simp only [plainS, plainR, dif_neg h]
      rfl
theorem line_br (l : List UInt8) (t p : Nat) (hp : p ≤ l.length) : BrS l ((lineS' l t p).map fun x => (x.1, ⟨x.2.1, x.2.2, 0⟩)) ((lineR t (l.drop p)).map fun x => ((x.1.1, x.1.2, 0), x.2)) := by
  unfold lineS' lineR
  have h := plain_br l (l.length - p) t p hp (Nat.le_refl _)
  revert h
  cases plainS l (l.length - p) t p <;> cases plainR t (l.drop p) <;> intro h <;> first | exact False.elim h | exact h | skip
  rename_i x y
  obtain ⟨x1, x2⟩ := x
  obtain ⟨⟨y1, y2⟩, y3⟩ := y
  obtain ⟨h1, h2, h3, h4, h5⟩ := h
  simp only at h1 h2 h3 h4 h5
  subst h3 h4 h5
  simp only
  have h := skip_br l [10] (x1 + 1) (by omega)
  revert h
  cases skipS l [10] (x1 + 1) <;> cases skipR [10] (l.drop (x1 + 1)) <;> intro h <;> first | exact False.elim h | exact h | skip
  exact ⟨rfl, rfl, rfl, h.1, h.2⟩
theorem BrS.line {l : List UInt8} {x : Except Int (ByteArray × Nat × Nat)} {y : Except Int ((ByteArray × Nat) × List UInt8)} (h : BrS l (x.map fun x => (x.1, ⟨x.2.1, x.2.2, 0⟩)) (y.map fun x => ((x.1.1, x.1.2, 0), x.2))) (k : Int) (i : Nat) :
    BrS l (x.map fun x => (Rep.mk k 0 x.1 [], ⟨x.2.1, x.2.2, i⟩)) (y.map fun x => ((Rep.mk k 0 x.1.1 [], x.1.2, i), x.2)) := by
  cases x <;> cases y <;> first | exact False.elim h | exact h | skip
  obtain ⟨h1, h2, h3, h4, h5⟩ := h
  simp only at h1 h2 h3 h4 h5
  exact ⟨by simp only [h1], h2, rfl, h4, h5⟩
theorem sign_br (l : List UInt8) (p : Nat) (hp : p ≤ l.length) : Br l (signS l p) (signR (l.drop p)) := by
  unfold signS
  by_cases h : p < l.length
  · rw [drop_at h, dif_pos h]
    simp only [signR]
    by_cases h1 : l[p].toNat = 45
    · rw [if_pos h1, if_pos h1]
      have h := num_br l 1 9223372036854775808 (l.length - (p + 1)) 0 0 (p + 1) h (Nat.le_refl _)
      revert h
      cases numS l 1 9223372036854775808 (l.length - (p + 1)) 0 0 (p + 1) <;> cases numR 1 9223372036854775808 0 0 (l.drop (p + 1)) <;> intro h <;> first | exact False.elim h | exact h | skip
      exact ⟨by simp only [h.1], h.2.1, h.2.2⟩
    · rw [if_neg h1, if_neg h1, ← drop_at h]
      have h := num_br l 0 9223372036854775807 (l.length - p) 0 0 p hp (Nat.le_refl _)
      revert h
      cases numS l 0 9223372036854775807 (l.length - p) 0 0 p <;> cases numR 0 9223372036854775807 0 0 (l.drop p) <;> intro h <;> first | exact False.elim h | exact h | skip
      exact ⟨by simp only [h.1], h.2.1, h.2.2⟩
  · rw [drop_end h, dif_neg h]; rfl
theorem reps_br (l : List UInt8) (f : St → Except Int (Rep × St)) (g : Nat → Nat → List UInt8 → RepR Rep) (hf : ∀ s : St, s.p ≤ l.length → BrS l (f s) (g s.texts s.items (l.drop s.p))) :
    ∀ (k : Nat) (s : St), s.p ≤ l.length → BrS l (repsS f k s) (repsR g k s.texts s.items (l.drop s.p))
  | 0, s, hp => ⟨rfl, rfl, rfl, hp, rfl⟩
  | k + 1, s, hp => by
    simp only [repsS, repsR]
    have h := hf s hp
    revert h
    cases f s <;> cases g s.texts s.items (l.drop s.p) <;> intro h <;> first | exact False.elim h | exact h | skip
    rename_i x y
    obtain ⟨x1, x2⟩ := x
    obtain ⟨⟨y1, y2, y3⟩, y4⟩ := y
    obtain ⟨h1, h2, h3, h4, h5⟩ := h
    simp only at h1 h2 h3 h4 h5
    subst h1 h2 h3 h5
    simp only
    have h := reps_br l f g hf k x2 h4
    revert h
    cases repsS f k x2 <;> cases repsR g k x2.texts x2.items (l.drop x2.p) <;> intro h <;> first | exact False.elim h | exact h | skip
    obtain ⟨h1, h2, h3, h4, h5⟩ := h
    exact ⟨by simp only [h1], h2, h3, h4, h5⟩
theorem list_br (l : List UInt8) (f : St → Except Int (Rep × St)) (g : Nat → Nat → List UInt8 → RepR Rep) (hf : ∀ s : St, s.p ≤ l.length → BrS l (f s) (g s.texts s.items (l.drop s.p))) (s : St) (hp : s.p ≤ l.length) :
    BrS l (listS l f s) (listR g s.texts s.items (l.drop s.p)) := by
  unfold listS listR
  have h := num_br l 0 s.items (l.length - s.p) 0 0 s.p hp (Nat.le_refl _)
  revert h
  cases numS l 0 s.items (l.length - s.p) 0 0 s.p <;> cases numR 0 s.items 0 0 (l.drop s.p) <;> intro h <;> first | exact False.elim h | exact h | skip
  rename_i x y
  obtain ⟨x1, x2⟩ := x
  obtain ⟨y1, y2⟩ := y
  obtain ⟨h1, h2, h3⟩ := h
  simp only at h1 h2 h3
  subst h1 h3
  have h := reps_br l f g hf x1 ⟨x2, s.texts, s.items - x1⟩ h2
  simp only at h ⊢
  revert h
  cases repsS f x1 ⟨x2, s.texts, s.items - x1⟩ <;> cases repsR g x1 s.texts (s.items - x1) (l.drop x2) <;> intro h <;> first | exact False.elim h | exact h | skip
  obtain ⟨h1, h2, h3, h4, h5⟩ := h
  exact ⟨by simp only [h1], h2, h3, h4, h5⟩
theorem dollar_br (l : List UInt8) (s : St) (hp : s.p ≤ l.length) : BrS l (dollarS l s) (dollarR s.texts s.items (l.drop s.p)) := by
  unfold dollarS dollarR
  by_cases h : s.p < l.length ∧ l[s.p]!.toNat = 45
  · have hd : isDash (l.drop s.p) = true := by
      rw [drop_at h.1]; have := h.2; rw [getElem!_pos l s.p h.1] at this; simp [isDash, this]
    rw [dif_pos h, if_pos hd]
    have hk := skip_br l [45, 49, 13, 10] s.p hp
    revert hk
    cases skipS l [45, 49, 13, 10] s.p <;> cases skipR [45, 49, 13, 10] (l.drop s.p) <;> intro h <;> first | exact False.elim h | exact h | skip
    exact ⟨rfl, rfl, rfl, h.1, h.2⟩
  · have hd : ¬ isDash (l.drop s.p) = true := by
      by_cases hlt : s.p < l.length
      · rw [drop_at hlt]
        have h2 : ¬ l[s.p]!.toNat = 45 := fun e => h ⟨hlt, e⟩
        rw [getElem!_pos l s.p hlt] at h2
        simpa [isDash] using h2
      · rw [drop_end hlt]; simp [isDash]
    rw [dif_neg h, if_neg hd]
    exact (bulk_br l s.texts s.p hp).toS (fun x => Rep.mk 4 0 x []) (fun x => s.texts - x.size) (fun _ => s.items)
theorem kind_br (l : List UInt8) (sub : Option (St → Except Int (Rep × St))) (sub' : Option (Nat → Nat → List UInt8 → RepR Rep)) (hs : match sub, sub' with | none, none => True | some f, some g => ∀ s : St, s.p ≤ l.length → BrS l (f s) (g s.texts s.items (l.drop s.p)) | _, _ => False)
    (c : Nat) (s : St) (hp : s.p ≤ l.length) : BrS l (kindS l sub c s) (kindR sub' c s.texts s.items (l.drop s.p)) := by
  unfold kindS kindR
  by_cases h1 : c = 43
  · rw [if_pos h1, if_pos h1]; exact (line_br l s.texts s.p hp).line 1 s.items
  · rw [if_neg h1, if_neg h1]
    by_cases h2 : c = 45
    · rw [if_pos h2, if_pos h2]; exact (line_br l s.texts s.p hp).line 2 s.items
    · rw [if_neg h2, if_neg h2]
      by_cases h3 : c = 58
      · rw [if_pos h3, if_pos h3]; exact (sign_br l s.p hp).toS (fun x => Rep.mk 3 x ⟨#[]⟩ []) (fun _ => s.texts) (fun _ => s.items)
      · rw [if_neg h3, if_neg h3]
        by_cases h4 : c = 36
        · rw [if_pos h4, if_pos h4]; exact dollar_br l s hp
        · rw [if_neg h4, if_neg h4]
          by_cases h5 : c = 42
          · rw [if_pos h5, if_pos h5]
            cases sub <;> cases sub' <;> first | exact False.elim hs | rfl | exact list_br l _ _ hs s hp
          · rw [if_neg h5, if_neg h5]; rfl
theorem reply_br (l : List UInt8) : ∀ (d : Nat) (s : St), s.p ≤ l.length → BrS l (replyS l d s) (replyR d s.texts s.items (l.drop s.p))
  | 0, s, hp => by
    by_cases h : s.p < l.length
    · rw [drop_at h]
      simp only [replyS, replyR, dif_pos h]
      exact kind_br l none none trivial _ ⟨s.p + 1, s.texts, s.items⟩ h
    · rw [drop_end h]
      simp only [replyS, replyR, dif_neg h]; rfl
  | d + 1, s, hp => by
    by_cases h : s.p < l.length
    · rw [drop_at h]
      simp only [replyS, replyR, dif_pos h]
      exact kind_br l (some _) (some _) (fun s hs => reply_br l d s hs) _ ⟨s.p + 1, s.texts, s.items⟩ h
    · rw [drop_end h]
      simp only [replyS, replyR, dif_neg h]; rfl
theorem decode_br (l : List UInt8) : BrS l (decodeS l) (decodeR l) := by
  have := reply_br l 100 ⟨0, 1048576, 65536⟩ (Nat.zero_le _)
  rwa [List.drop_zero] at this

/-! ### It goes on -/
theorem plain_goes : ∀ (b : List UInt8) (t : Nat) (m : List UInt8), (∀ x r, plainR t b = .ok (x, r) → plainR t (b ++ m) = .ok (x, r ++ m)) ∧ (∀ e, plainR t b = .error e → e = 130 ∨ (e = 131 ∧ plainR t (b ++ m) = .error 131))
  | [], t, m => ⟨fun x r h => (by simp only [plainR] at h; cases h), fun e h => (by simp only [plainR] at h; cases h; exact .inl rfl)⟩
  | c :: b, t, m => by
    simp only [plainR, List.cons_append]
    by_cases h1 : c.toNat = 13
    · simp only [if_pos h1]
      exact ⟨fun x r h => (by cases h; rfl), fun e h => (by cases h)⟩
    · simp only [if_neg h1]
      by_cases h2 : c.toNat = 10 ∨ t = 0
      · simp only [if_pos h2]; exact ⟨fun x r h => (by cases h), fun e h => (by cases h; exact .inr ⟨rfl, trivial⟩)⟩
      · simp only [if_neg h2]
        have h := plain_goes b (t - 1) m
        constructor
        · intro x r hx
          cases hb : plainR (t - 1) b with
          | error e => rw [hb] at hx; cases hx
          | ok q => rw [hb] at hx; cases hx; rw [h.1 _ _ hb]; rfl
        · intro e hx
          cases hb : plainR (t - 1) b with
          | ok q => rw [hb] at hx; cases hx
          | error e' =>
            rw [hb] at hx; cases hx
            rcases h.2 _ hb with h1 | ⟨h1, h2⟩
            · exact .inl h1
            · exact .inr ⟨h1, by rw [h2]; rfl⟩
theorem line_goes (t : Nat) : Goes (lineR t) :=
  (Goes.then (f := plainR t) (g := fun x q => (skipR [10] q).map fun r => (((⟨x.1.toArray⟩ : ByteArray), x.2), r)) (fun b m => plain_goes b t m) fun x => fun b m => Goes.map0 (skip_goes [10]) _ b m).of_eq fun b => by
    unfold lineR; cases plainR t b <;> rfl
theorem num_goes' (a b : Nat) : Goes (numR a b 0 0) := fun l m => num_goes a b l 0 0 m
theorem sign_goes : Goes signR
  | [], m => ⟨fun x r h => (by simp only [signR] at h; cases h), fun e h => (by simp only [signR] at h; cases h; exact .inl rfl)⟩
  | c :: b, m => by
    simp only [signR, List.cons_append]
    by_cases h1 : c.toNat = 45
    · simp only [if_pos h1]
      exact (num_goes' 1 9223372036854775808).map (fun x => -(x : Int)) b m
    · simp only [if_neg h1]
      exact (num_goes' 0 9223372036854775807).map (fun x => (x : Int)) (c :: b) m
theorem reps_goes (f : Nat → Nat → List UInt8 → RepR Rep) (hf : ∀ t i, Goes (f t i)) : ∀ (k t i : Nat), Goes (repsR f k t i)
  | 0, t, i => fun b m => ⟨fun x r h => (by simp only [repsR] at h ⊢; cases h; rfl), fun e h => (by simp only [repsR] at h; cases h)⟩
  | k + 1, t, i => (Goes.then (hf t i) (g := fun x q => (repsR f k x.2.1 x.2.2 q).map fun y => ((x.1 :: y.1.1, y.1.2), y.2)) fun x => (reps_goes f hf k x.2.1 x.2.2).map (fun y => (x.1 :: y.1, y.2))).of_eq fun b => by
    simp only [repsR]
    cases f t i b <;> rfl
theorem list_goes (f : Nat → Nat → List UInt8 → RepR Rep) (hf : ∀ t i, Goes (f t i)) (t i : Nat) : Goes (listR f t i) :=
  (Goes.then (num_goes' 0 i) (g := fun n q => (repsR f n t (i - n) q).map fun x => ((Rep.mk 5 0 ⟨#[]⟩ x.1.1, x.1.2), x.2)) fun n => (reps_goes f hf n t (i - n)).map (fun x => (Rep.mk 5 0 ⟨#[]⟩ x.1, x.2))).of_eq fun b => by
    unfold listR; cases numR 0 i 0 0 b <;> rfl
theorem dollar_goes (t i : Nat) : Goes (dollarR t i)
  | [], m => by
    refine ⟨fun x r h => ?_, fun e h => ?_⟩
    · simp [dollarR, isDash, bulkR, numR, Except.map] at h
    · simp [dollarR, isDash, bulkR, numR, Except.map] at h; exact .inl h.symm
  | c :: b, m => by
    unfold dollarR
    have e : isDash (c :: b ++ m) = isDash (c :: b) := rfl
    rw [e]
    by_cases h : isDash (c :: b) = true
    · simp only [if_pos h]
      exact Goes.map0 (skip_goes [45, 49, 13, 10]) _ (c :: b) m
    · simp only [if_neg h]
      exact (bulk_goes t).map (fun x => (Rep.mk 4 0 x [], t - x.size, i)) (c :: b) m
theorem kind_goes (sub : Option (Nat → Nat → List UInt8 → RepR Rep)) (hs : ∀ f, sub = some f → ∀ t i, Goes (f t i)) (c t i : Nat) : Goes (kindR sub c t i) := by
  unfold kindR
  by_cases h1 : c = 43
  · simp only [if_pos h1]; exact (line_goes t).map (fun x => (Rep.mk 1 0 x.1 [], x.2, i))
  · simp only [if_neg h1]
    by_cases h2 : c = 45
    · simp only [if_pos h2]; exact (line_goes t).map (fun x => (Rep.mk 2 0 x.1 [], x.2, i))
    · simp only [if_neg h2]
      by_cases h3 : c = 58
      · simp only [if_pos h3]; exact sign_goes.map (fun x => (Rep.mk 3 x ⟨#[]⟩ [], t, i))
      · simp only [if_neg h3]
        by_cases h4 : c = 36
        · simp only [if_pos h4]; exact dollar_goes t i
        · simp only [if_neg h4]
          by_cases h5 : c = 42
          · simp only [if_pos h5]
            cases sub with
            | none => exact fun b m => ⟨fun x r h => (by cases h), fun e h => (by cases h; exact .inr ⟨rfl, rfl⟩)⟩
            | some f => exact list_goes f (hs f rfl) t i
          · simp only [if_neg h5]
            exact fun b m => ⟨fun x r h => (by cases h), fun e h => (by cases h; exact .inr ⟨rfl, rfl⟩)⟩
theorem reply_goes : ∀ (d t i : Nat), Goes (replyR d t i)
  | d, t, i, [], m => ⟨fun x r h => (by simp only [replyR] at h; cases h), fun e h => (by simp only [replyR] at h; cases h; exact .inl rfl)⟩
  | 0, t, i, c :: b, m => by
    simp only [replyR, List.cons_append]
    exact kind_goes none (fun f h => (by cases h)) _ t i b m
  | d + 1, t, i, c :: b, m => by
    simp only [replyR, List.cons_append]
    exact kind_goes (some (replyR d)) (fun f h => by cases h; exact fun t i => reply_goes d t i) _ t i b m
theorem decode_goes : Goes decodeR := reply_goes 100 _ _
end Go.Proofs.YtopdgmchkoaeeaaDoor
namespace Go.Proofs.YtopdgmchkoaeeaaDoor
open Go.Lib
set_option linter.unusedVariables false
set_option linter.unusedSimpArgs false

mutual
def encR : Rep → List UInt8
  | .mk k n s l =>
    if k = 0 then [36, 45, 49, 13, 10]
    else if k = 1 then 43 :: lineB s.data.toList
    else if k = 2 then 45 :: lineB s.data.toList
    else if k = 3 then 58 :: lineB (itoa n)
    else if k = 4 then textB s
    else 42 :: lineB (decDigits l.length) ++ encL l
def encL : List Rep → List UInt8
  | [] => []
  | x :: l => encR x ++ encL l
end
def linedB (s : ByteArray) : Bool := s.data.toList.all fun c => !(c.toNat == 13) && !(c.toNat == 10)
mutual
def fineR : Nat → Rep → Bool
  | d, .mk k n s l =>
    if k = 0 then n == 0 && s.size == 0 && l.length == 0
    else if k = 1 ∨ k = 2 then n == 0 && linedB s && l.length == 0
    else if k = 3 then s.size == 0 && l.length == 0
    else if k = 4 then n == 0 && l.length == 0
    else if k = 5 then (match d with | 0 => false | d + 1 => n == 0 && s.size == 0 && fineL d l)
    else false
def fineL : Nat → List Rep → Bool
  | _, [] => true
  | d, x :: l => fineR d x && fineL d l
end
mutual
/-- How many bytes of texts there are, how many replies in lists. -/
def txR : Rep → Nat
  | .mk _ _ s l => s.size + txL l
def txL : List Rep → Nat
  | [] => 0
  | x :: l => txR x + txL l
end
mutual
def itR : Rep → Nat
  | .mk _ _ _ l => l.length + itL l
def itL : List Rep → Nat
  | [] => 0
  | x :: l => itR x + itL l
end
mutual
/-- Are all numbers such as an int64 may be? -/
def i64R : Rep → Prop
  | .mk _ n _ l => (-9223372036854775808 ≤ n ∧ n ≤ 9223372036854775807) ∧ i64L l
def i64L : List Rep → Prop
  | [] => True
  | x :: l => i64R x ∧ i64L l
end
theorem bytes_nil {s : ByteArray} (h : s.size = 0) : s = ⟨#[]⟩ := by
  obtain ⟨a⟩ := s
  have : a.size = 0 := h
  rw [Array.eq_empty_of_size_eq_zero this]
theorem plain_reads : ∀ (s : List UInt8) (t : Nat) (r : List UInt8), (s.all fun c => !(c.toNat == 13) && !(c.toNat == 10)) = true → s.length ≤ t → plainR t (s ++ 13 :: r) = .ok ((s, t - s.length), r)
  | [], t, r, h, ht => by simp [plainR]
  | c :: s, t, r, h, ht => by
    simp only [List.all_cons, Bool.and_eq_true, Bool.not_eq_true', beq_eq_false_iff_ne, ne_eq] at h
    simp only [List.length_cons] at ht
    rw [List.cons_append, plainR, if_neg h.1.1, if_neg (by omega), plain_reads s (t - 1) r (by simpa using h.2) (by omega)]
    simp only [Except.map, List.length_cons]
    rw [show t - 1 - s.length = t - (s.length + 1) by omega]
theorem plain_was : ∀ (b : List UInt8) (t : Nat) (s : List UInt8) (t' : Nat) (r : List UInt8), plainR t b = .ok ((s, t'), r) → b = s ++ 13 :: r ∧ t = t' + s.length ∧ (s.all fun c => !(c.toNat == 13) && !(c.toNat == 10)) = true
  | [], t, s, t', r, h => by simp only [plainR] at h; cases h
  | c :: b, t, s, t', r, h => by
    rw [plainR] at h
    split at h
    · rename_i h1
      cases h
      have : c = 13 := UInt8.toNat_inj.mp h1
      subst this
      exact ⟨rfl, rfl, rfl⟩
    · split at h
      · cases h
      · rename_i h1 h2
        cases hb : plainR (t - 1) b with
        | error e => rw [hb] at h; cases h
        | ok x =>
          obtain ⟨⟨s', t2⟩, r'⟩ := x
          rw [hb] at h
          cases h
          obtain ⟨e1, e2, e3⟩ := plain_was b _ _ _ _ hb
          refine ⟨by rw [e1]; rfl, by simp only [List.length_cons]; omega, ?_⟩
          simp only [List.all_cons, e3, Bool.and_true, Bool.and_eq_true, Bool.not_eq_true', beq_eq_false_iff_ne, ne_eq]
          omega
theorem line_reads (s : ByteArray) (t : Nat) (r : List UInt8) (h : linedB s = true) (ht : s.size ≤ t) : lineR t (lineB s.data.toList ++ r) = .ok ((s, t - s.size), r) := by
  have hl : s.data.toList.length = s.size := rfl
  have e : lineB s.data.toList ++ r = s.data.toList ++ 13 :: 10 :: r := by simp [lineB]
  unfold lineR
  rw [e, plain_reads s.data.toList t (10 :: r) h (by omega)]
  simp [skipR, Except.map, hl]
theorem line_was {t t' : Nat} {b r : List UInt8} {s : ByteArray} (h : lineR t b = .ok ((s, t'), r)) : b = lineB s.data.toList ++ r ∧ t = t' + s.size ∧ linedB s = true := by
  unfold lineR at h
  cases hb : plainR t b with
  | error e => rw [hb] at h; cases h
  | ok x =>
    obtain ⟨⟨s', t2⟩, q⟩ := x
    rw [hb] at h
    simp only at h
    cases hs : skipR [10] q with
    | error e => rw [hs] at h; cases h
    | ok r' =>
      rw [hs] at h
      cases h
      obtain ⟨e1, e2, e3⟩ := plain_was _ _ _ _ _ hb
      have e4 := skip_was _ _ _ hs
      exact ⟨by rw [e1, e4]; simp [lineB], e2, e3⟩
theorem dec_first (n : Nat) : ∃ c l, decDigits n = c :: l ∧ 48 ≤ c.toNat ∧ c.toNat ≤ 57 := by
  induction n using Nat.strongRecOn with
  | _ n ih =>
    by_cases h : n < 10
    · exact ⟨_, [], dec_small h, by rw [ofNat_toNat (by omega)]; omega, by rw [ofNat_toNat (by omega)]; omega⟩
    · obtain ⟨c, l, e, h1, h2⟩ := ih (n / 10) (by omega)
      exact ⟨c, l ++ [UInt8.ofNat (48 + n % 10)], by rw [dec_big h, e]; rfl, h1, h2⟩
theorem sign_reads (n : Int) (r : List UInt8) (h : -9223372036854775808 ≤ n ∧ n ≤ 9223372036854775807) : signR (lineB (itoa n) ++ r) = .ok (n, r) := by
  by_cases hn : n < 0
  · obtain ⟨u, rfl⟩ : ∃ u : Nat, n = -(u : Int) := ⟨n.natAbs, by omega⟩
    have e : lineB (itoa (-(u : Int))) ++ r = 45 :: (decDigits u ++ 13 :: 10 :: r) := by
      rw [itoa_neg u (by omega)]; simp [lineB]
    rw [e]
    simp only [signR]
    rw [if_pos (by decide), num_reads 1 9223372036854775808 u r (by omega) (by omega) (by omega)]
    rfl
  · obtain ⟨u, rfl⟩ : ∃ u : Nat, n = (u : Int) := ⟨n.toNat, by omega⟩
    have e : lineB (itoa (u : Int)) ++ r = decDigits u ++ 13 :: 10 :: r := by
      rw [itoa_nonneg]; simp [lineB]
    obtain ⟨c, l, e2, h1, h2⟩ := dec_first u
    have hr := num_reads 0 9223372036854775807 u r (by omega) (by omega) (by omega)
    rw [e]
    rw [e2] at hr ⊢
    rw [List.cons_append] at hr ⊢
    rw [signR, if_neg (by omega), hr]
    rfl
theorem sign_was {n : Int} {b r : List UInt8} (h : signR b = .ok (n, r)) : b = lineB (itoa n) ++ r ∧ -9223372036854775808 ≤ n ∧ n ≤ 9223372036854775807 := by
  cases b with
  | nil => simp only [signR] at h; cases h
  | cons c b =>
    rw [signR] at h
    split at h
    · rename_i hc
      cases hn : numR 1 9223372036854775808 0 0 b with
      | error e => rw [hn] at h; cases h
      | ok x =>
        obtain ⟨u, q⟩ := x
        rw [hn] at h
        cases h
        obtain ⟨e1, e2, e3⟩ := num_was _ _ _ _ _ (by omega) hn
        have : c = 45 := UInt8.toNat_inj.mp hc
        refine ⟨?_, by show _ ≤ -(u : Int); omega, by show -(u : Int) ≤ _; omega⟩
        rw [this, e1]
        show _ = lineB (itoa (-(u : Int))) ++ q
        rw [itoa_neg u e3]
        simp [lineB]
    · cases hn : numR 0 9223372036854775807 0 0 (c :: b) with
      | error e => rw [hn] at h; cases h
      | ok x =>
        obtain ⟨u, q⟩ := x
        rw [hn] at h
        cases h
        obtain ⟨e1, e2, e3⟩ := num_was _ _ _ _ _ (by omega) hn
        refine ⟨?_, by show _ ≤ (u : Int); omega, by show (u : Int) ≤ _; omega⟩
        rw [e1]
        show _ = lineB (itoa (u : Int)) ++ q
        rw [itoa_nonneg]
        simp [lineB]

/-! ### Read as laid -/
/-- A reader of replies reads those that some test lets by. -/
def Reads (f : Nat → Nat → List UInt8 → RepR Rep) (ok : Rep → Bool) : Prop :=
  ∀ x t i r, ok x = true → i64R x → txR x ≤ t → itR x ≤ i → f t i (encR x ++ r) = .ok ((x, t - txR x, i - itR x), r)
theorem reps_reads (f : Nat → Nat → List UInt8 → RepR Rep) (ok : Rep → Bool) (hf : Reads f ok) : ∀ (l : List Rep) (t i : Nat) (r : List UInt8), l.all ok = true → i64L l → txL l ≤ t → itL l ≤ i → repsR f l.length t i (encL l ++ r) = .ok ((l, t - txL l, i - itL l), r)
  | [], t, i, r, h, h6, ht, hi => rfl
  | x :: l, t, i, r, h, h6, ht, hi => by
    simp only [List.all_cons, Bool.and_eq_true] at h
    simp only [txL, itL, i64L] at ht hi h6 ⊢
    simp only [List.length_cons, repsR, encL, List.append_assoc]
    rw [hf x t i _ h.1 h6.1 (by omega) (by omega)]
    simp only
    rw [reps_reads f ok hf l (t - txR x) (i - itR x) r h.2 h6.2 (by omega) (by omega)]
    simp only [Except.map]
    rw [show t - txR x - txL l = t - (txR x + txL l) by omega, show i - itR x - itL l = i - (itR x + itL l) by omega]
theorem fineL_all : ∀ (d : Nat) (l : List Rep), fineL d l = l.all (fineR d)
  | _, [] => by simp only [fineL, List.all_nil]
  | d, x :: l => by simp only [fineL, List.all_cons, fineL_all d l]
theorem isDash_dec (n : Nat) (r : List UInt8) : isDash (lineB (decDigits n) ++ r) = false := by
  obtain ⟨c, l, e, h1, h2⟩ := dec_first n
  rw [e]
  simp [lineB, isDash]; omega
theorem kind_reads (d : Nat) (sub : Option (Nat → Nat → List UInt8 → RepR Rep)) (hs : match d, sub with | 0, none => True | d + 1, some f => Reads f (fineR d) | _, _ => False)
    (x : Rep) (t i : Nat) (r : List UInt8) (h : fineR d x = true) (h6 : i64R x) (ht : txR x ≤ t) (hi : itR x ≤ i) :
    ∃ c b, encR x ++ r = c :: b ∧ kindR sub c.toNat t i b = .ok ((x, t - txR x, i - itR x), r) := by
  obtain ⟨k, n, s, l⟩ := x
  simp only [txR, itR, i64R] at ht hi h6 ⊢
  simp only [encR]
  by_cases h0 : k = 0
  · subst h0
    simp only [fineR, if_true, Bool.and_eq_true, beq_iff_eq] at h
    obtain ⟨⟨rfl, hs'⟩, hl⟩ := h
    obtain rfl := List.eq_nil_of_length_eq_zero hl
    obtain rfl := bytes_nil hs'
    refine ⟨36, _, rfl, ?_⟩
    unfold kindR
    rw [if_neg (by decide), if_neg (by decide), if_neg (by decide), if_pos (by decide), dollarR, if_pos (by rfl)]
    show Except.map _ (skipR [45, 49, 13, 10] ([45, 49, 13, 10] ++ r)) = _
    rw [skip_reads]
    simp [Except.map, txL, itL]
    rfl
  · by_cases h1 : k = 1
    · subst h1
      simp only [fineR, if_neg h0, true_or, if_true, Bool.and_eq_true, beq_iff_eq] at h
      obtain ⟨⟨rfl, hs'⟩, hl⟩ := h
      obtain rfl := List.eq_nil_of_length_eq_zero hl
      simp only [txL, itL, List.length_nil] at ht hi ⊢
      refine ⟨43, lineB s.data.toList ++ r, rfl, ?_⟩
      unfold kindR
      rw [if_pos (by decide), line_reads s t r hs' (by omega)]
      simp [Except.map]
    · by_cases h2 : k = 2
      · subst h2
        simp only [fineR, if_neg h0, or_true, if_true, Bool.and_eq_true, beq_iff_eq] at h
        obtain ⟨⟨rfl, hs'⟩, hl⟩ := h
        obtain rfl := List.eq_nil_of_length_eq_zero hl
        simp only [txL, itL, List.length_nil] at ht hi ⊢
        refine ⟨45, lineB s.data.toList ++ r, rfl, ?_⟩
        unfold kindR
        rw [if_neg (by decide), if_pos (by decide), line_reads s t r hs' (by omega)]
        simp [Except.map]
      · by_cases h3 : k = 3
        · subst h3
          simp only [fineR, if_neg h0, if_neg (show ¬ ((3 : Int) = 1 ∨ (3 : Int) = 2) by decide), if_true, Bool.and_eq_true, beq_iff_eq] at h
          obtain ⟨hs', hl⟩ := h
          obtain rfl := List.eq_nil_of_length_eq_zero hl
          obtain rfl := bytes_nil hs'
          refine ⟨58, lineB (itoa n) ++ r, rfl, ?_⟩
          unfold kindR
          rw [if_neg (by decide), if_neg (by decide), if_pos (by decide), sign_reads n r h6.1]
          simp [Except.map, txL, itL]
          rfl
        · by_cases h4 : k = 4
          · subst h4
            simp only [fineR, if_neg h0, if_neg (show ¬ ((4 : Int) = 1 ∨ (4 : Int) = 2) by decide), if_neg h3, if_true, Bool.and_eq_true, beq_iff_eq] at h
            obtain ⟨rfl, hl⟩ := h
            obtain rfl := List.eq_nil_of_length_eq_zero hl
            simp only [txL, itL, List.length_nil] at ht hi ⊢
            refine ⟨36, lineB (decDigits s.size) ++ (lineB s.data.toList ++ r), by simp [textB], ?_⟩
            unfold kindR
            rw [if_neg (by decide), if_neg (by decide), if_neg (by decide), if_pos (by decide), dollarR, if_neg (by rw [isDash_dec]; decide), bulk_reads s t r (by omega)]
            simp [Except.map]
          · by_cases h5 : k = 5
            · subst h5
              cases d with
              | zero => simp [fineR] at h
              | succ d =>
                simp only [fineR, if_neg h0, if_neg (show ¬ ((5 : Int) = 1 ∨ (5 : Int) = 2) by decide), if_neg h3, if_neg h4, if_true, Bool.and_eq_true, beq_iff_eq] at h
                obtain ⟨⟨rfl, hs'⟩, hl⟩ := h
                obtain rfl := bytes_nil hs'
                cases sub with
                | none => exact False.elim hs
                | some f =>
                  refine ⟨42, lineB (decDigits l.length) ++ (encL l ++ r), by simp, ?_⟩
                  have e : lineB (decDigits l.length) ++ (encL l ++ r) = decDigits l.length ++ 13 :: 10 :: (encL l ++ r) := by simp [lineB]
                  unfold kindR
                  rw [if_neg (by decide), if_neg (by decide), if_neg (by decide), if_neg (by decide), if_pos (by decide), e]
                  simp only [listR]
                  rw [num_reads 0 i l.length _ (by omega) (by omega) (by omega)]
                  simp only
                  rw [fineL_all] at hl
                  have hz : (⟨#[]⟩ : ByteArray).size = 0 := rfl
                  rw [hz] at ht ⊢
                  rw [reps_reads f (fineR d) hs l t (i - l.length) r hl h6.2 (by omega) (by omega)]
                  simp only [Except.map]
                  rw [show t - (0 + txL l) = t - txL l by omega, show i - l.length - itL l = i - (l.length + itL l) by omega]
            · exfalso
              simp only [fineR, if_neg h0, if_neg (show ¬ (k = 1 ∨ k = 2) by omega), if_neg h3, if_neg h4, if_neg h5] at h
              cases h
theorem reply_reads : ∀ (d : Nat), Reads (replyR d) (fineR d)
  | 0, x, t, i, r, h, h6, ht, hi => by
    obtain ⟨c, b, e, hk⟩ := kind_reads 0 none trivial x t i r h h6 ht hi
    rw [e]
    simp only [replyR]
    exact hk
  | d + 1, x, t, i, r, h, h6, ht, hi => by
    obtain ⟨c, b, e, hk⟩ := kind_reads (d + 1) (some (replyR d)) (reply_reads d) x t i r h h6 ht hi
    rw [e]
    simp only [replyR]
    exact hk
/-- May a reply be? -/
def repOk (x : Rep) : Prop := fineR 100 x = true ∧ txR x ≤ 1048576 ∧ itR x ≤ 65536
theorem decode_reads (x : Rep) (r : List UInt8) (h : repOk x) (h6 : i64R x) : decodeR (encR x ++ r) = .ok ((x, 1048576 - txR x, 65536 - itR x), r) :=
  reply_reads 100 x _ _ r h.1 h6 h.2.1 h.2.2

/-! ### What is read was laid -/
def Was (f : Nat → Nat → List UInt8 → RepR Rep) (ok : Rep → Bool) : Prop :=
  ∀ x t i t' i' b r, f t i b = .ok ((x, t', i'), r) → b = encR x ++ r ∧ ok x = true ∧ i64R x ∧ t = t' + txR x ∧ i = i' + itR x
theorem reps_was (f : Nat → Nat → List UInt8 → RepR Rep) (ok : Rep → Bool) (hf : Was f ok) : ∀ (k : Nat) (l : List Rep) (t i t' i' : Nat) (b r : List UInt8), repsR f k t i b = .ok ((l, t', i'), r) → b = encL l ++ r ∧ l.length = k ∧ l.all ok = true ∧ i64L l ∧ t = t' + txL l ∧ i = i' + itL l
  | 0, l, t, i, t', i', b, r, h => by simp only [repsR] at h; cases h; exact ⟨rfl, rfl, rfl, trivial, rfl, rfl⟩
  | k + 1, l, t, i, t', i', b, r, h => by
    simp only [repsR] at h
    cases hx : f t i b with
    | error e => rw [hx] at h; cases h
    | ok y =>
      obtain ⟨⟨x, t1, i1⟩, q⟩ := y
      rw [hx] at h
      simp only at h
      cases hk : repsR f k t1 i1 q with
      | error e => rw [hk] at h; cases h
      | ok z =>
        obtain ⟨⟨l', t2, i2⟩, r'⟩ := z
        rw [hk] at h
        cases h
        obtain ⟨a1, a2, a3, a4, a5⟩ := hf _ _ _ _ _ _ _ hx
        obtain ⟨b1, b2, b3, b4, b5, b6⟩ := reps_was f ok hf k _ _ _ _ _ _ _ hk
        refine ⟨by rw [a1, b1]; simp [encL], by simp [b2], by simp [a2, b3], ⟨a3, b4⟩, ?_, ?_⟩
        · simp only [txL]; omega
        · simp only [itL]; omega
theorem kind_was (d : Nat) (sub : Option (Nat → Nat → List UInt8 → RepR Rep)) (hs : match d, sub with | 0, none => True | d + 1, some f => Was f (fineR d) | _, _ => False)
    (x : Rep) (t i t' i' : Nat) (c : UInt8) (b r : List UInt8) (h : kindR sub c.toNat t i b = .ok ((x, t', i'), r)) :
    c :: b = encR x ++ r ∧ fineR d x = true ∧ i64R x ∧ t = t' + txR x ∧ i = i' + itR x := by
  unfold kindR at h
  split at h
  · rename_i hc
    have : c = 43 := UInt8.toNat_inj.mp hc
    subst this
    cases hl : lineR t b with
    | error e => rw [hl] at h; cases h
    | ok y =>
      obtain ⟨⟨s, t1⟩, q⟩ := y
      rw [hl] at h
      cases h
      obtain ⟨e1, e2, e3⟩ := line_was hl
      refine ⟨by rw [e1]; rfl, by simp [fineR, e3], ⟨by omega, trivial⟩, by simp only [txR, txL]; omega, by simp [itR, itL]⟩
  · split at h
    · rename_i hc
      have : c = 45 := UInt8.toNat_inj.mp hc
      subst this
      cases hl : lineR t b with
      | error e => rw [hl] at h; cases h
      | ok y =>
        obtain ⟨⟨s, t1⟩, q⟩ := y
        rw [hl] at h
        cases h
        obtain ⟨e1, e2, e3⟩ := line_was hl
        refine ⟨by rw [e1]; rfl, by simp [fineR, e3], ⟨by omega, trivial⟩, by simp only [txR, txL]; omega, by simp [itR, itL]⟩
    · split at h
      · rename_i hc
        have : c = 58 := UInt8.toNat_inj.mp hc
        subst this
        cases hl : signR b with
        | error e => rw [hl] at h; cases h
        | ok y =>
          obtain ⟨n, q⟩ := y
          rw [hl] at h
          cases h
          obtain ⟨e1, e2, e3⟩ := sign_was hl
          refine ⟨by rw [e1]; rfl, by simp [fineR]; rfl, ⟨⟨e2, e3⟩, trivial⟩, by simp only [txR, txL]; rfl, by simp [itR, itL]⟩
      · split at h
        · rename_i hc
          have : c = 36 := UInt8.toNat_inj.mp hc
          subst this
          unfold dollarR at h
          split at h
          · cases hl : skipR [45, 49, 13, 10] b with
            | error e => rw [hl] at h; cases h
            | ok q =>
              rw [hl] at h
              cases h
              have e1 := skip_was _ _ _ hl
              refine ⟨by rw [e1]; rfl, by simp [fineR]; rfl, ⟨by omega, trivial⟩, by simp only [txR, txL]; rfl, by simp [itR, itL]⟩
          · cases hl : bulkR t b with
            | error e => rw [hl] at h; cases h
            | ok y =>
              obtain ⟨s, q⟩ := y
              rw [hl] at h
              cases h
              obtain ⟨e1, e2⟩ := bulk_was hl
              refine ⟨by rw [e1]; simp [encR, textB], by simp [fineR], ⟨by omega, trivial⟩, by simp only [txR, txL]; omega, by simp [itR, itL]⟩
        · split at h
          · rename_i hc
            have : c = 42 := UInt8.toNat_inj.mp hc
            subst this
            cases sub with
            | none => cases h
            | some f =>
              cases d with
              | zero => exact False.elim hs
              | succ d =>
                simp only [listR] at h
                cases hn : numR 0 i 0 0 b with
                | error e => rw [hn] at h; cases h
                | ok y =>
                  obtain ⟨n, q⟩ := y
                  rw [hn] at h
                  simp only at h
                  cases hk : repsR f n t (i - n) q with
                  | error e => rw [hk] at h; cases h
                  | ok z =>
                    obtain ⟨⟨l, t2, i2⟩, r'⟩ := z
                    rw [hk] at h
                    cases h
                    obtain ⟨e1, e2, e3⟩ := num_was _ _ _ _ _ (by omega) hn
                    obtain ⟨b1, b2, b3, b4, b5, b6⟩ := reps_was f _ hs _ _ _ _ _ _ _ _ hk
                    refine ⟨by rw [e1, b1, ← b2]; simp [encR, lineB], ?_, ⟨by omega, b4⟩, ?_, ?_⟩
                    · simp only [fineR]
                      rw [fineL_all, b3]
                      rfl
                    · simp only [txR]; show t = _ + (0 + txL l); omega
                    · simp only [itR]; omega
          · cases h
theorem reply_was : ∀ (d : Nat), Was (replyR d) (fineR d)
  | d, x, t, i, t', i', [], r, h => by simp only [replyR] at h; cases h
  | 0, x, t, i, t', i', c :: b, r, h => by
    simp only [replyR] at h
    exact kind_was 0 none trivial x t i t' i' c b r h
  | d + 1, x, t, i, t', i', c :: b, r, h => by
    simp only [replyR] at h
    exact kind_was (d + 1) (some (replyR d)) (reply_was d) x t i t' i' c b r h
theorem decode_was {x : Rep} {t i : Nat} {b r : List UInt8} (h : decodeR b = .ok ((x, t, i), r)) : b = encR x ++ r ∧ repOk x ∧ i64R x := by
  obtain ⟨h1, h2, h3, h4, h5⟩ := reply_was 100 _ _ _ _ _ _ _ h
  exact ⟨h1, ⟨h2, by omega, by omega⟩, h3⟩
theorem decode_cut {x : Rep} (h : repOk x) (h6 : i64R x) {n : Nat} (hn : n < (encR x).length) : decodeR ((encR x).take n) = .error 130 := by
  have hg := decode_goes ((encR x).take n) ((encR x).drop n)
  rw [List.take_append_drop] at hg
  have hr := decode_reads x [] h h6
  rw [List.append_nil] at hr
  cases hp : decodeR ((encR x).take n) with
  | ok y =>
    obtain ⟨y', r⟩ := y
    have h1 := hg.1 y' r hp
    rw [hr] at h1
    have h2 : [] = r ++ (encR x).drop n := by injection h1 with h1; injection h1
    have h3 := congrArg List.length h2
    simp only [List.length_nil, List.length_append, List.length_drop] at h3
    omega
  | error e =>
    rcases hg.2 e hp with rfl | ⟨rfl, h2⟩
    · rfl
    · rw [hr] at h2; cases h2
/-- Two replies that may be have the same bytes just if they are the same; none begins those of another one. -/
theorem enc_inj {x y : Rep} (hx : repOk x) (h6 : i64R x) (hy : repOk y) (h7 : i64R y) {r : List UInt8} (h : encR x ++ r = encR y) : x = y ∧ r = [] := by
  have h1 := decode_reads x r hx h6
  have h2 := decode_reads y [] hy h7
  rw [List.append_nil, ← h, h1] at h2
  injection h2 with h2
  injection h2 with h2 h3
  injection h2 with h2
  exact ⟨h2, h3⟩
end Go.Proofs.YtopdgmchkoaeeaaDoor
