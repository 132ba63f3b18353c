/- Replies on what is left of the bytes. -/
import Derived.Test.YtopdgmchkoaeeaaDoorRspQ
namespace Go.Proofs.YtopdgmchkoaeeaaDoor
open Go.Lib
set_option linter.unusedVariables false
set_option linter.unusedSimpArgs false

def plainR : Nat → List UInt8 → Except Int ((List UInt8 × Nat) × List UInt8)
  | _, [] => .error 130
  | t, c :: r =>
    if c.toNat = 13 then .ok (([], t), r)
    else if c.toNat = 10 ∨ t = 0 then .error 131
    else (plainR (t - 1) r).map fun x => ((c :: x.1.1, x.1.2), x.2)
def lineR (t : Nat) (b : List UInt8) : Except Int ((ByteArray × Nat) × List UInt8) :=
  match plainR t b with
  | .error e => .error e
  | .ok (x, q) => (skipR [10] q).map fun r => ((⟨x.1.toArray⟩, x.2), r)
def signR : List UInt8 → Except Int (Int × List UInt8)
  | [] => .error 130
  | c :: r =>
    if c.toNat = 45 then (numR 1 9223372036854775808 0 0 r).map fun x => (-(x.1 : Int), x.2)
    else (numR 0 9223372036854775807 0 0 (c :: r)).map fun x => ((x.1 : Int), x.2)
abbrev RepR (α : Type) : Type := Except Int ((α × Nat × Nat) × List UInt8)
def repsR (f : Nat → Nat → List UInt8 → RepR Rep) : Nat → Nat → Nat → List UInt8 → RepR (List Rep)
  | 0, t, i, b => .ok (([], t, i), b)
  | k + 1, t, i, b =>
    match f t i b with
    | .error e => .error e
    | .ok (x, b') => (repsR f k x.2.1 x.2.2 b').map fun y => ((x.1 :: y.1.1, y.1.2), y.2)
def listR (f : Nat → Nat → List UInt8 → RepR Rep) (t i : Nat) (b : List UInt8) : RepR Rep :=
  match numR 0 i 0 0 b with
  | .error e => .error e
  | .ok (n, q) => (repsR f n t (i - n) q).map fun x => ((.mk 5 0 ⟨#[]⟩ x.1.1, x.1.2), x.2)
def isDash : List UInt8 → Bool
  | [] => false
  | c :: _ => c.toNat == 45
def dollarR (t i : Nat) (b : List UInt8) : RepR Rep :=
  if isDash b = true then (skipR [45, 49, 13, 10] b).map fun q => ((.mk 0 0 ⟨#[]⟩ [], t, i), q)
  else (bulkR t b).map fun x => ((.mk 4 0 x.1 [], t - x.1.size, i), x.2)
def kindR (sub : Option (Nat → Nat → List UInt8 → RepR Rep)) (c t i : Nat) (b : List UInt8) : RepR Rep :=
  if c = 43 then (lineR t b).map fun x => ((.mk 1 0 x.1.1 [], x.1.2, i), x.2)
  else if c = 45 then (lineR t b).map fun x => ((.mk 2 0 x.1.1 [], x.1.2, i), x.2)
  else if c = 58 then (signR b).map fun x => ((.mk 3 x.1 ⟨#[]⟩ [], t, i), x.2)
  else if c = 36 then dollarR t i b
  else if c = 42 then (match sub with | none => .error 131 | some f => listR f t i b)
  else .error 131
def replyR : Nat → Nat → Nat → List UInt8 → RepR Rep
  | _, _, _, [] => .error 130
  | 0, t, i, c :: b => kindR none c.toNat t i b
  | d + 1, t, i, c :: b => kindR (some (replyR d)) c.toNat t i b
def decodeR (b : List UInt8) : RepR Rep := replyR 100 1048576 65536 b

/-! ### The same as by places -/
def BrS {α : Type} (l : List UInt8) : Except Int (α × St) → RepR α → Prop
  | .ok x, .ok y => x.1 = y.1.1 ∧ x.2.texts = y.1.2.1 ∧ x.2.items = y.1.2.2 ∧ x.2.p ≤ l.length ∧ y.2 = l.drop x.2.p
  | .error e, .error f => e = f
  | _, _ => False
theorem Br.toS {α β : Type} {l : List UInt8} {x : Except Int (α × Nat)} {y : Except Int (α × List UInt8)} (h : Br l x y) (k : α → β) (t i : α → Nat) :
    BrS l (x.map fun q => (k q.1, ⟨q.2, t q.1, i q.1⟩)) (y.map fun q => ((k q.1, t q.1, i q.1), q.2)) := by
  cases x <;> cases y <;> first | exact False.elim h | exact h | skip
  rename_i x y
  obtain ⟨x1, x2⟩ := x
  obtain ⟨y1, y2⟩ := y
  obtain ⟨h1, h2, h3⟩ := h
  simp only at h1 h2 h3
  subst h1
  exact ⟨rfl, rfl, rfl, h2, h3⟩
/-- Where a line's text ends; the text. -/
def BrP (l : List UInt8) (p : Nat) : Except Int (Nat × Nat) → Except Int ((List UInt8 × Nat) × List UInt8) → Prop
  | .ok x, .ok y => p ≤ x.1 ∧ x.1 < l.length ∧ y.1.1 = (l.drop p).take (x.1 - p) ∧ x.2 = y.1.2 ∧ y.2 = l.drop (x.1 + 1)
  | .error e, .error f => e = f
  | _, _ => False
theorem plain_br (l : List UInt8) : ∀ (k t p : Nat), p ≤ l.length → l.length - p ≤ k → BrP l p (plainS l k t p) (plainR t (l.drop p))
  | 0, t, p, hp, hk => by
    rw [drop_end (by omega)]
    simp only [plainS, plainR]; rfl
  | k + 1, t, p, hp, hk => by
    by_cases h : p < l.length
    · rw [drop_at h]
      simp only [plainS, plainR, dif_pos h]
      by_cases h1 : l[p].toNat = 13
      · rw [if_pos h1, if_pos h1]
        exact ⟨Nat.le_refl _, h, by simp, rfl, rfl⟩
      · rw [if_neg h1, if_neg h1]
        by_cases h2 : l[p].toNat = 10 ∨ t = 0
        · rw [if_pos h2, if_pos h2]; rfl
        · rw [if_neg h2, if_neg h2]
          have h := plain_br l k (t - 1) (p + 1) (by omega) (by omega)
          revert h
          cases plainS l k (t - 1) (p + 1) <;> cases plainR (t - 1) (l.drop (p + 1)) <;> intro h <;> first | exact False.elim h | exact h | skip
          rename_i hp' x y
          obtain ⟨h1, h2, h3, h4, h5⟩ := h
          refine ⟨by omega, h2, ?_, h4, h5⟩
          show l[p] :: y.1.1 = _
          rw [h3, drop_at hp', show x.1 - p = (x.1 - (p + 1)) + 1 by omega, List.take_succ_cons]
    · rw [drop_end h]
      simp only [plainS, plainR, dif_neg h]
      rfl
theorem line_br (l : List UInt8) (t p : Nat) (hp : p ≤ l.length) : BrS l ((lineS' l t p).map fun x => (x.1, ⟨x.2.1, x.2.2, 0⟩)) ((lineR t (l.drop p)).map fun x => ((x.1.1, x.1.2, 0), x.2)) := by
  unfold lineS' lineR
  have h := plain_br l (l.length - p) t p hp (Nat.le_refl _)
  revert h
  cases plainS l (l.length - p) t p <;> cases plainR t (l.drop p) <;> intro h <;> first | exact False.elim h | exact h | skip
  rename_i x y
  obtain ⟨x1, x2⟩ := x
  obtain ⟨⟨y1, y2⟩, y3⟩ := y
  obtain ⟨h1, h2, h3, h4, h5⟩ := h
  simp only at h1 h2 h3 h4 h5
  subst h3 h4 h5
  simp only
  have h := skip_br l [10] (x1 + 1) (by omega)
  revert h
  cases skipS l [10] (x1 + 1) <;> cases skipR [10] (l.drop (x1 + 1)) <;> intro h <;> first | exact False.elim h | exact h | skip
  exact ⟨rfl, rfl, rfl, h.1, h.2⟩
theorem BrS.line {l : List UInt8} {x : Except Int (ByteArray × Nat × Nat)} {y : Except Int ((ByteArray × Nat) × List UInt8)} (h : BrS l (x.map fun x => (x.1, ⟨x.2.1, x.2.2, 0⟩)) (y.map fun x => ((x.1.1, x.1.2, 0), x.2))) (k : Int) (i : Nat) :
    BrS l (x.map fun x => (Rep.mk k 0 x.1 [], ⟨x.2.1, x.2.2, i⟩)) (y.map fun x => ((Rep.mk k 0 x.1.1 [], x.1.2, i), x.2)) := by
  cases x <;> cases y <;> first | exact False.elim h | exact h | skip
  obtain ⟨h1, h2, h3, h4, h5⟩ := h
  simp only at h1 h2 h3 h4 h5
  exact ⟨by simp only [h1], h2, rfl, h4, h5⟩
theorem sign_br (l : List UInt8) (p : Nat) (hp : p ≤ l.length) : Br l (signS l p) (signR (l.drop p)) := by
  unfold signS
  by_cases h : p < l.length
  · rw [drop_at h, dif_pos h]
    simp only [signR]
    by_cases h1 : l[p].toNat = 45
    · rw [if_pos h1, if_pos h1]
      have h := num_br l 1 9223372036854775808 (l.length - (p + 1)) 0 0 (p + 1) h (Nat.le_refl _)
      revert h
      cases numS l 1 9223372036854775808 (l.length - (p + 1)) 0 0 (p + 1) <;> cases numR 1 9223372036854775808 0 0 (l.drop (p + 1)) <;> intro h <;> first | exact False.elim h | exact h | skip
      exact ⟨by simp only [h.1], h.2.1, h.2.2⟩
    · rw [if_neg h1, if_neg h1, ← drop_at h]
      have h := num_br l 0 9223372036854775807 (l.length - p) 0 0 p hp (Nat.le_refl _)
      revert h
      cases numS l 0 9223372036854775807 (l.length - p) 0 0 p <;> cases numR 0 9223372036854775807 0 0 (l.drop p) <;> intro h <;> first | exact False.elim h | exact h | skip
      exact ⟨by simp only [h.1], h.2.1, h.2.2⟩
  · rw [drop_end h, dif_neg h]; rfl
theorem reps_br (l : List UInt8) (f : St → Except Int (Rep × St)) (g : Nat → Nat → List UInt8 → RepR Rep) (hf : ∀ s : St, s.p ≤ l.length → BrS l (f s) (g s.texts s.items (l.drop s.p))) :
    ∀ (k : Nat) (s : St), s.p ≤ l.length → BrS l (repsS f k s) (repsR g k s.texts s.items (l.drop s.p))
  | 0, s, hp => ⟨rfl, rfl, rfl, hp, rfl⟩
  | k + 1, s, hp => by
    simp only [repsS, repsR]
    have h := hf s hp
    revert h
    cases f s <;> cases g s.texts s.items (l.drop s.p) <;> intro h <;> first | exact False.elim h | exact h | skip
    rename_i x y
    obtain ⟨x1, x2⟩ := x
    obtain ⟨⟨y1, y2, y3⟩, y4⟩ := y
    obtain ⟨h1, h2, h3, h4, h5⟩ := h
    simp only at h1 h2 h3 h4 h5
    subst h1 h2 h3 h5
    simp only
    have h := reps_br l f g hf k x2 h4
    revert h
    cases repsS f k x2 <;> cases repsR g k x2.texts x2.items (l.drop x2.p) <;> intro h <;> first | exact False.elim h | exact h | skip
    obtain ⟨h1, h2, h3, h4, h5⟩ := h
    exact ⟨by simp only [h1], h2, h3, h4, h5⟩
theorem list_br (l : List UInt8) (f : St → Except Int (Rep × St)) (g : Nat → Nat → List UInt8 → RepR Rep) (hf : ∀ s : St, s.p ≤ l.length → BrS l (f s) (g s.texts s.items (l.drop s.p))) (s : St) (hp : s.p ≤ l.length) :
    BrS l (listS l f s) (listR g s.texts s.items (l.drop s.p)) := by
  unfold listS listR
  have h := num_br l 0 s.items (l.length - s.p) 0 0 s.p hp (Nat.le_refl _)
  revert h
  cases numS l 0 s.items (l.length - s.p) 0 0 s.p <;> cases numR 0 s.items 0 0 (l.drop s.p) <;> intro h <;> first | exact False.elim h | exact h | skip
  rename_i x y
  obtain ⟨x1, x2⟩ := x
  obtain ⟨y1, y2⟩ := y
  obtain ⟨h1, h2, h3⟩ := h
  simp only at h1 h2 h3
  subst h1 h3
  have h := reps_br l f g hf x1 ⟨x2, s.texts, s.items - x1⟩ h2
  simp only at h ⊢
  revert h
  cases repsS f x1 ⟨x2, s.texts, s.items - x1⟩ <;> cases repsR g x1 s.texts (s.items - x1) (l.drop x2) <;> intro h <;> first | exact False.elim h | exact h | skip
  obtain ⟨h1, h2, h3, h4, h5⟩ := h
  exact ⟨by simp only [h1], h2, h3, h4, h5⟩
theorem dollar_br (l : List UInt8) (s : St) (hp : s.p ≤ l.length) : BrS l (dollarS l s) (dollarR s.texts s.items (l.drop s.p)) := by
  unfold dollarS dollarR
  by_cases h : s.p < l.length ∧ l[s.p]!.toNat = 45
  · have hd : isDash (l.drop s.p) = true := by
      rw [drop_at h.1]; have := h.2; rw [getElem!_pos l s.p h.1] at this; simp [isDash, this]
    rw [dif_pos h, if_pos hd]
    have hk := skip_br l [45, 49, 13, 10] s.p hp
    revert hk
    cases skipS l [45, 49, 13, 10] s.p <;> cases skipR [45, 49, 13, 10] (l.drop s.p) <;> intro h <;> first | exact False.elim h | exact h | skip
    exact ⟨rfl, rfl, rfl, h.1, h.2⟩
  · have hd : ¬ isDash (l.drop s.p) = true := by
      by_cases hlt : s.p < l.length
      · rw [drop_at hlt]
        have h2 : ¬ l[s.p]!.toNat = 45 := fun e => h ⟨hlt, e⟩
        rw [getElem!_pos l s.p hlt] at h2
        simpa [isDash] using h2
      · rw [drop_end hlt]; simp [isDash]
    rw [dif_neg h, if_neg hd]
    exact (bulk_br l s.texts s.p hp).toS (fun x => Rep.mk 4 0 x []) (fun x => s.texts - x.size) (fun _ => s.items)
theorem kind_br (l : List UInt8) (sub : Option (St → Except Int (Rep × St))) (sub' : Option (Nat → Nat → List UInt8 → RepR Rep)) (hs : match sub, sub' with | none, none => True | some f, some g => ∀ s : St, s.p ≤ l.length → BrS l (f s) (g s.texts s.items (l.drop s.p)) | _, _ => False)
    (c : Nat) (s : St) (hp : s.p ≤ l.length) : BrS l (kindS l sub c s) (kindR sub' c s.texts s.items (l.drop s.p)) := by
  unfold kindS kindR
  by_cases h1 : c = 43
  · rw [if_pos h1, if_pos h1]; exact (line_br l s.texts s.p hp).line 1 s.items
  · rw [if_neg h1, if_neg h1]
    by_cases h2 : c = 45
    · rw [if_pos h2, if_pos h2]; exact (line_br l s.texts s.p hp).line 2 s.items
    · rw [if_neg h2, if_neg h2]
      by_cases h3 : c = 58
      · rw [if_pos h3, if_pos h3]; exact (sign_br l s.p hp).toS (fun x => Rep.mk 3 x ⟨#[]⟩ []) (fun _ => s.texts) (fun _ => s.items)
      · rw [if_neg h3, if_neg h3]
        by_cases h4 : c = 36
        · rw [if_pos h4, if_pos h4]; exact dollar_br l s hp
        · rw [if_neg h4, if_neg h4]
          by_cases h5 : c = 42
          · rw [if_pos h5, if_pos h5]
            cases sub <;> cases sub' <;> first | exact False.elim hs | rfl | exact list_br l _ _ hs s hp
          · rw [if_neg h5, if_neg h5]; rfl
theorem reply_br (l : List UInt8) : ∀ (d : Nat) (s : St), s.p ≤ l.length → BrS l (replyS l d s) (replyR d s.texts s.items (l.drop s.p))
  | 0, s, hp => by
    by_cases h : s.p < l.length
    · rw [drop_at h]
      simp only [replyS, replyR, dif_pos h]
      exact kind_br l none none trivial _ ⟨s.p + 1, s.texts, s.items⟩ h
    · rw [drop_end h]
      simp only [replyS, replyR, dif_neg h]; rfl
  | d + 1, s, hp => by
    by_cases h : s.p < l.length
    · rw [drop_at h]
      simp only [replyS, replyR, dif_pos h]
      exact kind_br l (some _) (some _) (fun s hs => reply_br l d s hs) _ ⟨s.p + 1, s.texts, s.items⟩ h
    · rw [drop_end h]
      simp only [replyS, replyR, dif_neg h]; rfl
theorem decode_br (l : List UInt8) : BrS l (decodeS l) (decodeR l) := by
  have := reply_br l 100 ⟨0, 1048576, 65536⟩ (Nat.zero_le _)
  rwa [List.drop_zero] at this

/-! ### It goes on -/
theorem plain_goes : ∀ (b : List UInt8) (t : Nat) (m : List UInt8), (∀ x r, plainR t b = .ok (x, r) → plainR t (b ++ m) = .ok (x, r ++ m)) ∧ (∀ e, plainR t b = .error e → e = 130 ∨ (e = 131 ∧ plainR t (b ++ m) = .error 131))
  | [], t, m => ⟨fun x r h => (by simp only [plainR] at h; cases h), fun e h => (by simp only [plainR] at h; cases h; exact .inl rfl)⟩
  | c :: b, t, m => by
    simp only [plainR, List.cons_append]
    by_cases h1 : c.toNat = 13
    · simp only [if_pos h1]
      exact ⟨fun x r h => (by cases h; rfl), fun e h => (by cases h)⟩
    · simp only [if_neg h1]
      by_cases h2 : c.toNat = 10 ∨ t = 0
      · simp only [if_pos h2]; exact ⟨fun x r h => (by cases h), fun e h => (by cases h; exact .inr ⟨rfl, trivial⟩)⟩
      · simp only [if_neg h2]
        have h := plain_goes b (t - 1) m
        constructor
        · intro x r hx
          cases hb : plainR (t - 1) b with
          | error e => rw [hb] at hx; cases hx
          | ok q => rw [hb] at hx; cases hx; rw [h.1 _ _ hb]; rfl
        · intro e hx
          cases hb : plainR (t - 1) b with
          | ok q => rw [hb] at hx; cases hx
          | error e' =>
            rw [hb] at hx; cases hx
            rcases h.2 _ hb with h1 | ⟨h1, h2⟩
            · exact .inl h1
            · exact .inr ⟨h1, by rw [h2]; rfl⟩
theorem line_goes (t : Nat) : Goes (lineR t) :=
  (Goes.then (f := plainR t) (g := fun x q => (skipR [10] q).map fun r => (((⟨x.1.toArray⟩ : ByteArray), x.2), r)) (fun b m => plain_goes b t m) fun x => fun b m => Goes.map0 (skip_goes [10]) _ b m).of_eq fun b => by
    unfold lineR; cases plainR t b <;> rfl
theorem num_goes' (a b : Nat) : Goes (numR a b 0 0) := fun l m => num_goes a b l 0 0 m
theorem sign_goes : Goes signR
  | [], m => ⟨fun x r h => (by simp only [signR] at h; cases h), fun e h => (by simp only [signR] at h; cases h; exact .inl rfl)⟩
  | c :: b, m => by
    simp only [signR, List.cons_append]
    by_cases h1 : c.toNat = 45
    · simp only [if_pos h1]
      exact (num_goes' 1 9223372036854775808).map (fun x => -(x : Int)) b m
    · simp only [if_neg h1]
      exact (num_goes' 0 9223372036854775807).map (fun x => (x : Int)) (c :: b) m
theorem reps_goes (f : Nat → Nat → List UInt8 → RepR Rep) (hf : ∀ t i, Goes (f t i)) : ∀ (k t i : Nat), Goes (repsR f k t i)
  | 0, t, i => fun b m => ⟨fun x r h => (by simp only [repsR] at h ⊢; cases h; rfl), fun e h => (by simp only [repsR] at h; cases h)⟩
  | k + 1, t, i => (Goes.then (hf t i) (g := fun x q => (repsR f k x.2.1 x.2.2 q).map fun y => ((x.1 :: y.1.1, y.1.2), y.2)) fun x => (reps_goes f hf k x.2.1 x.2.2).map (fun y => (x.1 :: y.1, y.2))).of_eq fun b => by
    simp only [repsR]
    cases f t i b <;> rfl
theorem list_goes (f : Nat → Nat → List UInt8 → RepR Rep) (hf : ∀ t i, Goes (f t i)) (t i : Nat) : Goes (listR f t i) :=
  (Goes.then (num_goes' 0 i) (g := fun n q => (repsR f n t (i - n) q).map fun x => ((Rep.mk 5 0 ⟨#[]⟩ x.1.1, x.1.2), x.2)) fun n => (reps_goes f hf n t (i - n)).map (fun x => (Rep.mk 5 0 ⟨#[]⟩ x.1, x.2))).of_eq fun b => by
    unfold listR; cases numR 0 i 0 0 b <;> rfl
theorem dollar_goes (t i : Nat) : Goes (dollarR t i)
  | [], m => by
    refine ⟨fun x r h => ?_, fun e h => ?_⟩
    · simp [dollarR, isDash, bulkR, numR, Except.map] at h
    · simp [dollarR, isDash, bulkR, numR, Except.map] at h; exact .inl h.symm
  | c :: b, m => by
    unfold dollarR
    have e : isDash (c :: b ++ m) = isDash (c :: b) := rfl
    rw [e]
    by_cases h : isDash (c :: b) = true
    · simp only [if_pos h]
      exact Goes.map0 (skip_goes [45, 49, 13, 10]) _ (c :: b) m
    · simp only [if_neg h]
      exact (bulk_goes t).map (fun x => (Rep.mk 4 0 x [], t - x.size, i)) (c :: b) m
theorem kind_goes (sub : Option (Nat → Nat → List UInt8 → RepR Rep)) (hs : ∀ f, sub = some f → ∀ t i, Goes (f t i)) (c t i : Nat) : Goes (kindR sub c t i) := by
  unfold kindR
  by_cases h1 : c = 43
  · simp only [if_pos h1]; exact (line_goes t).map (fun x => (Rep.mk 1 0 x.1 [], x.2, i))
  · simp only [if_neg h1]
    by_cases h2 : c = 45
    · simp only [if_pos h2]; exact (line_goes t).map (fun x => (Rep.mk 2 0 x.1 [], x.2, i))
    · simp only [if_neg h2]
      by_cases h3 : c = 58
      · simp only [if_pos h3]; exact sign_goes.map (fun x => (Rep.mk 3 x ⟨#[]⟩ [], t, i))
      · simp only [if_neg h3]
        by_cases h4 : c = 36
        · simp only [if_pos h4]; exact dollar_goes t i
        · simp only [if_neg h4]
          by_cases h5 : c = 42
          · simp only [if_pos h5]
            cases sub with
            | none => exact fun b m => ⟨fun x r h => (by cases h), fun e h => (by cases h; exact .inr ⟨rfl, rfl⟩)⟩
            | some f => exact list_goes f (hs f rfl) t i
          · simp only [if_neg h5]
            exact fun b m => ⟨fun x r h => (by cases h), fun e h => (by cases h; exact .inr ⟨rfl, rfl⟩)⟩
theorem reply_goes : ∀ (d t i : Nat), Goes (replyR d t i)
  | d, t, i, [], m => ⟨fun x r h => (by simp only [replyR] at h; cases h), fun e h => (by simp only [replyR] at h; cases h; exact .inl rfl)⟩
  | 0, t, i, c :: b, m => by
    simp only [replyR, List.cons_append]
    exact kind_goes none (fun f h => (by cases h)) _ t i b m
  | d + 1, t, i, c :: b, m => by
    simp only [replyR, List.cons_append]
    exact kind_goes (some (replyR d)) (fun f h => by cases h; exact fun t i => reply_goes d t i) _ t i b m
theorem decode_goes : Goes decodeR := reply_goes 100 _ _
end Go.Proofs.YtopdgmchkoaeeaaDoor
