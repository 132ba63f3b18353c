/- Requests and replies, told plainly: what bytes begin with. Requests and replies on what is left of the bytes: readers that go on, numbers as they are laid and read. -/
import Derived.Lib.ItoaMem
namespace Go.Proofs.YtopdgmchkoaeeaaDoor
set_option linter.unusedVariables false

/-- These bytes, from a place on. -/
def skipS (l : List UInt8) : List UInt8 → Nat → Except Int Nat
  | [], p => .ok p
  | c :: s, p => if h : p < l.length then (if l[p] = c then skipS l s (p + 1) else .error 131) else .error 130
/-- A line of digits: k is at least how many bytes are left. -/
def numS (l : List UInt8) (least most : Nat) : Nat → Nat → Nat → Nat → Except Int (Nat × Nat)
  | 0, _, _, _ => .error 130
  | k + 1, many, n, p =>
    if h : p < l.length then
      if l[p].toNat = 13 ∧ 0 < many then (skipS l [10] (p + 1)).map fun q => (n, q)
      else if l[p].toNat < 48 ∨ 57 < l[p].toNat ∨ (many = 1 ∧ n = 0) ∨ (many = 0 ∧ l[p].toNat - 48 < least) then .error 131
      else if 10 * n + (l[p].toNat - 48) ≤ most then numS l least most k (many + 1) (10 * n + (l[p].toNat - 48)) (p + 1)
      else .error 131
    else .error 130
def cutS (l : List UInt8) (p n : Nat) : ByteArray := ⟨((l.drop p).take n).toArray⟩
/-- So many bytes, and the line's end. -/
def textS (l : List UInt8) (n p : Nat) : Except Int (ByteArray × Nat) :=
  if p + n ≤ l.length then (skipS l [13, 10] (p + n)).map fun q => (cutS l p n, q) else .error 130
def bulkS (l : List UInt8) (texts p : Nat) : Except Int (ByteArray × Nat) :=
  match numS l 0 texts (l.length - p) 0 0 p with
  | .ok (n, q) => textS l n q
  | .error e => .error e
/-- So many texts, each behind its sign. -/
def bulksS (l : List UInt8) : Nat → Nat → Nat → Except Int (List ByteArray × Nat)
  | 0, _, p => .ok ([], p)
  | k + 1, texts, p =>
    match skipS l [36] p with
    | .error e => .error e
    | .ok q =>
      match bulkS l texts q with
      | .error e => .error e
      | .ok (s, q') => (bulksS l k (texts - s.size) q').map fun x => (s :: x.1, x.2)
def parseS (l : List UInt8) : Except Int (List ByteArray × Nat) :=
  match skipS l [42] 0 with
  | .error e => .error e
  | .ok p =>
    match numS l 1 65536 (l.length - p) 0 0 p with
    | .error e => .error e
    | .ok (k, q) => bulksS l k 1048576 q

/-- A reply: its kind, its number, its text, its list. -/
inductive Rep where
  | mk (k n : Int) (s : ByteArray) (l : List Rep)
/-- Where a line's text ends, and how many bytes of texts there may be yet. -/
def plainS (l : List UInt8) : Nat → Nat → Nat → Except Int (Nat × Nat)
  | 0, _, _ => .error 130
  | k + 1, texts, p =>
    if h : p < l.length then
      if l[p].toNat = 13 then .ok (p, texts)
      else if l[p].toNat = 10 ∨ texts = 0 then .error 131
      else plainS l k (texts - 1) (p + 1)
    else .error 130
/-- A line's text: the text, where it ends, how many bytes of texts there may be yet. -/
def lineS' (l : List UInt8) (texts p : Nat) : Except Int (ByteArray × Nat × Nat) :=
  match plainS l (l.length - p) texts p with
  | .error e => .error e
  | .ok (q, t) => (skipS l [10] (q + 1)).map fun r => (cutS l p (q - p), r, t)
def signS (l : List UInt8) (p : Nat) : Except Int (Int × Nat) :=
  if h : p < l.length then
    if l[p].toNat = 45 then (numS l 1 9223372036854775808 (l.length - (p + 1)) 0 0 (p + 1)).map fun x => (-(x.1 : Int), x.2)
    else (numS l 0 9223372036854775807 (l.length - p) 0 0 p).map fun x => ((x.1 : Int), x.2)
  else .error 130
structure St where
  p : Nat
  texts : Nat
  items : Nat
def repsS (f : St → Except Int (Rep × St)) : Nat → St → Except Int (List Rep × St)
  | 0, s => .ok ([], s)
  | k + 1, s =>
    match f s with
    | .error e => .error e
    | .ok (x, s') => (repsS f k s').map fun y => (x :: y.1, y.2)
/-- What stands behind a sign that begins a list. -/
def listS (l : List UInt8) (f : St → Except Int (Rep × St)) (s : St) : Except Int (Rep × St) :=
  match numS l 0 s.items (l.length - s.p) 0 0 s.p with
  | .error e => .error e
  | .ok (n, q) => (repsS f n ⟨q, s.texts, s.items - n⟩).map fun x => (.mk 5 0 ⟨#[]⟩ x.1, x.2)
def dollarS (l : List UInt8) (s : St) : Except Int (Rep × St) :=
  if h : s.p < l.length ∧ l[s.p]!.toNat = 45 then (skipS l [45, 49, 13, 10] s.p).map fun q => (.mk 0 0 ⟨#[]⟩ [], ⟨q, s.texts, s.items⟩)
  else (bulkS l s.texts s.p).map fun x => (.mk 4 0 x.1 [], ⟨x.2, s.texts - x.1.size, s.items⟩)
/-- A reply behind its sign. -/
def kindS (l : List UInt8) (sub : Option (St → Except Int (Rep × St))) (c : Nat) (s : St) : Except Int (Rep × St) :=
  if c = 43 then (lineS' l s.texts s.p).map fun x => (.mk 1 0 x.1 [], ⟨x.2.1, x.2.2, s.items⟩)
  else if c = 45 then (lineS' l s.texts s.p).map fun x => (.mk 2 0 x.1 [], ⟨x.2.1, x.2.2, s.items⟩)
  else if c = 58 then (signS l s.p).map fun x => (.mk 3 x.1 ⟨#[]⟩ [], ⟨x.2, s.texts, s.items⟩)
  else if c = 36 then dollarS l s
  else if c = 42 then (match sub with | none => .error 131 | some f => listS l f s)
  else .error 131
def replyS (l : List UInt8) : Nat → St → Except Int (Rep × St)
  | 0, s => if h : s.p < l.length then kindS l none l[s.p].toNat ⟨s.p + 1, s.texts, s.items⟩ else .error 130
  | d + 1, s => if h : s.p < l.length then kindS l (some (replyS l d)) l[s.p].toNat ⟨s.p + 1, s.texts, s.items⟩ else .error 130
def decodeS (l : List UInt8) : Except Int (Rep × St) := replyS l 100 ⟨0, 1048576, 65536⟩
end Go.Proofs.YtopdgmchkoaeeaaDoor
namespace Go.Proofs.YtopdgmchkoaeeaaDoor
open Go.Lib
set_option linter.unusedVariables false
set_option linter.unusedSimpArgs false

/-- What stands behind these bytes. -/
def skipR : List UInt8 → List UInt8 → Except Int (List UInt8)
  | [], r => .ok r
  | _ :: _, [] => .error 130
  | c :: s, x :: r => if x = c then skipR s r else .error 131
def numR (least most : Nat) : Nat → Nat → List UInt8 → Except Int (Nat × List UInt8)
  | _, _, [] => .error 130
  | m, n, c :: r =>
    if c.toNat = 13 ∧ 0 < m then (skipR [10] r).map fun q => (n, q)
    else if c.toNat < 48 ∨ 57 < c.toNat ∨ (m = 1 ∧ n = 0) ∨ (m = 0 ∧ c.toNat - 48 < least) then .error 131
    else if 10 * n + (c.toNat - 48) ≤ most then numR least most (m + 1) (10 * n + (c.toNat - 48)) r
    else .error 131
def textR (n : Nat) (b : List UInt8) : Except Int (ByteArray × List UInt8) :=
  if n ≤ b.length then (skipR [13, 10] (b.drop n)).map fun q => (⟨(b.take n).toArray⟩, q) else .error 130
def bulkR (texts : Nat) (b : List UInt8) : Except Int (ByteArray × List UInt8) :=
  match numR 0 texts 0 0 b with
  | .ok (n, q) => textR n q
  | .error e => .error e
def bulksR : Nat → Nat → List UInt8 → Except Int (List ByteArray × List UInt8)
  | 0, _, b => .ok ([], b)
  | k + 1, texts, b =>
    match skipR [36] b with
    | .error e => .error e
    | .ok q =>
      match bulkR texts q with
      | .error e => .error e
      | .ok (s, q') => (bulksR k (texts - s.size) q').map fun x => (s :: x.1, x.2)
def parseR (b : List UInt8) : Except Int (List ByteArray × List UInt8) :=
  match skipR [42] b with
  | .error e => .error e
  | .ok p =>
    match numR 1 65536 0 0 p with
    | .error e => .error e
    | .ok (k, q) => bulksR k 1048576 q

/-- Both tell the same: a place, and what is left behind it. -/
def Br {α : Type} (l : List UInt8) : Except Int (α × Nat) → Except Int (α × List UInt8) → Prop
  | .ok x, .ok y => x.1 = y.1 ∧ x.2 ≤ l.length ∧ y.2 = l.drop x.2
  | .error e, .error f => e = f
  | _, _ => False
def Br0 (l : List UInt8) : Except Int Nat → Except Int (List UInt8) → Prop
  | .ok x, .ok y => x ≤ l.length ∧ y = l.drop x
  | .error e, .error f => e = f
  | _, _ => False
theorem drop_at {l : List UInt8} {p : Nat} (h : p < l.length) : l.drop p = l[p] :: l.drop (p + 1) := List.drop_eq_getElem_cons h
theorem drop_end {l : List UInt8} {p : Nat} (h : ¬ p < l.length) : l.drop p = [] := List.drop_eq_nil_of_le (by omega)
theorem skip_br (l : List UInt8) : ∀ (s : List UInt8) (p : Nat), p ≤ l.length → Br0 l (skipS l s p) (skipR s (l.drop p))
  | [], p, hp => ⟨hp, rfl⟩
  | c :: s, p, hp => by
    by_cases h : p < l.length
    · rw [drop_at h]
      simp only [skipS, skipR, dif_pos h]
      by_cases hc : l[p] = c
      · rw [if_pos hc, if_pos hc]; exact skip_br l s (p + 1) (by omega)
      · rw [if_neg hc, if_neg hc]; rfl
    · rw [drop_end h]
      simp only [skipS, skipR, dif_neg h]
      rfl
theorem Br.map0 {α : Type} {l : List UInt8} {x : Except Int Nat} {y : Except Int (List UInt8)} (h : Br0 l x y) (a : α) : Br l (x.map fun q => (a, q)) (y.map fun q => (a, q)) := by
  cases x <;> cases y <;> first | exact False.elim h | exact h | exact ⟨rfl, h.1, h.2⟩
theorem num_br (l : List UInt8) (a b : Nat) : ∀ (k m n p : Nat), p ≤ l.length → l.length - p ≤ k → Br l (numS l a b k m n p) (numR a b m n (l.drop p))
  | 0, m, n, p, hp, hk => by
    rw [drop_end (by omega)]
    simp only [numS, numR]; rfl
  | k + 1, m, n, p, hp, hk => by
    by_cases h : p < l.length
    · rw [drop_at h]
      simp only [numS, numR, dif_pos h]
      by_cases h1 : l[p].toNat = 13 ∧ 0 < m
      · rw [if_pos h1, if_pos h1]
        exact Br.map0 (skip_br l _ _ (by omega)) n
      · rw [if_neg h1, if_neg h1]
        by_cases h2 : l[p].toNat < 48 ∨ 57 < l[p].toNat ∨ (m = 1 ∧ n = 0) ∨ (m = 0 ∧ l[p].toNat - 48 < a)
        · rw [if_pos h2, if_pos h2]; rfl
        · rw [if_neg h2, if_neg h2]
          by_cases h3 : 10 * n + (l[p].toNat - 48) ≤ b
          · rw [if_pos h3, if_pos h3]
            exact num_br l a b k (m + 1) _ (p + 1) (by omega) (by omega)
          · rw [if_neg h3, if_neg h3]; rfl
    · rw [drop_end h]
      simp only [numS, numR, dif_neg h]
      rfl
theorem text_br (l : List UInt8) (n p : Nat) (hp : p ≤ l.length) : Br l (textS l n p) (textR n (l.drop p)) := by
  unfold textS textR
  by_cases h : p + n ≤ l.length
  · rw [if_pos h, if_pos (by rw [List.length_drop]; omega), List.drop_drop]
    exact Br.map0 (skip_br l _ _ h) _
  · rw [if_neg h, if_neg (by rw [List.length_drop]; omega)]
    rfl
theorem bulk_br (l : List UInt8) (t p : Nat) (hp : p ≤ l.length) : Br l (bulkS l t p) (bulkR t (l.drop p)) := by
  unfold bulkS bulkR
  have h := num_br l 0 t (l.length - p) 0 0 p hp (Nat.le_refl _)
  revert h
  cases numS l 0 t (l.length - p) 0 0 p <;> cases numR 0 t 0 0 (l.drop p) <;> intro h <;> first | exact False.elim h | exact h | skip
  rename_i x y
  obtain ⟨x1, x2⟩ := x
  obtain ⟨y1, y2⟩ := y
  obtain ⟨h1, h2, h3⟩ := h
  simp only at h1 h2 h3
  subst h1 h3
  exact text_br l _ _ h2
theorem bulks_br (l : List UInt8) : ∀ (k t p : Nat), p ≤ l.length → Br l (bulksS l k t p) (bulksR k t (l.drop p))
  | 0, t, p, hp => ⟨rfl, hp, rfl⟩
  | k + 1, t, p, hp => by
    simp only [bulksS, bulksR]
    have h := skip_br l [36] p hp
    revert h
    cases skipS l [36] p <;> cases skipR [36] (l.drop p) <;> intro h <;> first | exact False.elim h | exact h | skip
    rename_i q r
    obtain ⟨hq, rfl⟩ := h
    have h := bulk_br l t q hq
    simp only
    revert h
    cases bulkS l t q <;> cases bulkR t (l.drop q) <;> intro h <;> first | exact False.elim h | exact h | skip
    rename_i x y
    obtain ⟨x1, x2⟩ := x
    obtain ⟨y1, y2⟩ := y
    obtain ⟨h1, h2, h3⟩ := h
    simp only at h1 h2 h3
    subst h1 h3
    have h := bulks_br l k (t - x1.size) x2 h2
    simp only
    revert h
    cases bulksS l k (t - x1.size) x2 <;> cases bulksR k (t - x1.size) (l.drop x2) <;> intro h <;> first | exact False.elim h | exact h | skip
    exact ⟨by simp only [h.1], h.2.1, h.2.2⟩
theorem parse_br (l : List UInt8) : Br l (parseS l) (parseR l) := by
  unfold parseS parseR
  have h := skip_br l [42] 0 (by omega)
  rw [List.drop_zero] at h
  revert h
  cases skipS l [42] 0 <;> cases skipR [42] l <;> intro h <;> first | exact False.elim h | exact h | skip
  rename_i q r
  obtain ⟨hq, rfl⟩ := h
  have h := num_br l 1 65536 (l.length - q) 0 0 q hq (Nat.le_refl _)
  simp only
  revert h
  cases numS l 1 65536 (l.length - q) 0 0 q <;> cases numR 1 65536 0 0 (l.drop q) <;> intro h <;> first | exact False.elim h | exact h | skip
  rename_i x y
  obtain ⟨x1, x2⟩ := x
  obtain ⟨y1, y2⟩ := y
  obtain ⟨h1, h2, h3⟩ := h
  simp only at h1 h2 h3
  subst h1 h3
  exact bulks_br l _ _ _ h2

/-- What is read stays so, whatever stands behind; what begins none never does. -/
def Goes {α : Type} (f : List UInt8 → Except Int (α × List UInt8)) : Prop :=
  ∀ b m, (∀ a r, f b = .ok (a, r) → f (b ++ m) = .ok (a, r ++ m)) ∧ (∀ e, f b = .error e → e = 130 ∨ (e = 131 ∧ f (b ++ m) = .error 131))
def Goes0 (f : List UInt8 → Except Int (List UInt8)) : Prop :=
  ∀ b m, (∀ r, f b = .ok r → f (b ++ m) = .ok (r ++ m)) ∧ (∀ e, f b = .error e → e = 130 ∨ (e = 131 ∧ f (b ++ m) = .error 131))
theorem skip_goes : ∀ (s : List UInt8), Goes0 (skipR s)
  | [], b, m => ⟨fun r h => (by simp only [skipR] at h ⊢; cases h; rfl), fun e h => (by simp only [skipR] at h; cases h)⟩
  | c :: s, [], m => ⟨fun r h => (by simp only [skipR] at h; cases h), fun e h => (by simp only [skipR] at h; cases h; exact .inl rfl)⟩
  | c :: s, x :: b, m => by
    simp only [skipR, List.cons_append]
    by_cases h : x = c
    · simp only [if_pos h]; exact skip_goes s b m
    · simp only [if_neg h]; exact ⟨fun r h => (by cases h), fun e h => (by cases h; exact .inr ⟨rfl, trivial⟩)⟩
theorem Goes.map0 {α : Type} {f : List UInt8 → Except Int (List UInt8)} (h : Goes0 f) (a : α) (b m : List UInt8) :
    (∀ x r, (f b).map (fun q => (a, q)) = .ok (x, r) → (f (b ++ m)).map (fun q => (a, q)) = .ok (x, r ++ m)) ∧ (∀ e, (f b).map (fun q => (a, q)) = .error e → e = 130 ∨ (e = 131 ∧ (f (b ++ m)).map (fun q => (a, q)) = .error 131)) := by
  constructor
  · intro x r hx
    cases hb : f b with
    | error e => rw [hb] at hx; cases hx
    | ok q => rw [hb] at hx; cases hx; rw [(h b m).1 _ hb]; rfl
  · intro e hx
    cases hb : f b with
    | ok q => rw [hb] at hx; cases hx
    | error e' =>
      rw [hb] at hx; cases hx
      rcases (h b m).2 _ hb with h1 | ⟨h1, h2⟩
      · exact .inl h1
      · exact .inr ⟨h1, by rw [h2]; rfl⟩
theorem num_goes (a b : Nat) : ∀ (l : List UInt8) (m n : Nat) (k : List UInt8), (∀ x r, numR a b m n l = .ok (x, r) → numR a b m n (l ++ k) = .ok (x, r ++ k)) ∧ (∀ e, numR a b m n l = .error e → e = 130 ∨ (e = 131 ∧ numR a b m n (l ++ k) = .error 131))
  | [], m, n, k => ⟨fun x r h => (by simp only [numR] at h; cases h), fun e h => (by simp only [numR] at h; cases h; exact .inl rfl)⟩
  | c :: l, m, n, k => by
    simp only [numR, List.cons_append]
    by_cases h1 : c.toNat = 13 ∧ 0 < m
    · simp only [if_pos h1]
      exact Goes.map0 (skip_goes [10]) n l k
    · simp only [if_neg h1]
      by_cases h2 : c.toNat < 48 ∨ 57 < c.toNat ∨ (m = 1 ∧ n = 0) ∨ (m = 0 ∧ c.toNat - 48 < a)
      · simp only [if_pos h2]; exact ⟨fun x r h => (by cases h), fun e h => (by cases h; exact .inr ⟨rfl, trivial⟩)⟩
      · simp only [if_neg h2]
        by_cases h3 : 10 * n + (c.toNat - 48) ≤ b
        · simp only [if_pos h3]
          exact num_goes a b l (m + 1) _ k
        · simp only [if_neg h3]; exact ⟨fun x r h => (by cases h), fun e h => (by cases h; exact .inr ⟨rfl, trivial⟩)⟩
theorem text_goes (n : Nat) : Goes (textR n) := by
  intro b m
  unfold textR
  by_cases h : n ≤ b.length
  · have h' : n ≤ (b ++ m).length := by rw [List.length_append]; omega
    rw [if_pos h, if_pos h', List.drop_append_of_le_length h, List.take_append_of_le_length h]
    exact Goes.map0 (skip_goes [13, 10]) _ _ _
  · rw [if_neg h]
    exact ⟨fun x r h => (by cases h), fun e h => by cases h; exact .inl rfl⟩
theorem Goes.then {α β : Type} {f : List UInt8 → Except Int (α × List UInt8)} {g : α → List UInt8 → Except Int (β × List UInt8)} (hf : Goes f) (hg : ∀ a, Goes (g a)) :
    Goes (fun b => match f b with | .error e => .error e | .ok (a, q) => g a q) := by
  intro b m
  have h := hf b m
  constructor
  · intro x r hx
    cases hb : f b with
    | error e => simp only [hb] at hx; cases hx
    | ok y =>
      obtain ⟨a, q⟩ := y
      simp only [hb] at hx
      simp only [h.1 a q hb]
      exact (hg a q m).1 x r hx
  · intro e hx
    cases hb : f b with
    | error e' =>
      simp only [hb] at hx
      cases hx
      rcases h.2 _ hb with h1 | ⟨h1, h2⟩
      · exact .inl h1
      · exact .inr ⟨h1, by simp only [h2]⟩
    | ok y =>
      obtain ⟨a, q⟩ := y
      simp only [hb] at hx
      simp only [h.1 a q hb]
      exact (hg a q m).2 e hx
theorem Goes.then0 {β : Type} {f : List UInt8 → Except Int (List UInt8)} {g : List UInt8 → Except Int (β × List UInt8)} (hf : Goes0 f) (hg : Goes g) :
    Goes (fun b => match f b with | .error e => .error e | .ok q => g q) := by
  intro b m
  have h := hf b m
  constructor
  · intro x r hx
    cases hb : f b with
    | error e => simp only [hb] at hx; cases hx
    | ok q =>
      simp only [hb] at hx
      simp only [h.1 q hb]
      exact (hg q m).1 x r hx
  · intro e hx
    cases hb : f b with
    | error e' =>
      simp only [hb] at hx
      cases hx
      rcases h.2 _ hb with h1 | ⟨h1, h2⟩
      · exact .inl h1
      · exact .inr ⟨h1, by simp only [h2]⟩
    | ok q =>
      simp only [hb] at hx
      simp only [h.1 q hb]
      exact (hg q m).2 e hx
theorem Goes.map {α β : Type} {f : List UInt8 → Except Int (α × List UInt8)} (hf : Goes f) (k : α → β) : Goes (fun b => (f b).map fun x => (k x.1, x.2)) := by
  intro b m
  have h := hf b m
  constructor
  · intro x r hx
    cases hb : f b with
    | error e => simp only [hb] at hx; cases hx
    | ok y =>
      obtain ⟨a, q⟩ := y
      simp only [hb] at hx
      cases hx
      simp only [h.1 a q hb]; rfl
  · intro e hx
    cases hb : f b with
    | error e' =>
      simp only [hb] at hx
      cases hx
      rcases h.2 _ hb with h1 | ⟨h1, h2⟩
      · exact .inl h1
      · exact .inr ⟨h1, by simp only [h2]; rfl⟩
    | ok y => simp only [hb] at hx; cases hx
theorem Goes.of_eq {α : Type} {f g : List UInt8 → Except Int (α × List UInt8)} (h : Goes f) (e : ∀ b, g b = f b) : Goes g := by
  rw [show g = f from funext e]; exact h
theorem bulk_goes (t : Nat) : Goes (bulkR t) :=
  (Goes.then (f := numR 0 t 0 0) (g := textR) (fun b m => num_goes 0 t b 0 0 m) text_goes).of_eq fun b => by
    unfold bulkR; cases numR 0 t 0 0 b <;> rfl
theorem bulks_goes : ∀ (k t : Nat), Goes (bulksR k t)
  | 0, t => fun b m => ⟨fun x r h => (by simp only [bulksR] at h ⊢; cases h; rfl), fun e h => (by simp only [bulksR] at h; cases h)⟩
  | k + 1, t => (Goes.then0 (skip_goes [36]) (Goes.then (bulk_goes t) (g := fun s q => (bulksR k (t - s.size) q).map fun x => (s :: x.1, x.2)) fun s => (bulks_goes k (t - s.size)).map (s :: ·))).of_eq fun b => by
    simp only [bulksR]
    cases skipR [36] b with
    | error e => rfl
    | ok q => simp only; cases bulkR t q <;> rfl
theorem parse_goes : Goes parseR :=
  (Goes.then0 (skip_goes [42]) (Goes.then (f := numR 1 65536 0 0) (g := fun k q => bulksR k 1048576 q) (fun b m => num_goes 1 65536 b 0 0 m) fun k => bulks_goes k _)).of_eq fun b => by
    unfold parseR
    cases skipR [42] b with
    | error e => rfl
    | ok q => simp only; cases numR 1 65536 0 0 q <;> rfl

/-! ### Numbers -/
theorem dec_small {n : Nat} (h : n < 10) : decDigits n = [UInt8.ofNat (48 + n)] := by rw [decDigits, dif_pos h]
theorem dec_big {n : Nat} (h : ¬ n < 10) : decDigits n = decDigits (n / 10) ++ [UInt8.ofNat (48 + n % 10)] := by rw [decDigits, dif_neg h]
theorem dec_next {n d : Nat} (hn : 1 ≤ n) (hd : d < 10) : decDigits (10 * n + d) = decDigits n ++ [UInt8.ofNat (48 + d)] := by
  rw [dec_big (by omega), show (10 * n + d) / 10 = n by omega, show (10 * n + d) % 10 = d by omega]
theorem ofNat_toNat {n : Nat} (h : n < 256) : (UInt8.ofNat n).toNat = n := by simp; omega
theorem num_digits (a b : Nat) (r : List UInt8) : ∀ (k : Nat), k ≤ b → a ≤ k → a ≤ 1 → numR a b 0 0 (decDigits k ++ r) = numR a b (nDigits k) k r := by
  intro k
  induction k using Nat.strongRecOn generalizing r with
  | _ k ih =>
    intro hb ha h1
    by_cases h : k < 10
    · rw [dec_small h, nDigits_small h]
      simp only [List.cons_append, List.nil_append]
      rw [numR, ofNat_toNat (by omega), if_neg (by omega), if_neg (by omega), if_pos (by omega)]
      congr 1
      omega
    · rw [dec_big h, nDigits_big h, List.append_assoc, ih (k / 10) (by omega) _ (by omega) (by omega) h1]
      simp only [List.cons_append, List.nil_append]
      have := nDigits_pos (k / 10)
      rw [numR, ofNat_toNat (by omega), if_neg (by omega), if_neg (by omega), if_pos (by omega)]
      congr 1
      omega
theorem num_reads (a b k : Nat) (r : List UInt8) (hb : k ≤ b) (ha : a ≤ k) (h1 : a ≤ 1) : numR a b 0 0 (decDigits k ++ 13 :: 10 :: r) = .ok (k, r) := by
  rw [num_digits a b _ k hb ha h1]
  have := nDigits_pos k
  rw [numR, if_pos ⟨by decide, by omega⟩]
  simp [skipR, Except.map]
theorem skip_was : ∀ (s b r : List UInt8), skipR s b = .ok r → b = s ++ r
  | [], b, r, h => by simp only [skipR] at h; cases h; rfl
  | c :: s, [], r, h => by simp only [skipR] at h; cases h
  | c :: s, x :: b, r, h => by
    simp only [skipR] at h
    split at h
    · rename_i hx; rw [hx, skip_was s b r h]; rfl
    · cases h
theorem skip_reads : ∀ (s r : List UInt8), skipR s (s ++ r) = .ok r
  | [], r => rfl
  | c :: s, r => by simp only [List.cons_append, skipR, if_pos]; exact skip_reads s r
theorem num_was_more (a b : Nat) : ∀ (l : List UInt8) (m n : Nat) (k : Nat) (r : List UInt8), 1 ≤ m → (2 ≤ m → 1 ≤ n) → n ≤ b → numR a b m n l = .ok (k, r) → decDigits n ++ l = decDigits k ++ 13 :: 10 :: r ∧ k ≤ b ∧ n ≤ k
  | [], m, n, k, r, hm, hmn, hn, h => by simp only [numR] at h; cases h
  | c :: l, m, n, k, r, hm, hmn, hn, h => by
    simp only [numR] at h
    split at h
    · rename_i h1
      cases hs : skipR [10] l with
      | error e => rw [hs] at h; cases h
      | ok q =>
        rw [hs] at h
        cases h
        have := skip_was _ _ _ hs
        have hc : c = 13 := UInt8.toNat_inj.mp h1.1
        rw [hc, this]
        exact ⟨rfl, hn, Nat.le_refl _⟩
    · split at h
      · cases h
      · rename_i h1 h2
        split at h
        · rename_i h3
          have hn1 : 1 ≤ n := by omega
          have := num_was_more a b l (m + 1) _ k r (by omega) (fun _ => by omega) h3 h
          rw [dec_next hn1 (by omega)] at this
          have hc : UInt8.ofNat (48 + (c.toNat - 48)) = c := UInt8.toNat_inj.mp (by rw [ofNat_toNat (by have := UInt8.toNat_lt c; omega)]; omega)
          rw [hc, List.append_assoc] at this
          exact ⟨this.1, this.2.1, by omega⟩
        · cases h
theorem num_was (a b : Nat) (l : List UInt8) (k : Nat) (r : List UInt8) (h1 : a ≤ 1) (h : numR a b 0 0 l = .ok (k, r)) : l = decDigits k ++ 13 :: 10 :: r ∧ k ≤ b ∧ a ≤ k := by
  cases l with
  | nil => simp only [numR] at h; cases h
  | cons c l =>
    simp only [numR] at h
    split at h
    · omega
    · split at h
      · cases h
      · rename_i h1 h2
        split at h
        · rename_i h3
          have := num_was_more a b l 1 _ k r (by omega) (fun _ => by omega) h3 h
          rw [show 10 * 0 + (c.toNat - 48) = c.toNat - 48 by omega] at this
          have hc : UInt8.ofNat (48 + (c.toNat - 48)) = c := UInt8.toNat_inj.mp (by rw [ofNat_toNat (by have := UInt8.toNat_lt c; omega)]; omega)
          rw [dec_small (by omega), hc] at this
          simp only [true_and, false_and, and_true, false_or, or_false, not_or, Nat.not_lt, Nat.zero_ne_one] at h2
          exact ⟨this.1, this.2.1, by omega⟩
        · cases h

/-! ### Requests -/
def lineB (s : List UInt8) : List UInt8 := s ++ [13, 10]
def textB (s : ByteArray) : List UInt8 := 36 :: lineB (decDigits s.size) ++ lineB s.data.toList
def textsB : List ByteArray → List UInt8
  | [] => []
  | s :: l => textB s ++ textsB l
def reqB (l : List ByteArray) : List UInt8 := 42 :: lineB (decDigits l.length) ++ textsB l
def sumS (l : List ByteArray) : Nat := (l.map (·.size)).sum
def reqOk (l : List ByteArray) : Prop := 1 ≤ l.length ∧ l.length ≤ 65536 ∧ sumS l ≤ 1048576
theorem text_reads (s : ByteArray) (r : List UInt8) : textR s.size (lineB s.data.toList ++ r) = .ok (s, r) := by
  have hl : s.data.toList.length = s.size := rfl
  unfold textR lineB
  rw [if_pos (by simp only [List.length_append]; omega), List.append_assoc, ← hl, List.drop_left, List.take_left, skip_reads]
  rfl
theorem bulk_reads (s : ByteArray) (t : Nat) (r : List UInt8) (h : s.size ≤ t) : bulkR t (lineB (decDigits s.size) ++ (lineB s.data.toList ++ r)) = .ok (s, r) := by
  unfold bulkR
  have e : lineB (decDigits s.size) ++ (lineB s.data.toList ++ r) = decDigits s.size ++ 13 :: 10 :: (lineB s.data.toList ++ r) := by
    unfold lineB; simp
  rw [e, num_reads 0 t s.size _ h (by omega) (by omega)]
  exact text_reads s r
theorem bulks_reads : ∀ (l : List ByteArray) (t : Nat) (r : List UInt8), sumS l ≤ t → bulksR l.length t (textsB l ++ r) = .ok (l, r)
  | [], t, r, h => rfl
  | s :: l, t, r, h => by
    have h' : s.size + sumS l ≤ t := by simpa [sumS] using h
    have e : textsB (s :: l) ++ r = [36] ++ (lineB (decDigits s.size) ++ (lineB s.data.toList ++ (textsB l ++ r))) := by
      simp [textsB, textB]
    rw [e, List.length_cons]
    simp only [bulksR, skip_reads, bulk_reads s t _ (by omega), bulks_reads l (t - s.size) r (by omega)]
    rfl
theorem parse_reads (l : List ByteArray) (r : List UInt8) (h : reqOk l) : parseR (reqB l ++ r) = .ok (l, r) := by
  have e : reqB l ++ r = [42] ++ (decDigits l.length ++ 13 :: 10 :: (textsB l ++ r)) := by
    simp [reqB, lineB]
  unfold parseR
  rw [e, skip_reads]
  simp only [num_reads 1 65536 l.length _ h.2.1 h.1 (by omega)]
  exact bulks_reads l _ r h.2.2
theorem text_was {n : Nat} {b : List UInt8} {s : ByteArray} {r : List UInt8} (h : textR n b = .ok (s, r)) : b = lineB s.data.toList ++ r ∧ s.size = n := by
  unfold textR at h
  split at h
  · rename_i hn
    cases hs : skipR [13, 10] (b.drop n) with
    | error e => rw [hs] at h; cases h
    | ok q =>
      rw [hs] at h
      cases h
      have := skip_was _ _ _ hs
      refine ⟨?_, ?_⟩
      · unfold lineB
        rw [List.append_assoc, ← this]
        exact (List.take_append_drop n b).symm
      · show ((b.take n).toArray).size = n
        simp; omega
  · cases h
theorem bulk_was {t : Nat} {b : List UInt8} {s : ByteArray} {r : List UInt8} (h : bulkR t b = .ok (s, r)) : b = lineB (decDigits s.size) ++ (lineB s.data.toList ++ r) ∧ s.size ≤ t := by
  unfold bulkR at h
  cases hn : numR 0 t 0 0 b with
  | error e => rw [hn] at h; cases h
  | ok x =>
    obtain ⟨n, q⟩ := x
    rw [hn] at h
    obtain ⟨h1, rfl⟩ := text_was h
    have h2 := num_was 0 t b _ q (by omega) hn
    rw [h2.1, h1]
    exact ⟨by unfold lineB; simp, h2.2.1⟩
theorem bulks_was : ∀ (k t : Nat) (b : List UInt8) (l : List ByteArray) (r : List UInt8), bulksR k t b = .ok (l, r) → b = textsB l ++ r ∧ l.length = k ∧ sumS l ≤ t
  | 0, t, b, l, r, h => by simp only [bulksR] at h; cases h; exact ⟨rfl, rfl, Nat.zero_le _⟩
  | k + 1, t, b, l, r, h => by
    simp only [bulksR] at h
    cases hs : skipR [36] b with
    | error e => simp only [hs] at h; cases h
    | ok q =>
      simp only [hs] at h
      cases hb : bulkR t q with
      | error e => simp only [hb] at h; cases h
      | ok x =>
        obtain ⟨s, q'⟩ := x
        simp only [hb] at h
        cases hk : bulksR k (t - s.size) q' with
        | error e => rw [hk] at h; cases h
        | ok y =>
          obtain ⟨l', r'⟩ := y
          rw [hk] at h
          cases h
          have h1 := skip_was _ _ _ hs
          have h2 := bulk_was hb
          have h3 := bulks_was k _ _ _ _ hk
          refine ⟨?_, by simp [h3.2.1], ?_⟩
          · rw [h1, h2.1, h3.1]; simp [textsB, textB]
          · have := h3.2.2
            have := h2.2
            simp only [sumS, List.map_cons, List.sum_cons] at *
            omega
theorem parse_was {b : List UInt8} {l : List ByteArray} {r : List UInt8} (h : parseR b = .ok (l, r)) : b = reqB l ++ r ∧ reqOk l := by
  unfold parseR at h
  cases hs : skipR [42] b with
  | error e => simp only [hs] at h; cases h
  | ok q =>
    simp only [hs] at h
    cases hn : numR 1 65536 0 0 q with
    | error e => simp only [hn] at h; cases h
    | ok x =>
      obtain ⟨k, q'⟩ := x
      simp only [hn] at h
      have h1 := skip_was _ _ _ hs
      have h2 := num_was 1 65536 q k q' (by omega) hn
      have h3 := bulks_was k _ _ _ _ h
      refine ⟨?_, by have := h2.2; have := h3.2; unfold reqOk; omega⟩
      rw [h1, h2.1, h3.1, ← h3.2.1]
      simp [reqB, lineB]
theorem parse_cut {l : List ByteArray} (h : reqOk l) {n : Nat} (hn : n < (reqB l).length) : parseR ((reqB l).take n) = .error 130 := by
  have hg := parse_goes ((reqB l).take n) ((reqB l).drop n)
  rw [List.take_append_drop] at hg
  have hr := parse_reads l [] h
  rw [List.append_nil] at hr
  cases hp : parseR ((reqB l).take n) with
  | ok x =>
    obtain ⟨l', r⟩ := x
    have h1 := hg.1 l' r hp
    rw [hr] at h1
    have h2 : [] = r ++ (reqB l).drop n := by injection h1 with h1; injection h1
    have h3 := congrArg List.length h2
    simp only [List.length_nil, List.length_append, List.length_drop] at h3
    omega
  | error e =>
    rcases hg.2 e hp with rfl | ⟨rfl, h2⟩
    · rfl
    · rw [hr] at h2; cases h2
end Go.Proofs.YtopdgmchkoaeeaaDoor
