/- How great what is read is: by the parser's functions. A tree that may be, as words: they may be printed, and are no longer than the tree is great. What tabor.tree.Parse tells, in plain words; the statement that known() reads. -/
import Derived.Test.YtkbcnacjaakleaaGreatDoorYP30
import Derived.Test.YtkbcnacjaakleaaGreatDoorYP01
import Derived.Test.YtkbcnacjaakleaaGreatDoorYP07
set_option maxRecDepth 100000
set_option maxHeartbeats 32000000
set_option linter.unusedVariables false
set_option linter.unusedSimpArgs false
namespace Go.Proofs.YtkbcnacjaakleaaGreatDoor

def Phi (z : Wz) (p : Nat) : Nat := ((z.ws.take p).map fun w => 16 + 8 * (toldP w).length).sum
section
variable {z : Wz}
theorem phi_step {p : Nat} (h : p < z.ws.length) : Phi z (p + 1) = Phi z p + 16 + 8 * (toldP z.ws[p]).length := by
 unfold Phi
 rw [List.take_succ_eq_append_getElem h]
 simp only [List.map_append, List.map_cons, List.map_nil, List.sum_append, List.sum_cons, List.sum_nil]
 omega
theorem phi_is {p : Nat} {t : List UInt8} (h : isW z p t = true) : Phi z (p + 1) = Phi z p + 16 + 8 * t.length := by
 have hlt := isW_lt h
 rw [phi_step hlt]
 unfold isW at h
 rw [List.getElem?_eq_getElem hlt] at h
 simp only [Bool.and_eq_true, Bool.or_eq_true, beq_iff_eq] at h
 have : toldP z.ws[p] = t := by
  rw [← h.1]
  unfold toldP
  rcases h.2 with h2 | h2 <;> rw [h2] <;> rfl
 rw [this]
theorem kindW_eq {p : Nat} {k : Int} {w : Wd} (h : kindW z p k = some w) : ∃ hlt : p < z.ws.length, z.ws[p] = w ∧ w.k = k := by
 have hlt := kindW_lt h
 unfold kindW at h
 rw [List.getElem?_eq_getElem hlt] at h
 simp only at h
 split at h
 ·rename_i hk; cases h; exact ⟨hlt, rfl, hk⟩
 ·cases h
theorem phi_kind {p : Nat} {k : Int} {w : Wd} (h : kindW z p k = some w) : Phi z (p + 1) = Phi z p + 16 + 8 * (toldP w).length ∧ w ∈ z.ws := by
 obtain ⟨hlt, rfl, _⟩ := kindW_eq h
 exact ⟨phi_step hlt, List.getElem_mem hlt⟩
theorem phi_name {p : Nat} {w : Wd} (h : kindW z p 0 = some w) : Phi z (p + 1) = Phi z p + 16 + 8 * w.t.length := by
 have h1 := (phi_kind h).1
 obtain ⟨_, _, hk⟩ := kindW_eq h
 have : toldP w = w.t := by unfold toldP; rw [hk]; rfl
 rw [this] at h1
 exact h1
def PtW (z : Wz) (K : Nat) (s s' : Ps) (x : Nd) : Prop := wtN x + K + Phi z s.p ≤ Phi z s'.p ∧ KnN x
def AllP (z : Wz) (K : Nat) (f : Ps → PR Nd) : Prop := ∀ s x s', f s = .ok (x, s') → PtW z K s s' x
theorem want_phi {s s' : Ps} {t : List UInt8} {u : Unit} (h : wantP z s t = .ok (u, s')) : Phi z s'.p = Phi z s.p + 16 + 8 * t.length := by
 obtain ⟨h1, rfl⟩ := want_is h
 exact phi_is h1
theorem nameR_phi {s s' : Ps} {x : ByteArray} (h : nameR z s = .ok (x, s')) : Phi z s'.p = Phi z s.p + 16 + 8 * x.size := by
 unfold nameR at h
 split at h
 ·rename_i w hw; cases h; exact phi_name hw
 ·cases h
theorem skip_phi (s : Ps) (t : List UInt8) : Phi z s.p ≤ Phi z (skipP z s t).p := by
 unfold skipP
 split
 ·rename_i hw; have := phi_is hw; simp only; omega
 ·exact Nat.le_refl _
theorem more_phi {α : Type} {f : Ps → PR α} {g : α → Nat} {P : α → Prop} (hf : ∀ s x s', f s = .ok (x, s') → g x + Phi z s.p ≤ Phi z s'.p ∧ P x) :
  ∀ (k : Nat) (s : Ps) (acc l : List α) (s' : Ps), moreR z f k s acc = .ok (l, s') → (∀ x ∈ acc, P x) → (l.map g).sum + Phi z s.p ≤ (acc.map g).sum + Phi z s'.p ∧ ∀ x ∈ l, P x
 | 0, s, acc, l, s', h, _ => by cases h
 | k + 1, s, acc, l, s', h, ha => by
  unfold moreR at h
  split at h
  ·rename_i hw
   split at h
   ·cases h
   ·rename_i x s1 h1
    have h2 := hf _ _ _ h1
    have h3 := phi_is hw
    have h4 := more_phi hf k _ _ _ _ h (fun y hy => by
     rcases List.mem_append.1 hy with hy | hy
     ·exact ha y hy
     ·rw [List.mem_singleton] at hy; rw [hy]; exact h2.2)
    refine ⟨?_, h4.2⟩
    have h5 := h4.1
    simp only [List.map_append, List.map_cons, List.map_nil, List.sum_append, List.sum_cons, List.sum_nil] at h5
    have h6 := h2.1
    simp only at h6
    omega
  ·cases h; exact ⟨Nat.le_refl _, ha⟩
theorem comma_phi {α : Type} {f : Ps → PR α} {g : α → Nat} {P : α → Prop} (hf : ∀ s x s', f s = .ok (x, s') → g x + Phi z s.p ≤ Phi z s'.p ∧ P x) {s s' : Ps} {l : List α} (h : commaR z f s = .ok (l, s')) : (l.map g).sum + Phi z s.p ≤ Phi z s'.p ∧ ∀ x ∈ l, P x := by
 unfold commaR at h
 split at h
 ·cases h
 ·rename_i x s1 h1
  have h2 := hf _ _ _ h1
  have h3 := more_phi hf _ _ _ _ _ h (fun y hy => by rw [List.mem_singleton] at hy; rw [hy]; exact h2.2)
  have h4 := h3.1
  simp only [List.map_cons, List.map_nil, List.sum_cons, List.sum_nil] at h4
  exact ⟨by omega, h3.2⟩
theorem kn_of : ∀ {l : List Nd}, (∀ x ∈ l, KnN x) → KnL l
 | [], _ => kn_nil
 | x :: l, h => by simp only [KnL]; exact ⟨h x (by simp), kn_of fun y hy => h y (by simp [hy])⟩
theorem list_phi {K : Nat} {f : Ps → PR Nd} (hf : AllP z K f) {s s' : Ps} {l : List Nd} (h : commaR z f s = .ok (l, s')) : wL K l + Phi z s.p ≤ Phi z s'.p ∧ KnL l := by
 have := comma_phi (g := fun x => wtN x + K) (P := KnN) hf h
 exact ⟨this.1, kn_of this.2⟩
theorem names_sum (l : List ByteArray) : (l.map fun s => 16 + 8 * s.size).sum = 16 * l.length + 8 * (l.map ByteArray.size).sum := by
 induction l with
 | nil => rfl
 | cons x l ih => simp only [List.map_cons, List.sum_cons, List.length_cons, ih]; omega
theorem names_phi {s s' : Ps} {l : List ByteArray} (h : commaR z (nameR z) s = .ok (l, s')) : 16 * l.length + 8 * (l.map ByteArray.size).sum + Phi z s.p ≤ Phi z s'.p := by
 have := (comma_phi (g := fun s => 16 + 8 * s.size) (P := fun _ => True) (fun s x s' h => ⟨by have := nameR_phi h; omega, trivial⟩) h).1
 rw [names_sum] at this
 exact this
theorem within_eq {α : Type} {f : Ps → PR α} {s s' : Ps} {x : α} (h : withinR z f s = .ok (x, s')) : ∃ s1, f ⟨s.p, s.o + 1⟩ = .ok (x, s1) ∧ s'.p = s1.p := by
 unfold withinR at h
 split at h
 ·cases h
 split at h
 ·cases h
 ·rename_i y s1 h1
  cases h
  exact ⟨s1, h1, rfl⟩
theorem blockL_phi {f : Ps → PR Nd} (hf : AllP z 4 f) : ∀ (k : Nat) (s : Ps) (acc l : List Nd) (s' : Ps), blockL z f k s acc = .ok (l, s') → KnL acc → wL 4 l + Phi z s.p ≤ wL 4 acc + Phi z s'.p ∧ KnL l
 | 0, s, acc, l, s', h, _ => by cases h
 | k + 1, s, acc, l, s', h, ha => by
  unfold blockL at h
  split at h
  ·cases h; exact ⟨Nat.le_refl _, ha⟩
  ·split at h
   ·cases h
   ·rename_i x s1 h1
    have h2 := hf _ _ _ h1
    have h3 := skip_phi (z := z) s1 [59]
    have h4 := kn_app ha (kn_one h2.2)
    have h5 := h2.1
    split at h
    ·cases h
     rw [wL_app, wL_cons, wL_nil]
     exact ⟨by omega, h4⟩
    ·have h6 := blockL_phi hf k _ _ _ _ h h4
     rw [wL_app, wL_cons, wL_nil] at h6
     exact ⟨by omega, h6.2⟩
theorem block_phi {f : Ps → PR Nd} (hf : AllP z 4 f) {s s' : Ps} {x : Nd} (h : blockR z f s = .ok (x, s')) : wtN x + Phi z s.p ≤ Phi z s'.p + 1 ∧ KnN x := by
 unfold blockR at h
 split at h
 ·cases h
 ·rename_i l s1 h1
  cases h
  have h2 := blockL_phi hf _ _ _ _ _ h1 kn_nil
  rw [wL_nil] at h2
  have h3 := wL_len 4 l
  have h4 := wL_len 2 l
  rw [wt_0]
  exact ⟨by omega, kn_k (by decide) h2.2⟩
theorem opened_phi {f : Ps → PR Nd} (hf : AllP z 4 f) {s s' : Ps} {x : Nd} (h : openedR z f s = .ok (x, s')) : wtN x + Phi z s.p ≤ Phi z s'.p + 1 ∧ KnN x := by
 obtain ⟨s1, h1, h2⟩ := within_eq h
 rw [h2]
 have := block_phi hf h1
 exact this
theorem ended_phi {f : Ps → PR Nd} (hf : AllP z 4 f) {s s' : Ps} {x : Nd} (h : endedR z f s = .ok (x, s')) : wtN x + 30 + Phi z s.p ≤ Phi z s'.p ∧ KnN x := by
 unfold endedR at h
 split at h
 ·cases h
 ·rename_i y s1 h1
  split at h
  ·cases h
  ·rename_i u s2 h2
   cases h
   have h3 := opened_phi hf h1
   have h4 := want_phi h2
   have h5 : tEnd.length = 3 := rfl
   exact ⟨by omega, h3.2⟩
structure PtP (z : Wz) (r : Pz) : Prop where
 st : AllP z 4 r.st
 ex : ∀ lv, AllP z 8 (r.ex lv)
 be : AllP z 8 r.be
variable {r : Pz} (hr : PtP z r) (hz : ∀ w ∈ z.ws, 0 ≤ w.n ∧ w.n ≤ 9223372036854775807)
include hr
theorem func_phi {s s' : Ps} {x : Nd} (h : funcR z r s = .ok (x, s')) : PtW z 4 s s' x := by
 unfold funcR at h
 split at h
 ·cases h
 rename_i nm s1 h1
 split at h
 ·cases h
 rename_i u s2 h2
 have g1 := nameR_phi h1
 have g2 := want_phi h2
 split at h
 ·rename_i hw
  split at h
  ·cases h
  rename_i b s3 h3
  cases h
  have g3 := phi_is hw
  have g4 := ended_phi hr.st h3
  have g5 := wt_9 nm [] b
  simp only [List.map_nil, List.sum_nil, List.length_nil, List.length_cons] at g2 g3 g5
  refine ⟨?_, kn_mk (by decide) (by decide) (kn_one g4.2)⟩
  have g6 := g4.1
  simp only at g6
  show wtN (.mk 9 nm eB 0 [] [b]) + 4 + Phi z s.p ≤ Phi z s'.p
  omega
 ·split at h
  ·cases h
  rename_i l s3 h3
  split at h
  ·cases h
  rename_i u s4 h4
  split at h
  ·cases h
  rename_i b s5 h5
  cases h
  have g3 := names_phi h3
  have g4 := want_phi h4
  have g5 := ended_phi hr.st h5
  have g6 := wt_9 nm l b
  simp only [List.length_nil, List.length_cons] at g2 g4
  have g7 := g5.1
  exact ⟨by omega, kn_mk (by decide) (by decide) (kn_one g5.2)⟩
theorem local_phi {s s' : Ps} {x : Nd} (h : localR z r s = .ok (x, s')) : wtN x + Phi z s.p ≤ Phi z s'.p + 9 ∧ KnN x := by
 unfold localR at h
 split at h
 ·rename_i hw
  have h1 := func_phi hr h
  have h2 := phi_is hw
  have h3 := h1.1
  simp only at h3
  exact ⟨by omega, h1.2⟩
 split at h
 ·cases h
 rename_i l s1 h1
 have g1 := names_phi h1
 split at h
 ·rename_i hw
  split at h
  ·cases h
  rename_i x s2 h2
  split at h
  ·cases h
  ·cases h
   have g2 := phi_is hw
   have g3 := list_phi (hr.ex 0) h2
   have g4 := wt_1 l x
   have g5 := wL_len 8 x
   have g6 := wL_len 2 x
   have g7 := g3.1
   simp only at g7
   exact ⟨by omega, kn_mk (by decide) (by decide) g3.2⟩
 ·cases h
  have g4 := wt_1 l []
  rw [wL_nil] at g4
  exact ⟨by omega, kn_mk (by decide) (by decide) kn_nil⟩
theorem branch_phi : ∀ (k : Nat) (s : Ps) (acc l : List Nd) (s' : Ps), branchL z r k s acc = .ok (l, s') → KnL acc → wL 12 l + Phi z s.p ≤ wL 12 acc + Phi z s'.p ∧ KnL l
 | 0, s, acc, l, s', h, _ => by cases h
 | k + 1, s, acc, l, s', h, ha => by
  unfold branchL at h
  split at h
  ·cases h
  rename_i c s1 h1
  split at h
  ·cases h
  rename_i u s2 h2
  split at h
  ·cases h
  rename_i b s3 h3
  have g1 := hr.ex 0 _ _ _ h1
  have g2 := want_phi h2
  have g3 := opened_phi hr.st h3
  have g4 : tThen.length = 4 := rfl
  have g5 := kn_app (kn_app ha (kn_one g1.2)) (kn_one g3.2)
  have g6 := g1.1
  split at h
  ·rename_i hw
   have g7 := phi_is hw
   have g8 := branch_phi k _ _ _ _ h g5
   rw [wL_app, wL_app, wL_cons, wL_cons, wL_nil] at g8
   have g9 := g8.1
   simp only at g9
   exact ⟨by omega, g8.2⟩
  ·cases h
   rw [wL_app, wL_app, wL_cons, wL_cons, wL_nil]
   exact ⟨by omega, g5⟩
theorem choice_phi {s s' : Ps} {x : Nd} (h : choiceR z r s = .ok (x, s')) : PtW z 4 s s' x := by
 unfold choiceR at h
 split at h
 ·cases h
 rename_i l s1 h1
 have g1 := branch_phi hr _ _ _ _ _ h1 kn_nil
 rw [wL_nil] at g1
 have g0 : tEnd.length = 3 := rfl
 split at h
 ·rename_i hw
  split at h
  ·cases h
  rename_i b s2 h2
  split at h
  ·cases h
  rename_i u s3 h3
  cases h
  have g2 := phi_is hw
  have g3 := opened_phi hr.st h2
  have g4 := want_phi h3
  have g5 := wt_4 (l ++ [b])
  rw [wL_app, wL_cons, wL_nil] at g5
  have g6 := g3.1
  simp only at g6
  have g7 : tElse.length = 4 := rfl
  exact ⟨by omega, kn_k (by decide) (kn_app g1.2 (kn_one g3.2))⟩
 ·split at h
  ·cases h
  rename_i u s3 h3
  cases h
  have g4 := want_phi h3
  have g5 := wt_4 l
  exact ⟨by omega, kn_k (by decide) g1.2⟩
theorem loopE_phi (nm : ByteArray) (l : List Nd) (hl : KnL l) {s s' : Ps} {x : Nd} (h : loopE z r nm l s = .ok (x, s')) : wtN x + 4 + Phi z s.p ≤ wL 2 l + 2 * nm.size + Phi z s'.p ∧ KnN x := by
 unfold loopE at h
 split at h
 ·cases h
 rename_i u s1 h1
 split at h
 ·cases h
 rename_i b s2 h2
 cases h
 have g1 := want_phi h1
 have g2 := ended_phi hr.st h2
 have g3 := wt_6 nm l b
 have g4 : tDo.length = 2 := rfl
 exact ⟨by omega, kn_mk (by decide) (by decide) (kn_app hl (kn_one g2.2))⟩
theorem loop_phi {s s' : Ps} {x : Nd} (h : loopR z r s = .ok (x, s')) : PtW z 4 s s' x := by
 unfold loopR at h
 split at h
 ·cases h
 rename_i nm s1 h1
 split at h
 ·cases h
 rename_i u s2 h2
 split at h
 ·cases h
 rename_i a s3 h3
 split at h
 ·cases h
 rename_i u s4 h4
 split at h
 ·cases h
 rename_i b s5 h5
 have g1 := nameR_phi h1
 have g2 := want_phi h2
 have g3 := hr.ex 0 _ _ _ h3
 have g4 := want_phi h4
 have g5 := hr.ex 0 _ _ _ h5
 have k3 := g3.1
 have k5 := g5.1
 split at h
 ·rename_i hw
  split at h
  ·cases h
  rename_i c s6 h6
  have g6 := phi_is hw
  have g7 := hr.ex 0 _ _ _ h6
  have k7 := g7.1
  have g8 := loopE_phi hr nm [a, b, c] (by simp only [KnL]; exact ⟨g3.2, g5.2, g7.2, trivial⟩) h
  simp only [wL_cons, wL_nil] at g8
  simp only at k7
  exact ⟨by have := g8.1; omega, g8.2⟩
 ·have g8 := loopE_phi hr nm [a, b] (kn_two g3.2 g5.2) h
  simp only [wL_cons, wL_nil] at g8
  exact ⟨by have := g8.1; omega, g8.2⟩
theorem while_phi {s s' : Ps} {x : Nd} (h : whileR z r s = .ok (x, s')) : PtW z 4 s s' x := by
 unfold whileR at h
 split at h
 ·cases h
 rename_i c s1 h1
 split at h
 ·cases h
 rename_i u s2 h2
 split at h
 ·cases h
 rename_i b s3 h3
 cases h
 have g1 := hr.ex 0 _ _ _ h1
 have g2 := want_phi h2
 have g3 := ended_phi hr.st h3
 have g4 := wt_5 c b
 have g5 := g1.1
 exact ⟨by omega, kn_k (by decide) (kn_two g1.2 g3.2)⟩
theorem return_phi {s s' : Ps} {x : Nd} (h : returnR z r s = .ok (x, s')) : wtN x + Phi z s.p ≤ Phi z s'.p + 8 ∧ KnN x := by
 unfold returnR at h
 split at h
 ·cases h
  have := wt_7 []
  rw [wL_nil] at this
  exact ⟨by omega, kn_k (by decide) kn_nil⟩
 split at h
 ·cases h
 rename_i c s1 h1
 cases h
 have g1 := hr.ex 0 _ _ _ h1
 have := wt_7 [c]
 rw [wL_cons, wL_nil] at this
 have g2 := g1.1
 exact ⟨by omega, kn_k (by decide) (kn_one g1.2)⟩
theorem plain_phi {s s' : Ps} {x : Nd} (h : plainR z r s = .ok (x, s')) : PtW z 4 s s' x := by
 unfold plainR at h
 split at h
 ·cases h
 rename_i n s1 h1
 have g1 := hr.be _ _ _ h1
 have k1 := g1.1
 split at h
 ·cases h; exact ⟨by omega, g1.2⟩
 split at h
 ·split at h
  ·cases h
  rename_i u s2 h2
  split at h
  ·cases h
  rename_i x s3 h3
  cases h
  have g2 := want_phi h2
  have g3 := hr.ex 0 _ _ _ h3
  have k3 := g3.1
  have g4 := wt_2 n x
  exact ⟨by omega, kn_k (by decide) (kn_two g1.2 g3.2)⟩
 ·cases h
theorem stmt_phi : AllP z 4 (stmtR z r) := by
 intro s x s' h
 unfold stmtR at h
 split at h
 ·rename_i hw
  have g1 := phi_is hw
  have g2 := local_phi hr h
  have g3 := g2.1
  simp only at g3
  have g4 : tLocal.length = 5 := rfl
  exact ⟨by omega, g2.2⟩
 split at h
 ·rename_i hw
  split at h
  ·cases h
  rename_i b s1 h1
  cases h
  have g1 := phi_is hw
  have g2 := ended_phi hr.st h1
  have g3 := g2.1
  simp only at g3
  have g4 := wt_3 b
  exact ⟨by omega, kn_k (by decide) (kn_one g2.2)⟩
 split at h
 ·rename_i hw
  have g1 := phi_is hw
  have g2 := choice_phi hr h
  have g3 := g2.1
  simp only at g3
  exact ⟨by omega, g2.2⟩
 split at h
 ·rename_i hw
  have g1 := phi_is hw
  have g2 := while_phi hr h
  have g3 := g2.1
  simp only at g3
  exact ⟨by omega, g2.2⟩
 split at h
 ·rename_i hw
  have g1 := phi_is hw
  have g2 := loop_phi hr h
  have g3 := g2.1
  simp only at g3
  exact ⟨by omega, g2.2⟩
 split at h
 ·rename_i hw
  cases h
  have g1 := phi_is hw
  have g2 := wt_8
  exact ⟨by simp only; omega, kn_k (by decide) kn_nil⟩
 split at h
 ·rename_i hw
  have g1 := phi_is hw
  have g2 := return_phi hr h
  have g3 := g2.1
  simp only at g3
  have g4 : tReturn.length = 6 := rfl
  exact ⟨by omega, g2.2⟩
 exact plain_phi hr h
omit hr in
theorem operW_phi {p lv : Nat} {op : List UInt8} (h : operW z p lv = some op) : Phi z (p + 1) = Phi z p + 16 + 8 * op.length := by
 have hlt := operW_lt h
 unfold operW at h
 rw [List.getElem?_eq_getElem hlt] at h
 simp only at h
 split at h
 ·rename_i hc
  cases h
  simp only [Bool.and_eq_true, Bool.or_eq_true, beq_iff_eq] at hc
  rw [phi_step hlt]
  have : toldP z.ws[p] = z.ws[p].t := by
   unfold toldP
   rcases hc.1 with h2 | h2 <;> rw [h2] <;> rfl
  rw [this]
 ·cases h
def opS (ops : List (List UInt8)) : Nat := (ops.map fun o => 16 + 8 * o.length).sum
theorem oper_phi (lv : Nat) : ∀ (k : Nat) (s : Ps) (acc : List Nd) (ops : List (List UInt8)) (l : List Nd) (ops' : List (List UInt8)) (s' : Ps), operL z r lv k s acc ops = .ok ((l, ops'), s') → KnL acc →
  wL 8 l + opS ops' + Phi z s.p ≤ wL 8 acc + opS ops + Phi z s'.p ∧ KnL l
 | 0, s, acc, ops, l, ops', s', h, _ => by cases h
 | k + 1, s, acc, ops, l, ops', s', h, ha => by
  unfold operL at h
  split at h
  ·cases h; exact ⟨Nat.le_refl _, ha⟩
  rename_i op hop
  split at h
  ·cases h
  rename_i x s1 h1
  have g1 := operW_phi hop
  have g2 := hr.ex _ _ _ _ h1
  have g3 := oper_phi lv k _ _ _ _ _ _ h (kn_app ha (kn_one g2.2))
  rw [wL_app, wL_cons, wL_nil] at g3
  have e : opS (ops ++ [op]) = opS ops + (16 + 8 * op.length) := by simp [opS]
  rw [e] at g3
  have g4 := g2.1
  simp only at g4
  exact ⟨by omega, g3.2⟩
omit hr in
theorem kn_bin {op : List UInt8} {a b : Nd} (ha : KnN a) (hb : KnN b) : KnN (binN op a b) := kn_mk (by decide) (by decide) (kn_two ha hb)
omit hr in
theorem left_wt : ∀ (ops : List (List UInt8)) (l : List Nd) (n : Nd), KnN n → KnL l → wtN (leftN n ops l) ≤ wtN n + wL 0 l + opS ops ∧ KnN (leftN n ops l)
 | [], l, n, h, _ => ⟨by simp only [leftN]; omega, by simpa only [leftN] using h⟩
 | op :: ops, [], n, h, _ => ⟨by simp only [leftN]; omega, by simpa only [leftN] using h⟩
 | op :: ops, x :: l, n, h, hl => by
  simp only [KnL] at hl
  have h1 := left_wt ops l (binN op n x) (kn_bin h hl.1) hl.2
  have h2 := wt_21 op n x
  simp only [leftN]
  rw [wL_cons]
  have e : opS (op :: ops) = 16 + 8 * op.length + opS ops := by simp [opS]
  rw [e]
  exact ⟨by omega, h1.2⟩
omit hr in
theorem right_wt : ∀ (l : List Nd) (ops : List (List UInt8)), KnL l → wtN (rightN l ops) ≤ wL 0 l + opS ops + 1 ∧ KnN (rightN l ops)
 | [], ops, _ => ⟨by simp only [rightN]; rw [wt_0, wL_nil]; omega, by simp only [rightN]; exact kn_k (by decide) kn_nil⟩
 | [x], ops, h => by
  simp only [KnL] at h
  simp only [rightN]
  rw [wL_cons, wL_nil]
  exact ⟨by omega, h.1⟩
 | x :: y :: l, [], h => by
  simp only [KnL] at h
  simp only [rightN]
  rw [wL_cons]
  exact ⟨by omega, h.1⟩
 | x :: y :: l, op :: ops, h => by
  have h' := h
  rw [show KnL (x :: y :: l) = (KnN x ∧ KnL (y :: l)) by simp only [KnL]] at h'
  have h1 := right_wt (y :: l) ops h'.2
  have h2 := wt_21 op x (rightN (y :: l) ops)
  simp only [rightN]
  rw [wL_cons]
  have e : opS (op :: ops) = 16 + 8 * op.length + opS ops := by simp [opS]
  rw [e]
  exact ⟨by omega, kn_bin h'.1 h1.2⟩
omit hr in
theorem oper_first (lv : Nat) : ∀ (k : Nat) (s : Ps) (acc : List Nd) (ops : List (List UInt8)) (l : List Nd) (ops' : List (List UInt8)) (s' : Ps), operL z r lv k s acc ops = .ok ((l, ops'), s') → acc ≠ [] → l ≠ []
 | 0, s, acc, ops, l, ops', s', h, _ => by cases h
 | k + 1, s, acc, ops, l, ops', s', h, ha => by
  unfold operL at h
  split at h
  ·cases h; exact ha
  split at h
  ·cases h
  exact oper_first lv k _ _ _ _ _ _ h (by simp)
theorem expr_phi (lv : Nat) : AllP z 8 (exprR z r lv) := by
 intro s x s' h
 unfold exprR at h
 split at h
 ·cases h
 rename_i x0 s1 h1
 split at h
 ·cases h
 rename_i l ops s2 h2
 cases h
 have g1 := hr.ex _ _ _ _ h1
 have g2 := oper_phi hr lv _ _ _ _ _ _ _ h2 (kn_one g1.2)
 have g3 := oper_first lv _ _ _ _ _ _ _ h2 (by simp)
 rw [wL_cons, wL_nil] at g2
 have e : opS [] = 0 := rfl
 rw [e] at g2
 have g4 := g1.1
 have g5 := wL_len 8 l
 obtain ⟨y, l, rfl⟩ := List.exists_cons_of_ne_nil g3
 rw [List.length_cons] at g5
 have gk : KnN y ∧ KnL l := by have := g2.2; simpa only [KnL] using this
 refine ⟨?_, ?_⟩
 ·split
  ·have := right_wt (y :: l) ops g2.2
   rcases Nat.eq_zero_or_pos l.length with hl | hl
   ·have : l = [] := List.eq_nil_of_length_eq_zero hl
    subst this
    simp only [rightN]
    rw [wL_cons, wL_nil] at g2
    omega
   ·omega
  ·have := left_wt ops l y gk.1 gk.2
   simp only [List.headD_cons, List.tail_cons]
   rw [wL_cons] at g5
   rw [wL_cons] at g2
   have g6 := wL_len 8 l
   omega
 ·split
  ·exact (right_wt (y :: l) ops g2.2).2
  ·exact (left_wt ops l y gk.1 gk.2).2
omit hr in
theorem ahead_phi : ∀ (k p : Nat) (acc : List Int), (∀ x ∈ acc, x = 22 ∨ x = 23 ∨ x = 24) → 16 * (aheadL z k p acc).2.length + Phi z p ≤ 16 * acc.length + Phi z (aheadL z k p acc).1 ∧ ∀ x ∈ (aheadL z k p acc).2, x = 22 ∨ x = 23 ∨ x = 24
 | 0, p, acc, h => ⟨Nat.le_refl _, h⟩
 | k + 1, p, acc, h => by
  have ha : ∀ y : Int, (y = 22 ∨ y = 23 ∨ y = 24) → ∀ x ∈ acc ++ [y], x = 22 ∨ x = 23 ∨ x = 24 := fun y hy x hx => by
   rcases List.mem_append.1 hx with hx | hx
   ·exact h x hx
   ·rw [List.mem_singleton] at hx; rw [hx]; exact hy
  unfold aheadL
  split
  ·rename_i hw
   have g1 := phi_is hw
   have g2 := ahead_phi k (p + 1) (acc ++ [22]) (ha _ (.inl rfl))
   rw [List.length_append, List.length_singleton] at g2
   exact ⟨by omega, g2.2⟩
  split
  ·rename_i hw
   have g1 := phi_is hw
   have g2 := ahead_phi k (p + 1) (acc ++ [23]) (ha _ (.inr (.inl rfl)))
   rw [List.length_append, List.length_singleton] at g2
   exact ⟨by omega, g2.2⟩
  split
  ·rename_i hw
   have g1 := phi_is hw
   have g2 := ahead_phi k (p + 1) (acc ++ [24]) (ha _ (.inr (.inr rfl)))
   rw [List.length_append, List.length_singleton] at g2
   exact ⟨by omega, g2.2⟩
  exact ⟨Nat.le_refl _, h⟩
omit hr in
theorem fold_wt : ∀ (ks : List Int) (n : Nd), (∀ x ∈ ks, x = 22 ∨ x = 23 ∨ x = 24) → KnN n → wtN (ks.foldr (fun k n => ndK k [n]) n) ≤ wtN n + 9 * ks.length ∧ KnN (ks.foldr (fun k n => ndK k [n]) n)
 | [], n, _, h => ⟨Nat.le_refl _, h⟩
 | k :: ks, n, hk, h => by
  have h1 := fold_wt ks n (fun x hx => hk x (by simp [hx])) h
  have h2 := hk k (by simp)
  have h3 := wt_ahead k h2 (ks.foldr (fun k n => ndK k [n]) n)
  rw [List.foldr_cons, List.length_cons]
  exact ⟨by omega, kn_k (by omega) (kn_one h1.2)⟩
theorem unary_phi : AllP z 8 (unaryR z r) := by
 intro s x s' h
 unfold unaryR at h
 split at h
 ·cases h
 rename_i n s1 h1
 cases h
 have g1 := hr.be _ _ _ h1
 have g2 := ahead_phi (z := z) (z.ws.length + 1) s.p [] (fun x hx => by simp at hx)
 have g3 := fold_wt _ n g2.2 g1.2
 have g4 := g1.1
 simp only [List.length_nil] at g2 g4
 exact ⟨by omega, g3.2⟩
theorem bracket_phi {c : List UInt8} {s s' : Ps} {x : Nd} (h : bracketR z r c s = .ok (x, s')) : wtN x + 24 + Phi z s.p ≤ Phi z s'.p ∧ KnN x := by
 unfold bracketR at h
 split at h
 ·cases h
 rename_i n s1 h1
 split at h
 ·cases h
 rename_i u s2 h2
 cases h
 obtain ⟨s3, h3, h4⟩ := within_eq h1
 have g1 := hr.ex 0 _ _ _ h3
 have g2 := want_phi h2
 have g3 := g1.1
 simp only at g3
 rw [h4] at g2
 exact ⟨by omega, g1.2⟩
theorem call_phi {nm : ByteArray} {s s' : Ps} {x : Nd} (h : callN z r nm s = .ok (x, s')) : wtN x + 8 + Phi z s.p ≤ 2 * nm.size + Phi z s'.p ∧ KnN x := by
 unfold callN at h
 split at h
 ·cases h
 rename_i n s1 h1
 split at h
 ·cases h
 rename_i u s2 h2
 cases h
 obtain ⟨s3, h3, h4⟩ := within_eq h1
 have g2 := want_phi h2
 rw [h4] at g2
 have g0 : ([41] : List UInt8).length = 1 := rfl
 unfold argsR at h3
 split at h3
 ·cases h3
  have := wt_17 nm []
  rw [wL_nil] at this
  simp only at g2
  exact ⟨by omega, kn_mk (by decide) (by decide) kn_nil⟩
 ·have g3 := list_phi (hr.ex 0) h3
  have g4 := wt_17 nm n
  have g5 := wL_len 8 n
  have g6 := wL_len 2 n
  have g7 := g3.1
  simp only at g7
  exact ⟨by omega, kn_mk (by decide) (by decide) g3.2⟩
theorem item_phi {s s' : Ps} {x : Nd} (h : itemR z r s = .ok (x, s')) : PtW z 7 s s' x := by
 unfold itemR at h
 split at h
 ·rename_i hw
  split at h
  ·cases h
  rename_i k s1 h1
  split at h
  ·cases h
  rename_i u s2 h2
  split at h
  ·cases h
  rename_i x s3 h3
  cases h
  have g1 := phi_is hw
  have g2 := bracket_phi hr h1
  have g3 := want_phi h2
  have g4 := hr.ex 0 _ _ _ h3
  have g5 := wt_20 k x
  have g6 := g2.1
  have g7 := g4.1
  simp only at g6
  exact ⟨by omega, kn_k (by decide) (kn_two g2.2 g4.2)⟩
 split at h
 ·rename_i w w2 hw hw2
  split at h
  ·rename_i hc
   split at h
   ·cases h
   rename_i x s3 h3
   cases h
   have g1 := phi_name hw
   have hlt2 := (List.getElem?_eq_some_iff.1 hw2).1
   have g2 := phi_step hlt2
   have g4 := hr.ex 0 _ _ _ h3
   have g5 := wt_20 (ndT ⟨w.t.toArray⟩) x
   have g6 := (wt_14 ⟨w.t.toArray⟩).1
   have g7 := g4.1
   simp only at g7
   have g8 : (⟨w.t.toArray⟩ : ByteArray).size = w.t.length := rfl
   refine ⟨?_, kn_k (by decide) (kn_two (kn_mk (by decide) (by decide) kn_nil) g4.2)⟩
   have e : s.p + 1 + 1 = s.p + 2 := rfl
   rw [e] at g2
   omega
  ·split at h
   ·cases h
   rename_i x s3 h3
   cases h
   have g4 := hr.ex 0 _ _ _ h3
   have g5 := wt_19 x
   have g7 := g4.1
   exact ⟨by omega, kn_k (by decide) (kn_one g4.2)⟩
 ·split at h
  ·cases h
  rename_i x s3 h3
  cases h
  have g4 := hr.ex 0 _ _ _ h3
  have g5 := wt_19 x
  have g7 := g4.1
  exact ⟨by omega, kn_k (by decide) (kn_one g4.2)⟩
theorem itemL_phi : ∀ (k : Nat) (s : Ps) (acc l : List Nd) (s' : Ps), itemL z r k s acc = .ok (l, s') → KnL acc → wL 7 l + Phi z s.p ≤ wL 7 acc + Phi z s'.p ∧ KnL l
 | 0, s, acc, l, s', h, _ => by cases h
 | k + 1, s, acc, l, s', h, ha => by
  unfold itemL at h
  split at h
  ·cases h; exact ⟨Nat.le_refl _, ha⟩
  split at h
  ·cases h
  rename_i x s1 h1
  have g1 := item_phi hr h1
  have g2 := g1.1
  have g3 := kn_app ha (kn_one g1.2)
  split at h
  ·rename_i hw
   have hw2 : Phi z s1.p ≤ Phi z (s1.p + 1) := by
    rcases Bool.or_eq_true _ _ |>.mp hw with hw | hw
    ·have := phi_is hw; omega
    ·have := phi_is hw; omega
   have g4 := itemL_phi k _ _ _ _ h g3
   rw [wL_app, wL_cons, wL_nil] at g4
   have g5 := g4.1
   simp only at g5
   exact ⟨by omega, g4.2⟩
  ·cases h
   rw [wL_app, wL_cons, wL_nil]
   exact ⟨by omega, g3⟩
theorem table_phi {s s' : Ps} {x : Nd} (h : tableR z r s = .ok (x, s')) : PtW z 8 s s' x := by
 unfold tableR at h
 split at h
 ·cases h
 rename_i n s1 h1
 split at h
 ·cases h
 rename_i u s2 h2
 cases h
 obtain ⟨s3, h3, h4⟩ := within_eq h1
 have g1 := itemL_phi hr _ _ _ _ _ h3 kn_nil
 rw [wL_nil] at g1
 have g2 := want_phi h2
 rw [h4] at g2
 have g3 := wt_18 n
 have g4 := wL_len 7 n
 have g5 := wL_len 2 n
 have g6 := g1.1
 simp only at g6
 exact ⟨by omega, kn_k (by decide) g1.2⟩
include hz
theorem operand_phi {s s' : Ps} {x : Nd} {b : Bool} (h : operandR z r s = .ok ((x, b), s')) : PtW z 8 s s' x := by
 unfold operandR at h
 split at h
 ·rename_i w hw
  cases h
  have g1 := phi_kind hw
  obtain ⟨_, _, hk⟩ := kindW_eq hw
  have g2 := hz w g1.2
  have g3 := wt_13 w.n
  have g4 : toldP ⟨2, [], w.n, 0⟩ = toldP w := by unfold toldP; rw [hk]; rfl
  rw [g4] at g3
  exact ⟨by simp only; omega, kn_mk (by decide) g2 kn_nil⟩
 split at h
 ·rename_i w hw
  cases h
  have g1 := phi_kind hw
  obtain ⟨_, _, hk⟩ := kindW_eq hw
  have g3 := (wt_14 ⟨w.t.toArray⟩).2
  have g4 : toldP w = quoteP w.t := by unfold toldP; rw [hk]; rfl
  have g5 : (⟨w.t.toArray⟩ : ByteArray).size = w.t.length := rfl
  have g6 : w.t.length ≤ (quoteP w.t).length := by
   unfold quoteP
   rw [List.length_cons, List.length_append]
   have : ∀ l : List UInt8, l.length ≤ (l.flatMap quoB).length := by
    intro l
    induction l with
    | nil => simp
    | cons c l ih =>
     rw [List.flatMap_cons, List.length_append, List.length_cons]
     have : 1 ≤ (quoB c).length := by
      unfold quoB
      repeat' split
      all_goals simp
     omega
   have := this w.t
   omega
  rw [g4] at g1
  have g7 := g1.1
  have g8 : quoteP ((⟨w.t.toArray⟩ : ByteArray).data.toList) = quoteP w.t := rfl
  rw [g8, g5] at g3
  exact ⟨by simp only; omega, kn_mk (by decide) (by decide) kn_nil⟩
 split at h
 ·rename_i w hw
  have g1 := phi_name hw
  have g5 : (⟨w.t.toArray⟩ : ByteArray).size = w.t.length := rfl
  split at h
  ·rename_i hb
   split at h
   ·cases h
   rename_i n s1 h1
   cases h
   have g2 := phi_is hb
   have g3 := call_phi hr h1
   have g4 := g3.1
   simp only at g4
   have e : s.p + 1 + 1 = s.p + 2 := rfl
   rw [e] at g2
   exact ⟨by omega, g3.2⟩
  ·cases h
   have g2 := wt_15 ⟨w.t.toArray⟩
   exact ⟨by simp only; omega, kn_mk (by decide) (by decide) kn_nil⟩
 have g10 := wt_10
 split at h
 ·rename_i hw
  cases h
  have g1 := phi_is hw
  exact ⟨by simp only; omega, kn_k (by decide) kn_nil⟩
 split at h
 ·rename_i hw
  cases h
  have g1 := phi_is hw
  exact ⟨by simp only; omega, kn_k (by decide) kn_nil⟩
 split at h
 ·rename_i hw
  cases h
  have g1 := phi_is hw
  exact ⟨by simp only; omega, kn_k (by decide) kn_nil⟩
 split at h
 ·rename_i hw
  split at h
  ·cases h
  rename_i n s1 h1
  cases h
  have g1 := phi_is hw
  have g2 := bracket_phi hr h1
  have g3 := g2.1
  simp only at g3
  exact ⟨by omega, g2.2⟩
 split at h
 ·cases h
 rename_i u s1 h1
 split at h
 ·cases h
 rename_i n s2 h2
 cases h
 have g1 := want_phi h1
 have g2 := table_phi hr h2
 have g3 := g2.1
 exact ⟨by omega, g2.2⟩
omit hz in
theorem index_phi : ∀ (k : Nat) (s : Ps) (n x : Nd) (s' : Ps), indexL z r k s n = .ok (x, s') → KnN n → wtN x + Phi z s.p ≤ wtN n + Phi z s'.p ∧ KnN x
 | 0, s, n, x, s', h, _ => by cases h
 | k + 1, s, n, x, s', h, hn => by
  unfold indexL at h
  split at h
  ·rename_i hw
   split at h
   ·cases h
   rename_i y s1 h1
   have g1 := phi_is hw
   have g2 := bracket_phi hr h1
   have g3 := index_phi k _ _ _ _ h (kn_k (by decide) (kn_two hn g2.2))
   have g4 := wt_16 n y
   have g5 := g2.1
   simp only at g5
   exact ⟨by omega, g3.2⟩
  split at h
  ·rename_i hw
   split at h
   ·cases h
   rename_i y s1 h1
   have g1 := phi_is hw
   have g2 := nameR_phi h1
   simp only at g2
   have g3 := index_phi k _ _ _ _ h (kn_k (by decide) (kn_two hn (kn_mk (by decide) (by decide) kn_nil)))
   have g4 := wt_16 n (ndT y)
   have g5 := (wt_14 y).1
   exact ⟨by omega, g3.2⟩
  cases h; exact ⟨Nat.le_refl _, hn⟩
theorem behind_phi : AllP z 8 (behindR z r) := by
 intro s x s' h
 unfold behindR at h
 split at h
 ·cases h
 rename_i n may s1 h1
 have g1 := operand_phi hr hz h1
 split at h
 ·have g2 := index_phi hr _ _ _ _ _ h g1.2
  have g3 := g1.1
  exact ⟨by omega, g2.2⟩
 ·cases h; exact g1
theorem pzS_phi : PtP z (pzS z r) := ⟨stmt_phi hr, fun lv s x s' h => by
 simp only [pzS] at h
 split at h
 ·exact unary_phi hr _ _ _ h
 ·exact expr_phi hr lv _ _ _ h, behind_phi hr hz⟩
end
theorem pz_phi (z : Wz) (hz : ∀ w ∈ z.ws, 0 ≤ w.n ∧ w.n ≤ 9223372036854775807) : ∀ f, PtP z (pz z f)
 | 0 => ⟨fun s x s' h => (by cases h), fun lv s x s' h => (by cases h), fun s x s' h => (by cases h)⟩
 | f + 1 => pzS_phi (pz_phi z hz f) hz
theorem tree_phi {z : Wz} (hz : ∀ w ∈ z.ws, 0 ≤ w.n ∧ w.n ≤ 9223372036854775807) {x : Nd} (h : treeR z = .ok x) : wtN x ≤ Phi z z.ws.length + 1 ∧ KnN x := by
 unfold treeR at h
 split at h
 ·cases h
 rename_i n s h1
 split at h
 ·rename_i hp
  cases h
  have := block_phi (pz_phi z hz _).st h1
  rw [hp] at this
  exact ⟨by have := this.1; omega, this.2⟩
 ·cases h
end Go.Proofs.YtkbcnacjaakleaaGreatDoor
namespace Go.Proofs.YtkbcnacjaakleaaGreatDoor

def GW (w : Wd) : Prop := mayP w = true ∧ w.n ≤ 9223372036854775807
def AllG (l : List Wd) : Prop := ∀ w ∈ l, GW w
theorem allG_nil : AllG [] := fun w h => by simp at h
theorem allG_cons {w : Wd} {l : List Wd} (h : GW w) (g : AllG l) : AllG (w :: l) := fun x hx => by
 rcases List.mem_cons.1 hx with rfl | hx
 ·exact h
 ·exact g x hx
theorem allG_app {a b : List Wd} (h : AllG a) (g : AllG b) : AllG (a ++ b) := fun x hx => by
 rcases List.mem_append.1 hx with hx | hx
 ·exact h x hx
 ·exact g x hx
def AllT (tl : List (List Wd)) : Prop := ∀ l ∈ tl, AllG l
theorem gw_kw {t : List UInt8} (h : keyB t = true) : GW (kwW t) := ⟨by unfold mayP kwW; simp [h], by unfold kwW; simp⟩
theorem gw_sg {t : List UInt8} (h : signB t = true) : GW (sgW t) := ⟨by unfold mayP sgW; simp [h], by unfold sgW; simp⟩
theorem gw_nm {s : ByteArray} (h : nameP s.data.toList = true) : GW (nmW s) := ⟨by unfold mayP nmW; simp [h], by unfold nmW; simp⟩
theorem allG_flat {tl : List (List Wd)} (h : AllT tl) : AllG (tl.flatMap (· ++ [sgW [59]])) := fun w hw => by
 rw [List.mem_flatMap] at hw
 obtain ⟨l, hl, hw⟩ := hw
 exact allG_app (h l hl) (allG_cons (gw_sg (by decide)) allG_nil) w hw
theorem allG_comma {tl : List (List Wd)} (h : AllT tl) : AllG (commaT tl) := by
 cases tl with
 | nil => exact allG_nil
 | cons x l =>
  unfold commaT
  refine allG_app (h x (by simp)) fun w hw => ?_
  rw [List.mem_flatMap] at hw
  obtain ⟨y, hy, hw⟩ := hw
  exact allG_cons (gw_sg (by decide)) (h y (by simp [hy])) w hw
theorem allG_inner {b : Bool} {l : List Wd} (h : AllG l) : AllG (innerT b l) := by
 unfold innerT
 split
 ·exact allG_cons (gw_sg (by decide)) (allG_app h (allG_cons (gw_sg (by decide)) allG_nil))
 ·exact h
theorem allG_rest : ∀ {tl : List (List Wd)}, AllT tl → AllG (restT tl)
 | [], _ => allG_cons (gw_kw (by decide)) allG_nil
 | [e], h => allG_cons (gw_kw (by decide)) (allG_app (h e (by simp)) (allG_cons (gw_kw (by decide)) allG_nil))
 | c :: b :: l, h => allG_cons (gw_kw (by decide)) (allG_app (h c (by simp)) (allG_cons (gw_kw (by decide)) (allG_app (h b (by simp)) (allG_rest fun x hx => h x (by simp [hx])))))
theorem allG_if {tl : List (List Wd)} (h : AllT tl) : AllG (ifT tl) := by
 unfold ifT
 split
 ·rename_i c b l
  exact allG_cons (gw_kw (by decide)) (allG_app (h c (by simp)) (allG_cons (gw_kw (by decide)) (allG_app (h b (by simp)) (allG_rest fun x hx => h x (by simp [hx])))))
 ·exact allG_nil
theorem allG_getD {tl : List (List Wd)} (h : AllT tl) (i : Nat) : AllG (tl.getD i []) := by
 rw [List.getD_eq_getElem?_getD]
 cases hi : tl[i]? with
 | none => exact allG_nil
 | some x => exact h x (List.mem_of_getElem? hi)
theorem allT_drop {tl : List (List Wd)} (h : AllT tl) : AllT tl.dropLast := fun l hl => h l ((List.dropLast_sublist tl).subset hl)
theorem allG_last {tl : List (List Wd)} (h : AllT tl) : AllG (tl.getLastD []) := by
 rcases List.eq_nil_or_concat tl with rfl | ⟨l, x, rfl⟩
 ·exact allG_nil
 ·rw [List.concat_eq_append] at h ⊢; rw [List.getLastD_concat]; exact h x (by simp)
theorem allG_names {l : List ByteArray} (h : l.all (fun x => nameP x.data.toList) = true) : AllG (namesT l) := by
 unfold namesT
 refine allG_comma fun t ht => ?_
 obtain ⟨s, hs, rfl⟩ := List.mem_map.1 ht
 exact allG_cons (gw_nm (List.all_eq_true.1 h s hs)) allG_nil
theorem gw_op {s : ByteArray} (h : operB s.data.toList = true) : GW (opW s) := by
 have key : ∀ l : List UInt8, operB l = true → ((l == tAnd || l == tOr) = true → keyB l = true) ∧ ((l == tAnd || l == tOr) = false → signB l = true) := by
  intro l hl
  unfold operB at hl
  rw [List.any_eq_true] at hl
  obtain ⟨m, hm, hc⟩ := hl
  have hc := List.contains_iff_mem.1 hc
  simp only [bondL, List.mem_cons, List.not_mem_nil, or_false] at hm
  rcases hm with rfl|rfl|rfl|rfl|rfl|rfl <;> simp only [List.mem_cons, List.not_mem_nil, or_false] at hc <;> (repeat' (rcases hc with rfl | hc)) <;> (first | decide | (subst hc; decide))
 unfold opW
 split
 ·rename_i hb; exact gw_kw ((key _ h).1 hb)
 ·rename_i hb; exact gw_sg ((key _ h).2 (by simpa using hb))
theorem gw_ahead {k : Int} : GW (aheadW k) := by
 unfold aheadW
 split
 ·exact gw_kw (by decide)
 split
 ·exact gw_sg (by decide)
 ·exact gw_sg (by decide)
theorem tellK_may {k : Int} {nm tx : ByteArray} {n : Int} {ns : List ByteArray} {kids : List Nd} {tl : List (List Wd)} (h : nodeP k nm tx n ns kids = true) (hn : n ≤ 9223372036854775807) (ht : AllT tl) : AllG (tellK k nm tx n ns (kids.map Nd.k) tl) := by
 by_cases h0 : k = 0
 ·subst h0
  unfold tellK
  rw [if_pos rfl]
  exact allG_flat ht
 obtain ⟨s, hs, hF⟩ := nodeP_of h h0
 have hk : 0 ≤ k ∧ k ≤ 24 := by
  rcases Classical.em (0 ≤ k ∧ k ≤ 24) with h1 | h1
  ·exact h1
  ·rw [shapeP_out h1] at hs; cases hs
 have hnm : s.name = true → GW (nmW nm) := fun e => gw_nm (hF.name e)
 have hop : s.oper = true → GW (opW nm) := fun e => gw_op (hF.oper e)
 have hns := allG_names hF.all
 have hh : 1 ≤ ns.length → GW (nmW (ns.headD eB)) := fun e => by
  cases ns with
  | nil => simp at e
  | cons x l =>
   have := hF.all
   simp only [List.all_cons, Bool.and_eq_true] at this
   exact gw_nm this.1
 have hl := hF.least
 rcases kinds_all hk.1 hk.2 with rfl|rfl|rfl|rfl|rfl|rfl|rfl|rfl|rfl|rfl|rfl|rfl|rfl|rfl|rfl|rfl|rfl|rfl|rfl|rfl|rfl|rfl|rfl|rfl|rfl
 all_goals (simp [shapeP] at hs; try subst hs)
 all_goals first | exact absurd rfl h0 | skip
 all_goals simp only [tellK, reduceIte, Int.reduceEq]
 all_goals (
  repeat (first
   | exact allG_nil
   | exact hns
   | exact allG_getD ht _
   | exact allG_comma ht
   | exact allG_comma (allT_drop ht)
   | exact allG_last ht
   | exact allG_if ht
   | exact gw_ahead
   | (refine gw_kw ?_; decide)
   | (refine gw_sg ?_; decide)
   | exact hnm rfl
   | exact hop rfl
   | exact hh hl
   | refine allG_inner ?_
   | refine allG_cons ?_ ?_
   | refine allG_app ?_ ?_
   | (split)
   | exact ⟨by unfold mayP; simp [hF.pos], hn⟩
   | exact ⟨by unfold mayP; simp, by simp⟩))
mutual
theorem tell_may : ∀ x : Nd, mayN x = true → SzN x → AllG (tellN x)
 | .mk k nm tx n ns kids, h, hs => by
  simp only [mayN, Bool.and_eq_true] at h
  simp only [SzN] at hs
  simp only [tellN]
  exact tellK_may h.2 hs.1.2.1.2 (tellL_may kids h.1 hs.2)
theorem tellL_may : ∀ l : List Nd, mayL l = true → SzL l → AllT (tellL l)
 | [], _, _ => fun x hx => by simp [tellL] at hx
 | x :: l, h, hs => by
  simp only [mayL, Bool.and_eq_true] at h
  simp only [SzL] at hs
  intro y hy
  simp only [tellL, List.mem_cons] at hy
  rcases hy with rfl | hy
  ·exact tell_may x h.1 hs.1
  ·exact tellL_may l h.2 hs.2 y hy
end
theorem AllG.all {l : List Wd} (h : AllG l) : l.all mayP = true := List.all_eq_true.2 fun w hw => (h w hw).1
theorem told_t {w : Wd} (h : mayP w = true) : w.t.length ≤ (toldP w).length := by
 unfold mayP at h
 unfold toldP
 split at h
 ·rename_i hk; rw [hk]; exact Nat.le_refl _
 split at h
 ·rename_i hk; rw [hk]; exact Nat.le_refl _
 split at h
 ·rename_i hk
  simp only [Bool.and_eq_true, List.isEmpty_iff] at h
  rw [h.1]; simp
 split at h
 ·rename_i hk
  rw [hk]
  show w.t.length ≤ (quoteP w.t).length
  unfold quoteP
  rw [List.length_cons, List.length_append]
  have : ∀ l : List UInt8, l.length ≤ (l.flatMap quoB).length := by
   intro l
   induction l with
   | nil => simp
   | cons c l ih =>
    rw [List.flatMap_cons, List.length_append, List.length_cons]
    have : 1 ≤ (quoB c).length := by
     unfold quoB
     repeat' split
     all_goals simp
    omega
  have := this w.t
  omega
 split at h
 ·rename_i hk; rw [hk]; exact Nat.le_refl _
 ·cases h
def parseR (l : List UInt8) : Except (Int × Int) Nd :=
 if 1048576 < l.length then .error (0, 3) else
 match lexS l with
 | .error p => .error ((p : Nat), 210)
 | .ok ws => match treeR ⟨ws, (l.length : Nat)⟩ with
  | .error y => .error y
  | .ok x => if checkN x = true then .ok x else .error (0, 221)
abbrev sKn : List UInt8 := [114, 101, 116, 117, 114, 110, 32, 49]
def ws1 : List Wd := [⟨1, tReturn, 0, 0⟩, ⟨2, [], 1, 7⟩]
def nd1 : Nd := ndK 0 [ndK 7 [ndI 1]]
theorem lexK1 : lexS sKn = .ok ws1 := by
 have e : lexS sKn = lexP 0 sKn := rfl
 rw [e, lexP_word (w := ⟨1, tReturn, 0, 0⟩) (n := 6) (by simp) (by decide +kernel) (by omega)]
 have e2 : lexP (0 + 6 + blankS false (sKn.drop 6)) (sKn.drop (6 + blankS false (sKn.drop 6))) = lexP 7 [49] := rfl
 rw [e2, lexP_word (w := ⟨2, [], 1, 0⟩) (n := 1) (by simp) (by decide +kernel) (by omega)]
 have e3 : ([49] : List UInt8).drop (1 + blankS false (([49] : List UInt8).drop 1)) = [] := rfl
 rw [e3, lexP_nil]
 rfl
theorem treeK1 : treeR ⟨ws1, 8⟩ = .ok nd1 := by rfl
theorem checkK1 : checkN nd1 = true := by decide +kernel
theorem parseK1 : parseR sKn = .ok nd1 := by
 unfold parseR
 rw [if_neg (by decide), lexK1]
 have e : treeR ⟨ws1, ((sKn.length : Nat) : Int)⟩ = .ok nd1 := treeK1
 simp only [e]
 rw [if_pos checkK1]
end Go.Proofs.YtkbcnacjaakleaaGreatDoor
