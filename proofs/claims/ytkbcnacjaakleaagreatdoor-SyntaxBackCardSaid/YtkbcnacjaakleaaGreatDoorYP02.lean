/- What is read moves on: the next word is behind, no more is open. The reader of words: is, at, take, must, want, kind, name. tabor.tree: expression, exprs, count's closure, deep; the document's Expression, exprs, Deep, Count. The document's exprs, Deep, Count. -/
import Derived.Test.YtkbcnacjaakleaaGreatDoorYP00
import Derived.Test.YtkbcnacjaakleaaGreatDoorYP01
import Derived.BigQuiet
import Derived.Recover
import Derived.Defers
set_option maxRecDepth 100000
set_option maxHeartbeats 32000000
set_option linter.unusedVariables false
set_option linter.unusedSimpArgs false
namespace Go.Proofs.YtkbcnacjaakleaaGreatDoor

section
variable {z : Wz}
theorem isW_lt {p : Nat} {t : List UInt8} (h : isW z p t = true) : p < z.ws.length := by
 unfold isW at h
 split at h
 ·rename_i w hw; exact (List.getElem?_eq_some_iff.1 hw).1
 ·cases h
theorem kindW_lt {p : Nat} {k : Int} {w : Wd} (h : kindW z p k = some w) : p < z.ws.length := by
 unfold kindW at h
 split at h
 ·rename_i w hw; exact (List.getElem?_eq_some_iff.1 hw).1
 ·cases h
def Gt (z : Wz) (s s' : Ps) : Prop := s.p < s'.p ∧ s'.p ≤ z.ws.length ∧ s'.o = s.o
def Ge (z : Wz) (s s' : Ps) : Prop := s.p ≤ s'.p ∧ (s.p ≤ z.ws.length → s'.p ≤ z.ws.length) ∧ s'.o = s.o
theorem Gt.ge {s s' : Ps} (h : Gt z s s') : Ge z s s' := ⟨Nat.le_of_lt h.1, fun _ => h.2.1, h.2.2⟩
theorem Ge.refl (s : Ps) : Ge z s s := ⟨Nat.le_refl _, fun h => h, rfl⟩
theorem Ge.trans {a b c : Ps} (h : Ge z a b) (g : Ge z b c) : Ge z a c := ⟨Nat.le_trans h.1 g.1, fun x => g.2.1 (h.2.1 x), g.2.2.trans h.2.2⟩
theorem Gt.trans {a b c : Ps} (h : Gt z a b) (g : Ge z b c) : Gt z a c := ⟨Nat.lt_of_lt_of_le h.1 g.1, g.2.1 h.2.1, g.2.2.trans h.2.2⟩
theorem Ge.gt {a b c : Ps} (h : Ge z a b) (g : Gt z b c) : Gt z a c := ⟨Nat.lt_of_le_of_lt h.1 g.1, g.2.1, g.2.2.trans h.2.2⟩
theorem Gt.one {s : Ps} (h : s.p < z.ws.length) : Gt z s ⟨s.p + 1, s.o⟩ := ⟨Nat.lt_succ_self _, h, rfl⟩
theorem Gt.isW {s : Ps} {t : List UInt8} (h : isW z s.p t = true) : Gt z s ⟨s.p + 1, s.o⟩ := .one (isW_lt h)
theorem want_gt {s s' : Ps} {t : List UInt8} {u : Unit} (h : wantP z s t = .ok (u, s')) : Gt z s s' := by
 unfold wantP at h
 split at h
 ·rename_i hw; cases h; exact .isW hw
 ·cases h
theorem want_is {s s' : Ps} {t : List UInt8} {u : Unit} (h : wantP z s t = .ok (u, s')) : isW z s.p t = true ∧ s' = ⟨s.p + 1, s.o⟩ := by
 unfold wantP at h
 split at h
 ·rename_i hw; cases h; exact ⟨hw, rfl⟩
 ·cases h
theorem nameR_gt {s s' : Ps} {x : ByteArray} (h : nameR z s = .ok (x, s')) : Gt z s s' := by
 unfold nameR at h
 split at h
 ·rename_i w hw; cases h; exact .one (kindW_lt hw)
 ·cases h
theorem skip_ge (s : Ps) (t : List UInt8) : Ge z s (skipP z s t) := by
 unfold skipP
 split
 ·rename_i hw; exact (Gt.isW hw).ge
 ·exact .refl s
def AllGt {α : Type} (z : Wz) (f : Ps → PR α) : Prop := ∀ s x s', f s = .ok (x, s') → Gt z s s'
def AllGe {α : Type} (z : Wz) (f : Ps → PR α) : Prop := ∀ s x s', f s = .ok (x, s') → Ge z s s'
theorem more_ge {α : Type} {f : Ps → PR α} (hf : AllGt z f) : ∀ (k : Nat) (s : Ps) (acc : List α) (l : List α) (s' : Ps), moreR z f k s acc = .ok (l, s') → Ge z s s'
 | 0, s, acc, l, s', h => by cases h
 | k + 1, s, acc, l, s', h => by
  unfold moreR at h
  split at h
  ·rename_i hw
   split at h
   ·cases h
   ·rename_i x s1 h1
    exact ((Gt.isW hw).trans (hf _ _ _ h1).ge).ge.trans (more_ge hf k _ _ _ _ h)
  ·cases h; exact .refl s
theorem comma_gt {α : Type} {f : Ps → PR α} (hf : AllGt z f) : AllGt z (commaR z f) := by
 intro s l s' h
 unfold commaR at h
 split at h
 ·cases h
 ·rename_i x s1 h1
  exact (hf _ _ _ h1).trans (more_ge hf _ _ _ _ _ h)
theorem within_ge {α : Type} {f : Ps → PR α} (hf : AllGe z f) : AllGe z (withinR z f) := by
 intro s l s' h
 unfold withinR at h
 split at h
 ·cases h
 split at h
 ·cases h
 ·rename_i x s1 h1
  cases h
  have := hf _ _ _ h1
  exact ⟨this.1, this.2.1, by have := this.2.2; simp only at this ⊢; omega⟩
theorem within_gt {α : Type} {f : Ps → PR α} (hf : AllGt z f) : AllGt z (withinR z f) := by
 intro s l s' h
 unfold withinR at h
 split at h
 ·cases h
 split at h
 ·cases h
 ·rename_i x s1 h1
  cases h
  have := hf _ _ _ h1
  exact ⟨this.1, this.2.1, by have := this.2.2; simp only at this ⊢; omega⟩
theorem blockL_ge {f : Ps → PR Nd} (hf : AllGt z f) : ∀ (k : Nat) (s : Ps) (acc l : List Nd) (s' : Ps), blockL z f k s acc = .ok (l, s') → Ge z s s'
 | 0, s, acc, l, s', h => by cases h
 | k + 1, s, acc, l, s', h => by
  unfold blockL at h
  split at h
  ·cases h; exact .refl s
  ·split at h
   ·cases h
   ·rename_i x s1 h1
    split at h
    ·cases h; exact (hf _ _ _ h1).ge.trans (skip_ge _ _)
    ·exact ((hf _ _ _ h1).ge.trans (skip_ge _ _)).trans (blockL_ge hf k _ _ _ _ h)
theorem block_ge {f : Ps → PR Nd} (hf : AllGt z f) : AllGe z (blockR z f) := by
 intro s l s' h
 unfold blockR at h
 split at h
 ·cases h
 ·rename_i x s1 h1
  cases h
  exact blockL_ge hf _ _ _ _ _ h1
theorem opened_ge {f : Ps → PR Nd} (hf : AllGt z f) : AllGe z (openedR z f) := within_ge (block_ge hf)
theorem ended_gt {f : Ps → PR Nd} (hf : AllGt z f) : AllGt z (endedR z f) := by
 intro s l s' h
 unfold endedR at h
 split at h
 ·cases h
 ·rename_i x s1 h1
  split at h
  ·cases h
  ·rename_i u s2 h2
   cases h
   exact (opened_ge hf _ _ _ h1).gt (want_gt h2)
structure AdvP (z : Wz) (r : Pz) : Prop where
 st : AllGt z r.st
 ex : ∀ lv, AllGt z (r.ex lv)
 be : AllGt z r.be
variable {r : Pz} (hr : AdvP z r)
include hr
theorem func_gt : AllGt z (funcR z r) := by
 intro s l s' h
 unfold funcR at h
 split at h
 ·cases h
 rename_i nm s1 h1
 split at h
 ·cases h
 rename_i u s2 h2
 have g := (nameR_gt h1).trans (want_gt h2).ge
 split at h
 ·rename_i hw
  split at h
  ·cases h
  rename_i b s3 h3
  cases h
  exact g.trans ((Gt.isW hw).trans (ended_gt hr.st _ _ _ h3).ge).ge
 ·split at h
  ·cases h
  rename_i l s3 h3
  split at h
  ·cases h
  rename_i u s4 h4
  split at h
  ·cases h
  rename_i b s5 h5
  cases h
  exact ((g.trans (comma_gt (fun _ _ _ => nameR_gt) _ _ _ h3).ge).trans (want_gt h4).ge).trans (ended_gt hr.st _ _ _ h5).ge
theorem local_gt : AllGt z (localR z r) := by
 intro s l s' h
 unfold localR at h
 split at h
 ·rename_i hw; exact (Gt.isW hw).trans (func_gt hr _ _ _ h).ge
 split at h
 ·cases h
 rename_i l s1 h1
 have g := comma_gt (fun _ _ _ => nameR_gt) _ _ _ h1
 split at h
 ·rename_i hw
  split at h
  ·cases h
  rename_i x s2 h2
  split at h
  ·cases h
  ·cases h
   exact g.trans ((Gt.isW hw).trans (comma_gt (hr.ex 0) _ _ _ h2).ge).ge
 ·cases h; exact g
theorem branch_gt : ∀ (k : Nat) (s : Ps) (acc l : List Nd) (s' : Ps), branchL z r k s acc = .ok (l, s') → Gt z s s'
 | 0, s, acc, l, s', h => by cases h
 | k + 1, s, acc, l, s', h => by
  unfold branchL at h
  split at h
  ·cases h
  rename_i c s1 h1
  split at h
  ·cases h
  rename_i u s2 h2
  split at h
  ·cases h
  rename_i b s3 h3
  have g := ((hr.ex 0 _ _ _ h1).trans (want_gt h2).ge).trans (opened_ge hr.st _ _ _ h3)
  split at h
  ·rename_i hw; exact g.trans ((Gt.isW hw).trans (branch_gt k _ _ _ _ h).ge).ge
  ·cases h; exact g
theorem choice_gt : AllGt z (choiceR z r) := by
 intro s l s' h
 unfold choiceR at h
 split at h
 ·cases h
 rename_i l s1 h1
 have g := branch_gt hr _ _ _ _ _ h1
 split at h
 ·rename_i hw
  split at h
  ·cases h
  rename_i b s2 h2
  split at h
  ·cases h
  rename_i u s3 h3
  cases h
  exact (g.trans ((Gt.isW hw).trans (opened_ge hr.st _ _ _ h2)).ge).trans (want_gt h3).ge
 ·split at h
  ·cases h
  rename_i u s3 h3
  cases h
  exact g.trans (want_gt h3).ge
theorem loopE_gt (nm : ByteArray) (l : List Nd) : AllGt z (loopE z r nm l) := by
 intro s l s' h
 unfold loopE at h
 split at h
 ·cases h
 rename_i u s1 h1
 split at h
 ·cases h
 rename_i b s2 h2
 cases h
 exact (want_gt h1).trans (ended_gt hr.st _ _ _ h2).ge
theorem loop_gt : AllGt z (loopR z r) := by
 intro s l s' h
 unfold loopR at h
 split at h
 ·cases h
 rename_i nm s1 h1
 split at h
 ·cases h
 rename_i u s2 h2
 split at h
 ·cases h
 rename_i a s3 h3
 split at h
 ·cases h
 rename_i u s4 h4
 split at h
 ·cases h
 rename_i b s5 h5
 have g := ((((nameR_gt h1).trans (want_gt h2).ge).trans (hr.ex 0 _ _ _ h3).ge).trans (want_gt h4).ge).trans (hr.ex 0 _ _ _ h5).ge
 split at h
 ·rename_i hw
  split at h
  ·cases h
  rename_i c s6 h6
  exact (g.trans ((Gt.isW hw).trans (hr.ex 0 _ _ _ h6).ge).ge).trans (loopE_gt hr _ _ _ _ _ h).ge
 ·exact g.trans (loopE_gt hr _ _ _ _ _ h).ge
theorem while_gt : AllGt z (whileR z r) := by
 intro s l s' h
 unfold whileR at h
 split at h
 ·cases h
 rename_i c s1 h1
 split at h
 ·cases h
 rename_i u s2 h2
 split at h
 ·cases h
 rename_i b s3 h3
 cases h
 exact ((hr.ex 0 _ _ _ h1).trans (want_gt h2).ge).trans (ended_gt hr.st _ _ _ h3).ge
theorem return_ge : AllGe z (returnR z r) := by
 intro s l s' h
 unfold returnR at h
 split at h
 ·cases h; exact .refl s
 split at h
 ·cases h
 rename_i c s1 h1
 cases h
 exact (hr.ex 0 _ _ _ h1).ge
theorem plain_gt : AllGt z (plainR z r) := by
 intro s l s' h
 unfold plainR at h
 split at h
 ·cases h
 rename_i n s1 h1
 split at h
 ·cases h; exact hr.be _ _ _ h1
 split at h
 ·split at h
  ·cases h
  rename_i u s2 h2
  split at h
  ·cases h
  rename_i x s3 h3
  cases h
  exact ((hr.be _ _ _ h1).trans (want_gt h2).ge).trans (hr.ex 0 _ _ _ h3).ge
 ·cases h
theorem stmt_gt : AllGt z (stmtR z r) := by
 intro s l s' h
 unfold stmtR at h
 split at h
 ·rename_i hw; exact (Gt.isW hw).trans (local_gt hr _ _ _ h).ge
 split at h
 ·rename_i hw
  split at h
  ·cases h
  rename_i b s1 h1
  cases h
  exact (Gt.isW hw).trans (ended_gt hr.st _ _ _ h1).ge
 split at h
 ·rename_i hw; exact (Gt.isW hw).trans (choice_gt hr _ _ _ h).ge
 split at h
 ·rename_i hw; exact (Gt.isW hw).trans (while_gt hr _ _ _ h).ge
 split at h
 ·rename_i hw; exact (Gt.isW hw).trans (loop_gt hr _ _ _ h).ge
 split at h
 ·rename_i hw; cases h; exact .isW hw
 split at h
 ·rename_i hw; exact (Gt.isW hw).trans (return_ge hr _ _ _ h)
 exact plain_gt hr _ _ _ h
omit hr in
theorem operW_lt {p lv : Nat} {op : List UInt8} (h : operW z p lv = some op) : p < z.ws.length := by
 unfold operW at h
 split at h
 ·rename_i w hw; exact (List.getElem?_eq_some_iff.1 hw).1
 ·cases h
theorem oper_ge (lv : Nat) : ∀ (k : Nat) (s : Ps) (acc : List Nd) (ops : List (List UInt8)) (l : List Nd × List (List UInt8)) (s' : Ps), operL z r lv k s acc ops = .ok (l, s') → Ge z s s'
 | 0, s, acc, ops, l, s', h => by cases h
 | k + 1, s, acc, ops, l, s', h => by
  unfold operL at h
  split at h
  ·cases h; exact .refl s
  rename_i op hop
  split at h
  ·cases h
  rename_i x s1 h1
  exact ((Gt.one (operW_lt hop)).trans (hr.ex _ _ _ _ h1).ge).ge.trans (oper_ge lv k _ _ _ _ _ h)
theorem expr_gt (lv : Nat) : AllGt z (exprR z r lv) := by
 intro s l s' h
 unfold exprR at h
 split at h
 ·cases h
 rename_i x s1 h1
 split at h
 ·cases h
 rename_i l ops s2 h2
 cases h
 exact (hr.ex _ _ _ _ h1).trans (oper_ge hr lv _ _ _ _ _ _ h2)
omit hr in
theorem ahead_ge : ∀ (k p : Nat) (acc : List Int) (o : Nat), Ge z ⟨p, o⟩ ⟨(aheadL z k p acc).1, o⟩
 | 0, p, acc, o => .refl _
 | k + 1, p, acc, o => by
  unfold aheadL
  split
  ·rename_i hw; exact (Gt.isW (s := ⟨p, o⟩) hw).ge.trans (ahead_ge k _ _ o)
  split
  ·rename_i hw; exact (Gt.isW (s := ⟨p, o⟩) hw).ge.trans (ahead_ge k _ _ o)
  split
  ·rename_i hw; exact (Gt.isW (s := ⟨p, o⟩) hw).ge.trans (ahead_ge k _ _ o)
  exact .refl _
theorem unary_gt : AllGt z (unaryR z r) := by
 intro s l s' h
 unfold unaryR at h
 split at h
 ·cases h
 rename_i n s1 h1
 cases h
 exact (ahead_ge _ s.p _ s.o).gt (hr.be _ _ _ h1)
theorem bracket_gt (c : List UInt8) : AllGt z (bracketR z r c) := by
 intro s l s' h
 unfold bracketR at h
 split at h
 ·cases h
 rename_i n s1 h1
 split at h
 ·cases h
 rename_i u s2 h2
 cases h
 exact (within_gt (hr.ex 0) _ _ _ h1).trans (want_gt h2).ge
theorem args_ge : AllGe z (argsR z r) := by
 intro s l s' h
 unfold argsR at h
 split at h
 ·cases h; exact .refl s
 exact (comma_gt (hr.ex 0) _ _ _ h).ge
theorem call_gt (nm : ByteArray) : AllGt z (callN z r nm) := by
 intro s l s' h
 unfold callN at h
 split at h
 ·cases h
 rename_i n s1 h1
 split at h
 ·cases h
 rename_i u s2 h2
 cases h
 exact (within_ge (args_ge hr) _ _ _ h1).gt (want_gt h2)
theorem item_gt : AllGt z (itemR z r) := by
 intro s l s' h
 unfold itemR at h
 split at h
 ·rename_i hw
  split at h
  ·cases h
  rename_i k s1 h1
  split at h
  ·cases h
  rename_i u s2 h2
  split at h
  ·cases h
  rename_i x s3 h3
  cases h
  exact (((Gt.isW hw).trans (bracket_gt hr _ _ _ _ h1).ge).trans (want_gt h2).ge).trans (hr.ex 0 _ _ _ h3).ge
 split at h
 ·rename_i w w2 hw hw2
  split at h
  ·split at h
   ·cases h
   rename_i x s3 h3
   cases h
   have h2 := (List.getElem?_eq_some_iff.1 hw2).1
   have := hr.ex 0 _ _ _ h3
   exact ⟨by have := this.1; simp only at this; omega, this.2.1, this.2.2⟩
  ·split at h
   ·cases h
   rename_i x s3 h3
   cases h
   exact hr.ex 0 _ _ _ h3
 ·split at h
  ·cases h
  rename_i x s3 h3
  cases h
  exact hr.ex 0 _ _ _ h3
theorem itemL_ge : ∀ (k : Nat) (s : Ps) (acc l : List Nd) (s' : Ps), itemL z r k s acc = .ok (l, s') → Ge z s s'
 | 0, s, acc, l, s', h => by cases h
 | k + 1, s, acc, l, s', h => by
  unfold itemL at h
  split at h
  ·cases h; exact .refl s
  split at h
  ·cases h
  rename_i x s1 h1
  split at h
  ·rename_i hw
   have hlt : s1.p < z.ws.length := by
    rcases Bool.or_eq_true _ _ |>.mp hw with hw | hw
    ·exact isW_lt hw
    ·exact isW_lt hw
   exact ((item_gt hr _ _ _ h1).trans (Gt.one hlt).ge).ge.trans (itemL_ge k _ _ _ _ h)
  ·cases h; exact (item_gt hr _ _ _ h1).ge
theorem table_gt : AllGt z (tableR z r) := by
 intro s l s' h
 unfold tableR at h
 split at h
 ·cases h
 rename_i n s1 h1
 split at h
 ·cases h
 rename_i u s2 h2
 cases h
 exact (within_ge (fun s x s' => itemL_ge hr _ s _ x s') _ _ _ h1).gt (want_gt h2)
theorem operand_gt : AllGt z (operandR z r) := by
 intro s l s' h
 unfold operandR at h
 split at h
 ·rename_i w hw; cases h; exact .one (kindW_lt hw)
 split at h
 ·rename_i w hw; cases h; exact .one (kindW_lt hw)
 split at h
 ·rename_i w hw
  split at h
  ·rename_i hb
   split at h
   ·cases h
   rename_i n s1 h1
   cases h
   have := call_gt hr _ _ _ _ h1
   have h2 := isW_lt hb
   exact ⟨by have := this.1; simp only at this; omega, this.2.1, this.2.2⟩
  ·cases h; exact .one (kindW_lt hw)
 split at h
 ·rename_i hw; cases h; exact .isW hw
 split at h
 ·rename_i hw; cases h; exact .isW hw
 split at h
 ·rename_i hw; cases h; exact .isW hw
 split at h
 ·rename_i hw
  split at h
  ·cases h
  rename_i n s1 h1
  cases h
  exact (Gt.isW hw).trans (bracket_gt hr _ _ _ _ h1).ge
 split at h
 ·cases h
 rename_i u s1 h1
 split at h
 ·cases h
 rename_i n s2 h2
 cases h
 exact (want_gt h1).trans (table_gt hr _ _ _ h2).ge
theorem index_ge : ∀ (k : Nat) (s : Ps) (n x : Nd) (s' : Ps), indexL z r k s n = .ok (x, s') → Ge z s s'
 | 0, s, n, x, s', h => by cases h
 | k + 1, s, n, x, s', h => by
  unfold indexL at h
  split at h
  ·rename_i hw
   split at h
   ·cases h
   rename_i y s1 h1
   exact ((Gt.isW hw).trans (bracket_gt hr _ _ _ _ h1).ge).ge.trans (index_ge k _ _ _ _ h)
  split at h
  ·rename_i hw
   split at h
   ·cases h
   rename_i y s1 h1
   exact ((Gt.isW hw).trans (nameR_gt h1).ge).ge.trans (index_ge k _ _ _ _ h)
  cases h; exact .refl s
theorem behind_gt : AllGt z (behindR z r) := by
 intro s l s' h
 unfold behindR at h
 split at h
 ·cases h
 rename_i n may s1 h1
 split at h
 ·exact (operand_gt hr _ _ _ h1).trans (index_ge hr _ _ _ _ _ h)
 ·cases h; exact operand_gt hr _ _ _ h1
theorem pzS_adv : AdvP z (pzS z r) := ⟨stmt_gt hr, fun lv s x s' h => by
 simp only [pzS] at h
 split at h
 ·exact unary_gt hr _ _ _ h
 ·exact expr_gt hr lv _ _ _ h, behind_gt hr⟩
end
theorem pz_adv (z : Wz) : ∀ f, AdvP z (pz z f)
 | 0 => ⟨fun s x s' h => (by cases h), fun lv s x s' h => (by cases h), fun s x s' h => (by cases h)⟩
 | f + 1 => pzS_adv (pz_adv z f)
end Go.Proofs.YtkbcnacjaakleaaGreatDoor
namespace Go.Proofs.YtkbcnacjaakleaaGreatDoor
open Go.RowKit

structure RdAt (w : World) (r : Nat) (q : Option Addr) (c : Nat) (z : Wz) (s : Ps) : Prop where
 blk : Blk w r 88 #[.slice q z.ws.length c, .int .i64 (s.p : Int), .int .i64 z.long, .int .i64 (s.o : Int)]
 words : ∀ i (h : i < z.ws.length), ∃ b o, q = some ⟨b, o, none⟩ ∧ ¬ b = r ∧ w.cell? ⟨b, o + i * 4, none⟩ = some (.int .i64 z.ws[i].k) ∧ w.cell? ⟨b, o + i * 4 + 1, none⟩ = some (.string ⟨z.ws[i].t.toArray⟩) ∧
  w.cell? ⟨b, o + i * 4 + 2, none⟩ = some (.int .i64 z.ws[i].n) ∧ w.cell? ⟨b, o + i * 4 + 3, none⟩ = some (.int .i64 z.ws[i].a)
 len : z.ws.length ≤ 1048576
 le : s.p ≤ z.ws.length
 op : s.o ≤ 100
section
variable {w w' : World} {r : Nat} {q : Option Addr} {c : Nat} {z : Wz} {s s' : Ps}
theorem RdAt.lt (h : RdAt w r q c z s) : r < w.heap.size := h.blk.lt
theorem RdAt.ext (h : RdAt w r q c z s) (he : Ext w w') : RdAt w' r q c z s :=
 ⟨h.blk.ext he, fun i hi => let ⟨b, o, e, n, c0, c1, c2, c3⟩ := h.words i hi; ⟨b, o, e, n, he.cell c0, he.cell c1, he.cell c2, he.cell c3⟩, h.len, h.le, h.op⟩
theorem RdAt.put (h : RdAt w r q c z s) (ho : Only r w w') (hb : Blk w' r 88 #[.slice q z.ws.length c, .int .i64 (s'.p : Int), .int .i64 z.long, .int .i64 (s'.o : Int)]) (hp : s'.p ≤ z.ws.length) (ho' : s'.o ≤ 100) : RdAt w' r q c z s' :=
 ⟨hb, fun i hi => let ⟨b, o, e, n, c0, c1, c2, c3⟩ := h.words i hi; ⟨b, o, e, n, ho.cell n c0, ho.cell n c1, ho.cell n c2, ho.cell n c3⟩, h.len, hp, ho'⟩
theorem RdAt.step (h : RdAt w r q c z s) (p' : Nat) (hp : p' ≤ z.ws.length) : RdAt (w.setCell ⟨r, 1, none⟩ (.int .i64 (p' : Int))) r q c z ⟨p', s.o⟩ :=
 h.put ((Only.refl r w).set 1 _) (by simpa using h.blk.set_ 1 (.int .i64 (p' : Int))) hp h.op
theorem RdAt.opn (h : RdAt w r q c z s) (o' : Nat) (ho : o' ≤ 100) : RdAt (w.setCell ⟨r, 3, none⟩ (.int .i64 (o' : Int))) r q c z ⟨s.p, o'⟩ :=
 h.put ((Only.refl r w).set 3 _) (by simpa using h.blk.set_ 3 (.int .i64 (o' : Int))) h.le ho
theorem RdAt.four (h : RdAt w r q c z s) : w.cell? ⟨r, 0, none⟩ = some (.slice q z.ws.length c) ∧ w.cell? ⟨r, 1, none⟩ = some (.int .i64 (s.p : Int)) ∧ w.cell? ⟨r, 2, none⟩ = some (.int .i64 z.long) ∧ w.cell? ⟨r, 3, none⟩ = some (.int .i64 (s.o : Int)) ∧ w.frozen? ⟨r, 1, none⟩ = false :=
 ⟨h.blk.cell 0, h.blk.cell 1, h.blk.cell 2, h.blk.cell 3, h.blk.frozen 1⟩
end
theorem toList_mk (t : List UInt8) : (⟨t.toArray⟩ : ByteArray).toList = t := by rw [Lib.toList_data]
abbrev strV (t : List UInt8) : Value := .string ⟨t.toArray⟩
def stopV (x : Int × Int) : Value := .iface 85 (.agg #[.int .i64 x.1, .int .i64 x.2])
def Stops (x : Int × Int) (e : Ending) : Prop := e = .panicked [{ v := stopV x, recovered := false }]
theorem is_any (w : World) (r : Nat) (q : Option Addr) (c : Nat) (z : Wz) (s : Ps) (t : List UInt8) (h : RdAt w r q c z s) :
  Calls Tryz.prog 90 #[.pointer (some ⟨r, 0, none⟩), strV t] w fun e w' => e = .returned (.bool (isW z s.p t)) ∧ Ext w w' := by
 obtain ⟨d0, d1, _⟩ := h.four
 have hl := h.len
 obtain ⟨p, o⟩ := s
 have hple : p ≤ z.ws.length := h.le
 simp only at d1 ⊢
 by_cases hlt : p < z.ws.length
 rotate_left
 ·have hd : decide ((p : Int) < (z.ws.length : Int)) = false := decide_eq_false (by omega)
  have hd2 : decide (p < z.ws.length) = false := decide_eq_false hlt
  have hr : isW z p t = false := by unfold isW; rw [List.getElem?_eq_none (by omega)]
  rw [hr]
  clear h hr
  generalize z.ws.length = m at *
  go_enter Tryz.func90, Tryz.ntmps90
  go_wp2_with fail
  go_quiet (fail)
  go_wp2_with fail
  go_ret
  exact ⟨rfl, (Ext.refl w).drewN nq⟩
 ·have hd : decide ((p : Int) < (z.ws.length : Int)) = true := decide_eq_true (by omega)
  have hd2 : decide (p < z.ws.length) = true := decide_eq_true hlt
  obtain ⟨b, o2, hq, hbr, x0, x1, _, _⟩ := h.words p hlt
  have hr : isW z p t = (z.ws[p].t == t && (z.ws[p].k == 4 || z.ws[p].k == 1)) := by unfold isW; rw [List.getElem?_eq_getElem hlt]
  rw [hr]
  subst hq
  have hpI : (p : Int) < (z.ws.length : Int) := by omega
  have hp0 : (0 : Int) ≤ (p : Int) := by omega
  clear h hr
  generalize z.ws[p] = x at *
  obtain ⟨k, xt, n, a⟩ := x
  simp only at x0 x1 ⊢
  generalize z.ws.length = m at *
  cases ht : (xt == t) with
  | false =>
   have ht2 : ((⟨xt.toArray⟩ : ByteArray).toList == (⟨t.toArray⟩ : ByteArray).toList) = false := by rw [toList_mk, toList_mk]; exact ht
   rw [toList_mk, toList_mk] at ht2
   go_enter Tryz.func90, Tryz.ntmps90
   go_wp2_with fail
   go_quiet (fail)
   go_wp2_with fail
   go_ret
   exact ⟨by simp, (Ext.refl w).drewN nq⟩
  | true =>
   have ht2 : xt = t := by simpa using ht
   subst ht2
   clear ht
   have ht3 : (xt == xt) = true := by simp
   cases h4 : (k == 4) with
   | true =>
    go_enter Tryz.func90, Tryz.ntmps90
    go_wp2_with fail
    go_quiet (fail)
    go_wp2_with fail
    go_ret
    exact ⟨by simp, (Ext.refl w).drewN nq⟩
   | false =>
    cases h1 : (k == 1) with
    | true =>
     go_enter Tryz.func90, Tryz.ntmps90
     go_wp2_with fail
     go_quiet (fail)
     go_wp2_with fail
     go_ret
     exact ⟨by simp, (Ext.refl w).drewN nq⟩
    | false =>
     go_enter Tryz.func90, Tryz.ntmps90
     go_wp2_with fail
     go_quiet (fail)
     go_wp2_with fail
     go_ret
     exact ⟨by simp, (Ext.refl w).drewN nq⟩
theorem at_any (w : World) (r : Nat) (q : Option Addr) (c : Nat) (z : Wz) (s : Ps) (h : RdAt w r q c z s) :
  Calls Tryz.prog 93 #[.pointer (some ⟨r, 0, none⟩)] w fun e w' => e = .returned (.int .i64 (atW z s.p)) ∧ Ext w w' := by
 obtain ⟨d0, d1, d2, _⟩ := h.four
 have hl := h.len
 obtain ⟨p, o⟩ := s
 have hple : p ≤ z.ws.length := h.le
 simp only at d1 ⊢
 by_cases hlt : p < z.ws.length
 rotate_left
 ·have hd : decide ((p : Int) < (z.ws.length : Int)) = false := decide_eq_false (by omega)
  have hd2 : decide (p < z.ws.length) = false := decide_eq_false hlt
  have hr : atW z p = z.long := by unfold atW; rw [List.getElem?_eq_none (by omega)]
  rw [hr]
  clear h hr
  generalize z.ws.length = m at *
  generalize z.long = lg at *
  go_enter Tryz.func93, Tryz.ntmps93
  go_wp2_with fail
  go_quiet (fail)
  go_wp2_with fail
  go_ret
  exact ⟨rfl, (Ext.refl w).drewN nq⟩
 ·have hd : decide ((p : Int) < (z.ws.length : Int)) = true := decide_eq_true (by omega)
  have hd2 : decide (p < z.ws.length) = true := decide_eq_true hlt
  obtain ⟨b, o2, hq, hbr, _, _, _, x3⟩ := h.words p hlt
  have hr : atW z p = z.ws[p].a := by unfold atW; rw [List.getElem?_eq_getElem hlt]
  rw [hr]
  subst hq
  have hpI : (p : Int) < (z.ws.length : Int) := by omega
  have hp0 : (0 : Int) ≤ (p : Int) := by omega
  clear h hr
  generalize z.ws[p] = x at *
  obtain ⟨k, xt, n, a⟩ := x
  simp only at x3 ⊢
  generalize z.ws.length = m at *
  go_enter Tryz.func93, Tryz.ntmps93
  go_wp2_with fail
  go_quiet (fail)
  go_wp2_with fail
  go_quiet (fail)
  go_wp2_with fail
  go_ret
  exact ⟨rfl, by first | exact (Ext.refl w).drewN _ | exact ((Ext.refl w).drewN _).drewN _⟩
theorem must_yes (w : World) (r : Nat) : Calls Tryz.prog 54 #[.pointer (some ⟨r, 0, none⟩), .bool true] w fun e w' => e = .returned (.tuple #[]) ∧ w = w' := by
 go_enter Tryz.func54, Tryz.ntmps54
 go_wp2
 go_end0
 exact ⟨rfl, rfl⟩
theorem must_no (w : World) (r : Nat) (q : Option Addr) (c : Nat) (z : Wz) (s : Ps) (h : RdAt w r q c z s) : Calls Tryz.prog 54 #[.pointer (some ⟨r, 0, none⟩), .bool false] w fun e w' => Stops (atW z s.p, 220) e ∧ Ext w w' := by
 go_enter Tryz.func54, Tryz.ntmps54
 go_wp2_with fail
 refine (at_any w r q c z s h).mono ?_
 rintro e w1 ⟨rfl, e1⟩
 go_wp2_with fail
 exact ⟨rfl, rfl, e1⟩
theorem take_any (w : World) (r : Nat) (q : Option Addr) (c : Nat) (z : Wz) (s : Ps) (t : List UInt8) (h : RdAt w r q c z s) :
  Calls Tryz.prog 92 #[.pointer (some ⟨r, 0, none⟩), strV t] w fun e w' => e = .returned (.bool (isW z s.p t)) ∧ RdAt w' r q c z (skipP z s t) ∧ Only r w w' := by
 have hlt : isW z s.p t = true → s.p < z.ws.length := fun hh => isW_lt hh
 have hsk : skipP z s t = if isW z s.p t then ⟨s.p + 1, s.o⟩ else s := rfl
 have H := Lib.hid h
 have cI := is_any w r q c z s t h
 rw [hsk]
 generalize isW z s.p t = b at *
 clear h hsk
 go_enter Tryz.func92, Tryz.ntmps92
 go_wp2_with fail
 refine cI.mono ?_
 rintro e w1 ⟨rfl, e1⟩
 cases b with
 | false =>
  go_wp2_with fail
  go_ret
  exact ⟨rfl, by simpa using H.out.ext e1, .of_ext e1⟩
 | true =>
  have R1 := Lib.hid (H.out.ext e1)
  have hl := hlt rfl
  have hm := R1.out.len
  obtain ⟨d0, d1, d2, d3, f1⟩ := R1.out.four
  have hwr : IntKind.i64.wrap ((s.p : Int) + 1) = (s.p : Int) + 1 := IntWalk.i64_in _ (by omega)
  have hlr := R1.out.lt
  go_wp2_with fail
  go_ret
  exact ⟨rfl, by have := R1.out.step (s.p + 1) hl; simpa using this, (Only.of_ext e1).set 1 _⟩
def RdR {α : Type} (Enc : α → Value → World → Prop) (w : World) (r : Nat) (q : Option Addr) (c : Nat) (z : Wz) (res : PR α) (e : Ending) (w' : World) : Prop :=
 Only r w w' ∧ match res with
  | .ok (x, s') => (∃ v, e = .returned v ∧ Enc x v w') ∧ RdAt w' r q c z s'
  | .error y => Stops y e
section
variable {α : Type} {Enc : α → Value → World → Prop} {w w' : World} {r : Nat} {q : Option Addr} {c : Nat} {z : Wz} {res : PR α} {e : Ending} {x : α} {s' : Ps} {y : Int × Int} {v : Value}
theorem RdR.mk1 (hr : res = .ok (x, s')) (ho : Only r w w') (hv : Enc x v w') (hs : RdAt w' r q c z s') : RdR Enc w r q c z res (.returned v) w' := by
 subst hr; exact ⟨ho, ⟨v, rfl, hv⟩, hs⟩
theorem RdR.mk0 (hr : res = .error y) (ho : Only r w w') : RdR Enc w r q c z res (.panicked [{ v := stopV y, recovered := false }]) w' := by
 subst hr; exact ⟨ho, rfl⟩
theorem RdR.yes (h : RdR Enc w r q c z res e w') (hr : res = .ok (x, s')) : ∃ v, e = .returned v ∧ Enc x v w' ∧ RdAt w' r q c z s' ∧ Only r w w' := by
 subst hr; obtain ⟨ho, ⟨v, e, hv⟩, hs⟩ := h; exact ⟨v, e, hv, hs, ho⟩
theorem RdR.no (h : RdR Enc w r q c z res e w') (hr : res = .error y) : e = .panicked [{ v := stopV y, recovered := false }] ∧ Only r w w' := by
 subst hr; exact ⟨h.2, h.1⟩
end
abbrev EncU : Unit → Value → World → Prop := fun _ v _ => v = .tuple #[]
abbrev EncB : ByteArray → Value → World → Prop := fun s v _ => v = .string s
theorem wantP_yes {z : Wz} {s : Ps} {t : List UInt8} (h : isW z s.p t = true) : wantP z s t = .ok ((), ⟨s.p + 1, s.o⟩) := by unfold wantP; rw [if_pos h]
theorem wantP_no {z : Wz} {s : Ps} {t : List UInt8} (h : isW z s.p t = false) : wantP z s t = .error (atW z s.p, 220) := by unfold wantP; rw [if_neg (by rw [h]; decide)]
theorem skipP_yes {z : Wz} {s : Ps} {t : List UInt8} (h : isW z s.p t = true) : skipP z s t = ⟨s.p + 1, s.o⟩ := by unfold skipP; rw [if_pos h]
theorem skipP_no {z : Wz} {s : Ps} {t : List UInt8} (h : isW z s.p t = false) : skipP z s t = s := by unfold skipP; rw [if_neg (by rw [h]; decide)]
theorem want_any (w : World) (r : Nat) (q : Option Addr) (c : Nat) (z : Wz) (s : Ps) (t : List UInt8) (h : RdAt w r q c z s) :
  Calls Tryz.prog 179 #[.pointer (some ⟨r, 0, none⟩), strV t] w (RdR EncU w r q c z (wantP z s t)) := by
 obtain ⟨res, hres⟩ : ∃ res, wantP z s t = res := ⟨_, rfl⟩
 rw [hres]
 have HR := Lib.hid hres
 have cT := take_any w r q c z s t h
 clear hres
 cases hb : isW z s.p t with
 | false =>
  rw [hb, skipP_no hb] at cT
  have HB := Lib.hid hb
  clear hb
  go_enter Tryz.func179, Tryz.ntmps179
  go_wp2_with fail
  refine cT.mono ?_
  rintro e w1 ⟨rfl, r1, o1⟩
  go_wp2_with fail
  refine (must_no w1 r q c z s r1).mono ?_
  rintro e w2 ⟨he, e2⟩
  unfold Stops at he
  subst he
  go_wp2_with fail
  exact ⟨rfl, .mk0 (by rw [← HR.out, wantP_no HB.out]) (o1.ext e2)⟩
 | true =>
  rw [hb, skipP_yes hb] at cT
  have HB := Lib.hid hb
  clear hb
  go_enter Tryz.func179, Tryz.ntmps179
  go_wp2_with fail
  refine cT.mono ?_
  rintro e w1 ⟨rfl, r1, o1⟩
  go_wp2_with fail
  refine (must_yes w1 r).mono ?_
  rintro e w2 ⟨rfl, rfl⟩
  go_wp2_with fail
  go_end0
  exact .mk1 (by rw [← HR.out, wantP_yes HB.out]) o1 rfl r1
end Go.Proofs.YtkbcnacjaakleaaGreatDoor
namespace Go.Proofs.YtkbcnacjaakleaaGreatDoor
open Go.RowKit

theorem NodeAt.parts {ok : Nat → Prop} {w : World} {d : Nat} {v : Value} {x : Nd} (h : NodeAt ok w d v x) : ∃ qn cn ql cl, v = ndV x (.slice qn x.names.length cn) (.slice ql x.kids.length cl) ∧ TxtsAt ok w (.slice qn x.names.length cn) x.names ∧ KidsAt ok w d (.slice ql x.kids.length cl) x.kids := by
 obtain ⟨nv, lv, rfl, h1, h2⟩ := h
 obtain ⟨qn, cn, rfl⟩ := h1.slice
 obtain ⟨ql, cl, rfl⟩ := h2.slice
 exact ⟨qn, cn, ql, cl, rfl, h1, h2⟩
theorem expression_any (w : World) (k : Int) : Calls Tryz.prog 207 #[.int .i64 k] w fun e w' => e = .returned (.bool (exprK k)) ∧ w = w' := by
 unfold exprK
 have e19 : (k != 19) = !(k == 19) := rfl
 have e20 : (k != 20) = !(k == 20) := rfl
 cases h1 : decide (10 ≤ k) <;> cases h2 : decide (k ≤ 24) <;> cases h3 : (k == 19) <;> cases h4 : (k == 20)
 all_goals (
  rw [h3] at e19
  rw [h4] at e20
  go_enter Tryz.func207, Tryz.ntmps207
  go_wp2_with fail
  go_ret
  exact ⟨rfl, rfl⟩)
theorem exprs1_any (w : World) (ok : Nat → Prop) (d : Nat) (v : Value) (x : Nd) (h : NodeAt ok w d v x) : Calls Tryz.prog 206 (#[v] ++ #[]) w fun e w' => e = .returned (.bool (!exprK x.k)) ∧ Ext w w' := by
 obtain ⟨qn, cn, ql, cl, rfl, _, _⟩ := h.parts
 clear h
 generalize x.names.length = nl
 generalize x.kids.length = kl
 go_enter Tryz.func206, Tryz.ntmps206
 go_wp2_with fail
 refine (expression_any _ x.k).mono ?_
 rintro e w1 ⟨rfl, rfl⟩
 go_wp2_with fail
 go_ret
 exact ⟨rfl, (Ext.refl w).alloc _⟩
theorem exprs_any (w : World) (ok : Nat → Prop) (d : Nat) (v : Value) (l : List Nd) (h : KidsAt ok w d v l) (hl : l.length ≤ 140737488355328) : Calls Tryz.prog 126 #[v] w fun e w' => e = .returned (.bool (exprsP l)) ∧ Ext w w' := by
 have hc := contains_nd (f := 206) (lb := #[]) (p := fun x => !exprK x.k) w ok d v l h (by omega) (fun _ _ => rfl) (fun x _ W v' _ hn => exprs1_any W ok _ v' x hn)
 have he : exprsP l = !(l.any fun x => !exprK x.k) := by
  unfold exprsP
  induction l with
  | nil => rfl
  | cons x l ih =>
   rw [List.all_cons, List.any_cons, Bool.not_or, Bool.not_not]
   have : (l.all fun x => exprK x.k) = !(l.any fun x => !exprK x.k) := by
    clear ih hc h hl
    induction l with
    | nil => rfl
    | cons y l ih => rw [List.all_cons, List.any_cons, Bool.not_or, Bool.not_not, ih]
   rw [this]
 have HC := Lib.hid hc
 have HE := Lib.hid he
 obtain ⟨q, c, rfl⟩ := h.slice
 clear hc he h hl
 generalize (l.any fun x => !exprK x.k) = b at *
 generalize exprsP l = r at *
 go_enter Tryz.func126, Tryz.ntmps126
 go_wp2_with fail
 refine HC.out.mono ?_
 rintro e w1 ⟨rfl, e1⟩
 have E1 := Lib.hid e1
 clear e1
 go_wp2_with fail
 go_ret
 exact ⟨by rw [HE.out]; rfl, E1.out⟩
/-! ### deep -/
theorem deepL_any (d : Nat) : ∀ l : List Nd, deepL d l = !(l.any fun k => !deepN d k)
 | [] => by simp [deepL]
 | x :: l => by rw [List.any_cons, Bool.not_or, Bool.not_not, ← deepL_any d l]; simp only [deepL]
theorem deepN_succ (d : Nat) (x : Nd) : deepN (d + 1) x = !(x.kids.any fun k => !deepN d k) := by
 obtain ⟨k, a, t, n, ns, kids⟩ := x
 rw [← deepL_any]
 rfl
theorem deepN_zero (x : Nd) : deepN 0 x = false := by cases x; rfl
theorem intV {n : Nat} : Value.int .i64 ((n + 1 : Nat) : Int) = .int .i64 ((n : Int) + 1) := by rw [Int.natCast_succ]
theorem deep1_any {left : Nat} (hl : left < 100) (ih : ∀ (w : World) (ok : Nat → Prop) (d : Nat) (v : Value) (x : Nd), SzN x → NodeAt ok w d v x → Calls Tryz.prog 41 #[v, .int .i64 (left : Int)] w fun e w' => e = .returned (.bool (deepN left x)) ∧ Ext w w')
  (w : World) (ok : Nat → Prop) (d : Nat) (v : Value) (x : Nd) (hs : SzN x) (h : NodeAt ok w d v x) (B : Nat) (hB : Blk w B 3 #[.int .i64 ((left : Int) + 1)]) :
  Calls Tryz.prog 67 (#[v] ++ #[.pointer (some ⟨B, 0, none⟩)]) w fun e w' => e = .returned (.bool (!deepN left x)) ∧ Ext w w' := by
 have hc := fun W (e : Ext w W) => ih W ok d v x hs (h.ext e)
 have HC := Lib.hid hc
 obtain ⟨qn, cn, ql, cl, rfl, _, _⟩ := h.parts
 have hE := Lib.hid ((Ext.refl w).alloc (.cells #[.int .i64 x.k, .string x.name, .string x.text, .int .i64 x.n, .slice qn x.names.length cn, .slice ql x.kids.length cl] 28))
 have hb := hB.cell 0
 have hlt := hB.lt
 have hne : ¬ B = w.heap.size := by omega
 simp only [List.getElem?_toArray, List.getElem?_cons_zero] at hb
 have hwr : IntKind.i64.wrap ((left : Int) + 1 - 1) = (left : Int) := by rw [IntWalk.i64_in _ (by omega)]; omega
 clear hc h hs ih hB
 generalize x.names.length = nl at *
 generalize x.kids.length = kl at *
 generalize deepN left x = r at *
 go_enter Tryz.func67, Tryz.ntmps67
 go_wp2_with fail
 refine (HC.out _ hE.out).mono ?_
 rintro e w1 ⟨rfl, e1⟩
 have E1 := Lib.hid e1
 clear e1
 go_wp2_with fail
 go_ret
 exact ⟨rfl, hE.out.trans E1.out⟩
theorem deep_any : ∀ (left : Nat), left ≤ 100 → ∀ (w : World) (ok : Nat → Prop) (d : Nat) (v : Value) (x : Nd), SzN x → NodeAt ok w d v x → Calls Tryz.prog 41 #[v, .int .i64 (left : Int)] w fun e w' => e = .returned (.bool (deepN left x)) ∧ Ext w w'
 | 0, hl, w, ok, d, v, x, hs, h => by
  obtain ⟨qn, cn, ql, cl, rfl, _, _⟩ := h.parts
  rw [deepN_zero]
  clear h hs
  generalize x.names.length = nl at *
  generalize x.kids.length = kl at *
  go_enter Tryz.func41, Tryz.ntmps41
  go_wp2_with fail
  go_ret
  exact ⟨rfl, ((Ext.refl w).alloc _).alloc _⟩
 | left + 1, hl, w, ok, d, v, x, hs, h => by
  have ih := deep_any left (by omega)
  obtain ⟨qn, cn, ql, cl, rfl, _, hk⟩ := h.parts
  rw [deepN_succ, intV]
  have hso := hs.out
  have hE := Lib.hid (((Ext.refl w).alloc (.cells #[.int .i64 x.k, .string x.name, .string x.text, .int .i64 x.n, .slice qn x.names.length cn, .slice ql x.kids.length cl] 28)).alloc (.cells #[.int .i64 ((left : Int) + 1)] 3))
  have hB := Blk.new (w.alloc (.cells #[.int .i64 x.k, .string x.name, .string x.text, .int .i64 x.n, .slice qn x.names.length cn, .slice ql x.kids.length cl] 28)) 3 #[.int .i64 ((left : Int) + 1)]
  rw [size_alloc] at hB
  have hc := contains_nd (f := 67) (lb := #[.pointer (some ⟨w.heap.size + 1, 0, none⟩)]) (p := fun k => !deepN left k) _ ok d _ x.kids (hk.ext hE.out) (by have := hso.kids; omega) (fun _ _ => rfl)
   (fun y hy W v' he hn => deep1_any (by omega) ih W ok _ v' y (hso.sub y hy) hn _ (hB.ext he))
  have HC := Lib.hid hc
  have hd : decide ((0 : Int) < (left : Int) + 1) = true := decide_eq_true (by omega)
  have hd2 : decide ((0 : Int) < ((left + 1 : Nat) : Int)) = true := decide_eq_true (by omega)
  clear hc h hs hk hso ih hB
  generalize (x.kids.any fun k => !deepN left k) = r at *
  generalize x.names.length = nl at *
  generalize x.kids.length = kl at *
  go_enter Tryz.func41, Tryz.ntmps41
  go_wp2_with fail
  refine HC.out.mono ?_
  rintro e w1 ⟨rfl, e1⟩
  have E1 := Lib.hid e1
  clear e1
  go_wp2_with fail
  go_ret
  exact ⟨rfl, hE.out.trans E1.out⟩
def SubN (w : World) (ok : Nat → Prop) (d : Nat) (l : List Nd) (Q : Nd → Value → World → Prop) : Prop := ∀ y ∈ l, ∀ W v', Ext w W → NodeAt ok W (d - 1) v' y → Q y v' W
theorem SubN.zero {w : World} {ok : Nat → Prop} {l : List Nd} {Q : Nd → Value → World → Prop} {v : Value} (h : KidsAt ok w 0 v l) : SubN w ok 0 l Q := by
 obtain ⟨rfl, _⟩ := h
 exact fun y hy => by simp at hy
abbrev ndO (x : Nd) (nv lv : Value) : Obj := .cells #[.int .i64 x.k, .string x.name, .string x.text, .int .i64 x.n, nv, lv] 28
theorem nd_box {w W : World} {x : Nd} {nv lv : Value} (h : Ext (w.alloc (ndO x nv lv)) W) : W.cell? ⟨w.heap.size, 0, none⟩ = some (.int .i64 x.k) ∧ W.cell? ⟨w.heap.size, 1, none⟩ = some (.string x.name) ∧ W.cell? ⟨w.heap.size, 2, none⟩ = some (.string x.text) ∧ W.cell? ⟨w.heap.size, 3, none⟩ = some (.int .i64 x.n) ∧ W.cell? ⟨w.heap.size, 4, none⟩ = some nv ∧ W.cell? ⟨w.heap.size, 5, none⟩ = some lv := by
 have hB : Blk W w.heap.size 28 #[.int .i64 x.k, .string x.name, .string x.text, .int .i64 x.n, nv, lv] := (Blk.new w _ _).ext h
 exact ⟨hB.cell 0, hB.cell 1, hB.cell 2, hB.cell 3, hB.cell 4, hB.cell 5⟩
end Go.Proofs.YtkbcnacjaakleaaGreatDoor
