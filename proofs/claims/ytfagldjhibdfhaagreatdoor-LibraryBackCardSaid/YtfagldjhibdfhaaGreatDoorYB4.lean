/- A range over a function whose rounds may panic: the panic leaves the round, the iterator, the statement. (The kit's laws of such ranges take no panic in a round.) The items of a table, as the library goes over them. strings.Builder at this dump: copyCheck and WriteString (the shelf's walk, turned to this program's own numbers). A builder is written, and what is none of its blocks stays. The library's concat. -/
import Derived.WalkKit
import Derived.RangeFuncWrites
import Derived.RangeFuncBound
import Derived.RangeFuncCalls
import Derived.RangeFuncLeaves
import Derived.RangeFuncBox
import Derived.OwnWalkIn
import Derived.Test.YtfagldjhibdfhaaGreatDoorYA8
import Derived.Test.YtfagldjhibdfhaaGreatDoorYA9
import Derived.Shelf.Abstract
import Derived.Shelf.RegionOpen
import Derived.TacticsInMore
import Derived.LoopNIn
import Derived.LoopIn
import Derived.Test.YtfagldjhibdfhaaGreatDoorYA1
import Derived.Test.YtfagldjhibdfhaaGreatDoorYA7
import Derived.Lib.Builder
import Derived.Lib.AppendStr
import Derived.Lib.UnsafeStr
import Derived.Laws.Externs
import Derived.Test.YtfagldjhibdfhaaGreatDoorYB3
namespace Go.Proofs.YtfagldjhibdfhaaGreatDoor
open Go.RowKit
set_option linter.unusedVariables false
variable {F : Fence} {n : Nat} {P : Program}

def wpF (f0 : FuncId) (F : Fence) (n : Nat) (P : Program) (c : Code) (Q : Exit → Act → World → Prop) (a : Act) (w : World) : Prop :=
 ∀ (b : Frame) (k : List Item) (cs : List Frame), b.fn = f0 → b.roundOf = F.round → F.fn b.fn → F.room (cs.length + 1 + n) →
  ∃ e a' w', Q e a' w' ∧ ArrivesIn (Machine.fenced P F) P (lone (b.atR a (.code c :: k)) cs w) b k cs e a' w'
theorem wpF_of {f0 : FuncId} {c : Code} {Q : Exit → Act → World → Prop} {a : Act} {w : World} (h : c.wpIn F n P Q a w) : wpF f0 F n P c Q a w := fun b k cs _ hro hb hr => h b k cs hro hb hr
theorem wpF_seq {f0 : FuncId} {x y : Code} {Q : Exit → Act → World → Prop} {a : Act} {w : World} (h : wpF f0 F n P x (Exit.then (wpF f0 F n P y Q) Q) a w) : wpF f0 F n P (Code.seq x y) Q a w := by
 intro b k cs hf hro hb hr
 have h0 : (lone (b.atR a (.code (.seq x y) :: k)) cs w).fenced P F := fenced_calm hb hr rfl
 obtain ⟨e, a₁, w₁, hq, harr⟩ := h b (.code y :: k) cs hf hro hb hr
 cases e with
 | normal =>
  obtain ⟨e₂, a₂, w₂, hq₂, harr₂⟩ := hq b k cs hf hro hb hr
  exact ⟨e₂, a₂, w₂, hq₂, .of_steps (.head h0 stepR_seq harr) harr₂⟩
 | exit id => exact ⟨_, a₁, w₁, hq, .of_steps (.one h0 stepR_seq) (.pass (x := .code y) rfl (fun _ _ => .inl (by simp)) harr)⟩
 | goto l => exact ⟨_, a₁, w₁, hq, .of_steps (.one h0 stepR_seq) (.pass (x := .code y) rfl (fun _ _ => .inl (by simp)) harr)⟩
 | ret => exact ⟨_, a₁, w₁, hq, .of_steps (.one h0 stepR_seq) (.pass (x := .code y) rfl (fun _ _ => .inl (by simp)) harr)⟩
 | panic ch => exact ⟨_, a₁, w₁, hq, .of_steps (.one h0 stepR_seq) (.pass (x := .code y) rfl (fun _ _ => .inl (by simp)) harr)⟩
 | outgrown => exact ⟨_, a₁, w₁, hq, .of_steps (.one h0 stepR_seq) (.pass (x := .code y) rfl (fun _ _ => .inl (by simp)) harr)⟩
theorem callsIn_of_wpF {f : FuncId} {fn : Func} {c : Code} {args : Array Value} {w : World} {R : Ending → World → Prop}
  (hf : P.funcs[f]? = some fn) (hb : fn.body = some c) (hF : F.fn f)
  (h : wpF f F n P c (bodyPostM F n P fn R) { tmps := args ++ Array.replicate (fn.ntmps - args.size) undef, defers := [] } w) (hro : F.round = none := by rfl) : CallsIn F n P f args w R := by
 refine ⟨hF, fun cs hr => ?_⟩
 let b : Frame := { (default : Frame) with fn := f, kind := .normal, roundOf := none }
 have henter : Frame.enter P f args .normal =
   b.atR { tmps := args ++ Array.replicate (fn.ntmps - args.size) undef, defers := [] } [.code c] := by
  simp [Frame.enter, Frame.atR, hf, hb, b]
 obtain ⟨e, a', w', hq, harr⟩ := h b [] cs rfl hro.symm hF hr
 rw [← henter] at harr
 cases e with
 | normal =>
  obtain ⟨e', w'', fr', hR, hs, hfn, hl⟩ := leaves_stepsInM a'.defers .returning w' { b.atR a' [] with mode := .returning } cs rfl rfl rfl hf rfl hF hr hq
  exact ⟨e', w'', fr', hR, ComesIn.of_steps (StepsIn.trans harr (.one (fenced_calm (fr := b.atR a' []) hF hr rfl) (stepR_end rfl))) hs, hfn, hl⟩
 | ret =>
  obtain ⟨todo, hs₀⟩ := harr.1 rfl
  obtain ⟨e', w'', fr', hR, hs, hfn, hl⟩ := leaves_stepsInM a'.defers .returning w' { b.atR a' todo with mode := .returning } cs rfl rfl rfl hf rfl hF hr hq
  exact ⟨e', w'', fr', hR, ComesIn.of_steps hs₀ hs, hfn, hl⟩
 | panic chain =>
  obtain ⟨todo, hs₀⟩ := harr
  obtain ⟨e', w'', fr', hR, hs, hfn, hl⟩ := leaves_stepsInM a'.defers (.panicking chain) w' { b.atR a' todo with mode := .panicking chain } cs rfl rfl rfl hf rfl hF hr hq
  exact ⟨e', w'', fr', hR, ComesIn.of_steps hs₀ hs, hfn, hl⟩
 | exit id => exact hq.elim
 | goto l => exact hq.elim
 | outgrown => exact ⟨.outgrown, w', b, hq, harr.resolve_left (by simp [b]), rfl, trivial⟩
def roundPostP (P : Program) (l : Nat) (R : Ending → World → Prop) : Exit → Act → World → Prop
 | .normal, _, w => ∃ v w', (Instr.endRound l none).run P w = .ok v w' ∧ R (.returned v) w'
 | .panic ch, a, w => a.defers = [] ∧ R (.panicked ch) w
 | _, _, _ => False
theorem roundIn_of_wpInP {l : Nat} {f : FuncId} {fn : Func} {tmps : Array Value} {assign body : Code} {w : World} {R : Ending → World → Prop} (hF : F.fn f) (hf : P.funcs[f]? = some fn)
  (h : assign.wpIn (F.inRound l) n P (Exit.then (fun a₁ w₁ => ∃ w₂, (Instr.beginRound l).run P w₁ = .ok () w₂ ∧ body.wpIn (F.inRound l) n P (roundPostP P l R) a₁ w₂) (fun _ _ _ => False))
   { tmps := tmps, defers := [] } w) :
  RoundIn F n P l f tmps assign body w R := by
 refine ⟨hF, fun c cs hr => ?_⟩
 let b : Frame := { (default : Frame) with fn := f, kind := .normal, roundOf := some l }
 have hb0 : Frame.round l f tmps assign body .normal = b.atR { tmps := tmps, defers := [] } [.code assign, .beginRound, .code body] := by
  simp [Frame.round, Frame.atR, b]
 have hr' : (F.inRound l).room ((c :: cs).length + 1 + n) := hr
 have hF' : (F.inRound l).fn b.fn := hF
 obtain ⟨e, a₁, w₁, hq, harr⟩ := h b [.beginRound, .code body] (c :: cs) rfl hF' hr'
 rw [← hb0] at harr
 cases e with
 | normal =>
  obtain ⟨w₂, hbr, hbody⟩ := hq
  have s1 : StepsIn (Machine.fenced P (F.inRound l)) P (lone (b.atR a₁ [.beginRound, .code body]) (c :: cs) w₁) (lone (b.atR a₁ [.code body]) (c :: cs) w₂) :=
   .one (fenced_calm (fr := b.atR a₁ [.beginRound, .code body]) hF' hr' rfl) (stepR_beginRound rfl hbr)
  obtain ⟨e₂, a₂, w₃, hq₂, harr₂⟩ := hbody b [] (c :: cs) rfl hF' hr'
  cases e₂ with
  | normal =>
   obtain ⟨v, w₄, hend, hR⟩ := hq₂
   exact ⟨.returned v, w₄, hR, (StepsIn.trans harr s1).trans (StepsIn.trans harr₂ (.one (fenced_calm (fr := b.atR a₂ []) hF' hr' rfl) (stepR_round_end rfl rfl hend)))⟩
  | panic chain =>
   obtain ⟨hd, hR⟩ := hq₂
   obtain ⟨todo, hs⟩ := harr₂
   have hl : ({ b.atR a₂ todo with mode := .panicking chain } : Frame).leaving P w₃ (.panicked chain) := ⟨rfl, hd, fn, hf⟩
   have hfe : (lone ({ b.atR a₂ todo with mode := .panicking chain } : Frame) (c :: cs) w₃).fenced P (F.inRound l) := fenced_leaving (n := n) hF' hr' hl
   exact ⟨.panicked chain, w₃, hR, (StepsIn.trans harr s1).trans (StepsIn.trans hs (.one hfe (step_leave_panicked hl)))⟩
  | exit id => exact hq₂.elim
  | goto t => exact hq₂.elim
  | ret => exact hq₂.elim
  | outgrown => exact hq₂.elim
 | exit id => exact hq.elim
 | goto t => exact hq.elim
 | ret => exact hq.elim
 | panic chain => exact hq.elim
 | outgrown => exact hq.elim
theorem wpF_rangeFunc {f0 : FuncId} {g : Operand} {ps : Array Tmp} {assign body : Code} {Q : Exit → Act → World → Prop} {a : Act} {w : World}
  (h : F.fn f0 → ∃ (l : Nat) (mark : List Deferred) (w₁ : World) (d : Deferred) (w₁' : World) (f : FuncId) (args : Array Value) (w₂ : World),
   (Instr.enterLoop f0 a.tmps ps assign body F.round).run P w = .ok (l, mark) w₁ ∧
   (resolve a.eval (rangeCall g l) 0).run P w₁ = .ok d w₁' ∧
   (∀ f', Target.leads P w₁' d.target d.args = some f' → F.fn f') ∧
   (invoke d.target d.args).run P w₁' = .ok (.enter f args) w₂ ∧
   (F.depth.isSome = true → 1 ≤ n) ∧
   CallsIn F (n - 1) P f args w₂ (rangePost F n P l Q { a with defers := mark ++ a.defers })) :
  wpF f0 F n P (Code.rangeFunc g ps assign body) Q a w := by
 intro b k cs hf0 hro hb hr
 obtain ⟨l, mark, w₁, d, w₁', f, args, w₂, he, hres, hlead, hinv, hn, hF, hcall⟩ := h (hf0 ▸ hb)
 rw [← hro, ← hf0] at he
 have h0 : (lone (b.atR a (.code (.rangeFunc g ps assign body) :: k)) cs w).fenced P F := by
  refine fenced_lone (.inl hb) (fun f' hf' => hlead f' ?_) (Fence.room_le hr (by omega))
  have hev := Frame.eval_atR b a (.code (.rangeFunc g ps assign body) :: k)
  simp only [Frame.atR] at hev
  simp only [Frame.about, Frame.atR, he, hev, hres] at hf'
  exact hf'
 have henter := stepR_rangeFunc (P := P) (b := b) (a := a) (k := k) (cs := cs) (w := w) he hres hinv
 have hroom : F.room ((b.atR { a with defers := mark ++ a.defers } (.inRangeFunc l :: k) :: cs).length + 1 + (n - 1)) := Fence.room_enter hr hn
 obtain ⟨e, w₃, fr, hR, hsteps, hfn, hleave⟩ := hcall (b.atR { a with defers := mark ++ a.defers } (.inRangeFunc l :: k) :: cs) hroom
 cases e with
 | outgrown =>
  obtain ⟨a₀, w₀, hq⟩ := hR
  exact ⟨.outgrown, a₀, w₀, hq, .inr (Outgrown.of_steps (.one henter) hsteps)⟩
 | returned v =>
  have hl : (lone fr (b.atR { a with defers := mark ++ a.defers } (.inRangeFunc l :: k) :: cs) w₃).fenced P F := fenced_leaving (hfn ▸ hF) hroom hleave
  obtain ⟨jump, w₄, hend, hj⟩ := hR
  have sback : StepsIn (Machine.fenced P F) P (lone (b.atR a (.code (.rangeFunc g ps assign body) :: k)) cs w) (lone (b.atR { a with defers := mark ++ a.defers } ((jump.map Item.code).toList ++ k)) cs w₄) := by
   refine .head h0 henter (StepsIn.trans hsteps (.head hl ?_ (.one (fenced_calm (fr := b.atR { a with defers := mark ++ a.defers } (.endRangeFunc l :: k)) hb hr rfl) (stepR_endRangeFunc hend))))
   rw [← finish_atR_inRangeFunc l v]; exact step_leave_returned hleave
  cases jump with
  | none => exact ⟨.normal, _, w₄, hj, sback⟩
  | some c =>
   obtain ⟨e', a'', w₅, hq, harr⟩ := hj b k cs hro hb hr
   exact ⟨e', a'', w₅, hq, .of_steps sback harr⟩
 | panicked chain =>
  have hl : (lone fr (b.atR { a with defers := mark ++ a.defers } (.inRangeFunc l :: k) :: cs) w₃).fenced P F := fenced_leaving (hfn ▸ hF) hroom hleave
  refine ⟨.panic chain, _, w₃, hR, .inRangeFunc l :: k, .head h0 henter (StepsIn.trans hsteps (.one hl ?_))⟩
  rw [← Frame.raise_atR]; exact step_leave_panicked hleave
def SeqP {α : Type} (F : Fence) (n : Nat) (P : Program) (g : Nat) (lb : Array Value) (encs : α → Array Value) (Kp : World → World → Prop) (R : List α → α → Prop) (S : List α → Prop) (w : World) : Prop :=
 ∀ (l : Nat) (J : List α → World → Prop) (Jp : List PanicEntry → World → Prop) (W : World), Below w.heap.size w W → AbidesFrom W.heap.size J →
  (∀ pre x W1, J pre W1 → R pre x → YieldAt F (n - 1) P l (encs x) W1 fun e W' =>
   (e = .returned (.bool true) ∧ J (pre ++ [x]) W' ∧ Kp W1 W') ∨ (∃ ch, e = .panicked ch ∧ Jp ch W')) →
  J [] W →
  CallsIn F n P g (#[.func (.yield l) #[] #[]] ++ lb) W fun e W' => (∃ v xs, e = .returned v ∧ S xs ∧ J xs W') ∨ (∃ ch, e = .panicked ch ∧ Jp ch W')
def ownPostP {α : Type} (B : Nat) (Kp : World → World → Prop) (I : List α → World → Prop) (Ip : List PanicEntry → World → Prop) (xs : List α) (W : World) : Exit → Act → World → Prop
 | .normal, _, W' => KeepsFrom B W W' ∧ Kp W W' ∧ I xs W'
 | .panic ch, a, W' => a.defers = [] ∧ KeepsFrom B W W' ∧ Ip ch W'
 | _, _, _ => False
theorem wpF_rangeFunc_P {α : Type} {f0 : FuncId} {fn0 : Func} {g : Operand} {ps : Array Tmp} {assign body : Code} {Q : Exit → Act → World → Prop} {a : Act} {w : World}
  (hf0 : P.funcs[f0]? = some fn0) (hro : F.round = none) (h1 : 1 ≤ n) {gf : Nat} {lb : Array Value} (hg : a.eval g = .func (.func gf) #[] lb) (hFg : F.fn gf) (eg : ∀ args w, (callFunc gf args).run P w = .ok (.enter gf args) w)
  {encs : α → Array Value} {Kp : World → World → Prop} {R : List α → α → Prop} {S : List α → Prop} {w0 : World} (hseq : SeqP F (n - 1) P gf lb encs Kp R S w0)
  (hKt : ∀ {A B C : World}, Kp A B → Kp B C → Kp A C) (hKb : ∀ (W : World) (l : Nat) (o o' : Obj), w.heap.size ≤ l → W.heap[l]? = some o → o.isCells = false → o.isWalk = false → Kp W (W.putObj l o')) (hb0 : Below w0.heap.size w0 w) (hps : ∀ x, (encs x).size = ps.size)
  (I : List α → World → Prop) (Ip : List PanicEntry → World → Prop) (hI : OwnFrom w.heap.size I) (h0 : I [] w)
  (Ax : α → Act → World → Prop) (hAx : ∀ x, OwnFrom w.heap.size (Ax x))
  (hassign : ∀ (l : Nat) (pre : List α) (x : α) (W : World) (K : Act → World → Prop), I pre W → R pre x →
   (∀ a' W', KeepsFrom w.heap.size W W' → Kp W W' → I pre W' → Ax x a' W' → K a' W') →
   assign.wpIn (F.inRound l) (n - 1 - 1) P (Exit.then K (fun _ _ _ => False)) { tmps := (ps.zip (encs x)).foldl (fun t (p, v) => t.setIfInBounds p v) a.tmps, defers := [] } W)
  (hbody : ∀ (l : Nat) (pre : List α) (x : α) (a' : Act) (W : World), I pre W → R pre x → Ax x a' W → body.wpIn (F.inRound l) (n - 1 - 1) P (ownPostP w.heap.size Kp I Ip (pre ++ [x]) W) a' W)
  (hdone : ∀ (D : Nat) (xs : List α) (W : World), w.heap.size ≤ D → S xs → I xs W → W.heap[D]? = some (.deferred (some [])) → Q .normal { a with defers := { target := .collected D, args := #[] } :: a.defers } W)
  (hpanic : ∀ (D : Nat) (ch : List PanicEntry) (W : World), w.heap.size ≤ D → Ip ch W → W.heap[D]? = some (.deferred (some [])) → Q (.panic ch) { a with defers := { target := .collected D, args := #[] } :: a.defers } W) :
  wpF f0 F n P (Code.rangeFunc g ps assign body) Q a w := by
 refine wpF_rangeFunc fun hfn => ?_
 rw [hro]
 obtain ⟨rc, hrc⟩ : ∃ rc : LoopState → Option Code → Loop, rc = fun st pe => { state := st, pending := pe, fn := f0, tmps := a.tmps, params := ps, assign, body, defers := w.heap.size } := ⟨_, rfl⟩
 obtain ⟨V, hV⟩ : ∃ V, (w.alloc (.deferred (some []))).alloc (.loop (rc .ready none)) = V := ⟨_, rfl⟩
 have vL : V.heap[w.heap.size + 1]? = some (.loop (rc .ready none)) := by
  rw [← hV]; have h := World.alloc_heap_new (w.alloc (.deferred (some []))) (.loop (rc .ready none)); rwa [World.size_alloc] at h
 have vD : V.heap[w.heap.size]? = some (.deferred (some [])) := by
  rw [← hV]; exact (Below.heap_alloc _ _ _ (by simp)).trans (World.alloc_heap_new w _)
 have vI : I [] V := by rw [← hV]; exact hI.alloc _ (hI.alloc _ h0)
 have vB : Below w0.heap.size w0 V := by
  rw [← hV]; exact hb0.trans ((((Below.refl _ w).alloc (Nat.le_refl _) _).alloc (by simp) _).mono hb0.size)
 have hsz : V.heap.size = w.heap.size + 1 + 1 := by rw [← hV]; simp
 refine ⟨w.heap.size + 1, [{ target := .collected w.heap.size, args := #[] }], V, { target := .fn (.func gf) lb, args := #[.func (.yield (w.heap.size + 1)) #[] #[]] }, V, gf,
  #[.func (.yield (w.heap.size + 1)) #[] #[]] ++ lb, V, ?_, ?_, ?_, ?_, fun _ => h1, ?_⟩
 ·rw [← hV, hrc]; exact run_enterLoop_outer _ _ _ _ _
 ·simp only [resolve, hg]
  simp [go_sem]
 ·intro f' hf'
  simp [Target.leads] at hf'
  subst hf'
  exact hFg
 ·simp [invoke, go_sem, eg]
 have hrow : ∀ {A : World} {row : Option Nat}, (∀ r, row = some r → V.heap.size ≤ r ∧ ∃ o : Obj, A.heap[r]? = some o ∧ o.isWalk = true) → (∀ r, row = some r → w.heap.size ≤ r ∧ ∃ o : Obj, A.heap[r]? = some o ∧ o.isCells = false) :=
  fun hr r e => by
   obtain ⟨hB, o, ho, hw⟩ := hr r e
   exact ⟨by omega, o, ho, Obj.not_cells_of_walk hw⟩
 refine (hseq (w.heap.size + 1)
  (fun pre W => I pre W ∧ W.heap[w.heap.size + 1]? = some (.loop (rc .ready none)) ∧ W.heap[w.heap.size]? = some (.deferred (some [])))
  (fun ch W => Ip ch W ∧ W.heap[w.heap.size]? = some (.deferred (some [])))
  V vB ?abide ?round ⟨vI, vL, vD⟩).mono ?behind
 case abide =>
  exact fun s A B row hs hg' hr => ⟨hI s A B row hs.1 hg' (hrow hr), (grownBy_keeps hg' (fun r e => (hr r e).2) hs.2.1 rfl).trans hs.2.1, (grownBy_keeps hg' (fun r e => (hr r e).2) hs.2.2 rfl).trans hs.2.2⟩
 case round =>
  rintro pre x W ⟨hi, hl, hk⟩ hR
  have hy := run_yield (P := P) (args := encs x) hl (by rw [hrc]; exact hps x)
  rw [hrc] at hy
  refine ⟨f0, _, assign, body, hy, roundIn_of_wpInP hfn hf0 (hassign _ pre x W _ hi hR fun a' Wa ka kpa hia hxa => ?_)⟩
  have hla : Wa.heap[w.heap.size + 1]? = some (.loop (rc .ready none)) := ka.same _ _ (by omega) hl rfl
  have hka : Wa.heap[w.heap.size]? = some (.deferred (some [])) := ka.same _ _ (Nat.le_refl _) hk rfl
  have hlt : w.heap.size + 1 < Wa.heap.size := (Array.getElem?_eq_some_iff.1 hla).1
  refine ⟨_, run_beginRound hla (by rw [hrc]), ?_⟩
  have hl2 : (Wa.putObj (w.heap.size + 1) (.loop { rc .ready none with state := .busy })).heap[w.heap.size + 1]? = some (.loop { rc .ready none with state := .busy }) := World.putObj_heap_same hlt
  have hk2 : (Wa.putObj (w.heap.size + 1) (.loop { rc .ready none with state := .busy })).heap[w.heap.size]? = some (.deferred (some [])) := (World.putObj_heap_other (by omega)).trans hka
  have hw2 : Kp Wa (Wa.putObj (w.heap.size + 1) (.loop { rc .ready none with state := .busy })) := hKb _ _ _ _ (by omega) hla rfl rfl
  refine wpIn_mono (hbody _ pre x a' _ (hI.putObj _ hia (by omega) hla rfl) hR ((hAx x).putObj _ hxa (by omega) hla rfl)) ?_
  rintro e a3 W3 hp
  cases e with
  | normal =>
   obtain ⟨hk3, hkp3, hi3⟩ := hp
   have hl3 := hk3.same _ _ (by omega) hl2 rfl
   have hr : (Instr.endRound (w.heap.size + 1) none).run P W3 = .ok (.bool true) (W3.putObj (w.heap.size + 1) (.loop (rc .ready none))) := by
    have h := run_endRound (P := P) none hl3
    rw [hrc] at h ⊢
    exact h
   have hl4 : (W3.putObj (w.heap.size + 1) (.loop (rc .ready none))).heap[w.heap.size + 1]? = some (.loop (rc .ready none)) := World.putObj_heap_same (Array.getElem?_eq_some_iff.1 hl3).1
   have hk4 : (W3.putObj (w.heap.size + 1) (.loop (rc .ready none))).heap[w.heap.size]? = some (.deferred (some [])) := (World.putObj_heap_other (by omega)).trans (hk3.same _ _ (Nat.le_refl _) hk2 rfl)
   exact ⟨_, _, hr, .inl ⟨rfl, ⟨hI.putObj _ hi3 (by omega) hl3 rfl, hl4, hk4⟩, hKt (hKt (hKt kpa hw2) hkp3) (hKb _ _ _ _ (by omega) hl3 rfl rfl)⟩⟩
  | panic ch =>
   obtain ⟨hd, hk3, hp3⟩ := hp
   exact ⟨hd, .inr ⟨ch, rfl, hp3, hk3.same _ _ (Nat.le_refl _) hk2 rfl⟩⟩
  | ret => exact hp.elim
  | exit id => exact hp.elim
  | goto t => exact hp.elim
  | outgrown => exact hp.elim
 case behind =>
  rintro e W2 (⟨v, xs, rfl, hS, hi, hl, hk⟩ | ⟨ch, rfl, hp, hk⟩)
  ·exact ⟨none, _, by have h := run_endLoop (P := P) hl (by rw [hrc]; simp); rw [hrc] at h; exact h, hdone _ xs _ (Nat.le_refl _) hS (hI.putObj _ hi (by omega) hl rfl) ((World.putObj_heap_other (by omega)).trans hk)⟩
  ·exact hpanic _ ch _ (Nat.le_refl _) hp hk
end Go.Proofs.YtfagldjhibdfhaaGreatDoor
namespace Go.Proofs.YtfagldjhibdfhaaGreatDoor
open Go.RowKit Go.Shelf
attribute [local go_sem] Oper.semAt_some
set_option linter.unusedVariables false
set_option linter.unusedSimpArgs false

theorem World.grownBy.refl_ext {a b : World} (h : Ext a b) : a.grownBy b none := ⟨h.os, h.tape, h.output, h.size, fun k hk _ => h.block k hk⟩
def KpF (F : Nat → Prop) (W W' : World) : Prop := W.heap.size ≤ W'.heap.size ∧ ∀ k, F k → W'.heap[k]? = W.heap[k]?
theorem KpF.trans {F : Nat → Prop} {A B C : World} (h : KpF F A B) (k : KpF F B C) : KpF F A C := ⟨Nat.le_trans h.1 k.1, fun i hi => (k.2 i hi).trans (h.2 i hi)⟩
theorem KpF.put {F : Nat → Prop} (W : World) (l : Nat) (o : Obj) (h : ¬ F l) : KpF F W (W.putObj l o) := ⟨by simp [World.putObj], fun k hk => World.putObj_heap_other (fun e => h (e ▸ hk))⟩
def itemsL (H : Hp) (t : Vl) (n : Nat) : List (Int × Vl) := (List.range n).map fun j : Nat => ((j : Int) + 1, getV H t (iK ((j : Int) + 1)))
def encI (x : Int × Vl) : Array Value := #[.int .i64 x.1, x.2.v]
def RIt (items pre : List (Int × Vl)) (x : Int × Vl) : Prop := ∃ tail, items = pre ++ x :: tail
theorem itemsL_len (H : Hp) (t : Vl) (n : Nat) : (itemsL H t n).length = n := by simp [itemsL]
theorem itemsL_at (H : Hp) (t : Vl) (n k : Nat) (h : k < n) : (itemsL H t n)[k]? = some ((k : Int) + 1, getV H t (iK ((k : Int) + 1))) := by simp [itemsL, h]
theorem itemsL_step (H : Hp) (t : Vl) (n k : Nat) (h : k < n) : RIt (itemsL H t n) ((itemsL H t n).take k) ((k : Int) + 1, getV H t (iK ((k : Int) + 1))) ∧ (itemsL H t n).take (k + 1) = (itemsL H t n).take k ++ [((k : Int) + 1, getV H t (iK ((k : Int) + 1)))] := by
 obtain ⟨hl, he⟩ := List.getElem?_eq_some_iff.1 (itemsL_at H t n k h)
 refine ⟨⟨(itemsL H t n).drop (k + 1), ?_⟩, ?_⟩
 ·conv => lhs; rw [← List.take_append_drop k (itemsL H t n), List.drop_eq_getElem_cons hl, he]
 ·rw [List.take_add_one, itemsL_at H t n k h]; rfl
theorem items_in (n : Nat) (g : Nat) (x : Vl) (w : World) :
  CallsIn Fence.wide n Tryz.prog 102 #[.pointer (some ⟨g, 0, none⟩), x.v] w fun e w' => e = .returned (.func (.func 140) #[] #[.pointer (some ⟨w.heap.size, 0, none⟩), .pointer (some ⟨w.heap.size + 1, 0, none⟩)]) ∧ (w.alloc (.cells #[.pointer (some ⟨g, 0, none⟩)] 22)).alloc (.cells #[.int .i64 x.k, .int .i64 x.n, .string x.s] 26) = w' := by
 have hmf : ∀ (fn : Fn) (first cap : Array Value) (w : World), (Instr.makeFunc fn first cap).run Tryz.prog w = .ok (.func fn first cap) w := fun _ _ _ _ => rfl
 refine callsIn_of_wp Tryz.func102 rfl trivial ?_ rfl
 simp only [Tryz.ntmps102, List.size_toArray, List.length_cons, List.length_nil, Nat.reduceAdd, Nat.reduceSub, Array.replicate_succ, Array.replicate_zero, List.push_toArray, List.append_toArray, List.nil_append, List.cons_append]
 gi_wp2
 go_ret
 exact ⟨rfl, rfl⟩
set_option maxRecDepth 100000 in
set_option maxHeartbeats 2000000 in
theorem items_seq (n : Nat) (hn : 1 ≤ n) (g : Nat) (tv : Value) (rs : List (Nat × Nat)) (H : Hp) (t : Vl) (nn : Nat) (hlv : lenV H t = nn) (hof : ofW H t = sNone) (hlen : H.tabs.length ≤ 9223372036854775807) (hnn : nn ≤ 65536) (w : World) (h : HeapIn w g tv rs H)
  (bh bt : Nat) (F : Nat → Prop) (kbh : Blk w bh 22 #[.pointer (some ⟨g, 0, none⟩)]) (kbt : Blk w bt 26 #[.int .i64 t.k, .int .i64 t.n, .string t.s]) (h1 : F bh) (h2 : F bt) (h3 : ∀ x, Foot g tv rs x → F x) :
  SeqP Fence.wide n Tryz.prog 140 #[.pointer (some ⟨bh, 0, none⟩), .pointer (some ⟨bt, 0, none⟩)] encI (KpF F) (RIt (itemsL H t nn)) (fun xs => xs = itemsL H t nn) w := fun q J Jp W hW hJ hY hj0 => by
 have hmx : Tryz.prog.follows .mixedOrders = true := by kernel_rfl
 have hEW : Ext w W := hW
 have HH0 := Lib.hid (h.ext hEW)
 have HB0 := Lib.hid (And.intro (kbh.ext hEW) (kbt.ext hEW))
 have cL := Lib.hid (len_any g tv rs H t W HH0.out hlen)
 rw [hlv, (lenV_tab hof).2] at cL
 have hq : sNone.toList = [] := sNone_list
 obtain ⟨tk, tn, ts⟩ := t
 have c0 := HB0.out.1.cell 0
 have d0 := HB0.out.2.cell 0
 have d1 := HB0.out.2.cell 1
 have d2 := HB0.out.2.cell 2
 simp only [List.getElem?_toArray, List.getElem?_cons_zero, List.getElem?_cons_succ] at c0 d0 d1 d2
 have HHV := Lib.hid hlv
 clear h kbh kbt hEW hlv
 refine callsIn_of_wp Tryz.func140 rfl trivial ?_ rfl
 simp only [Tryz.ntmps140, List.size_toArray, List.length_cons, List.length_nil, Nat.reduceAdd, Nat.reduceSub, Array.replicate_succ, Array.replicate_zero, List.push_toArray, List.append_toArray, List.nil_append, List.cons_append]
 gi_wp2
 refine ⟨trivial, (callsIn_wide.2 cL.out).mono ?_⟩
 rintro e w1 ⟨rfl, e1⟩
 have E1 := Lib.hid e1
 clear e1 cL c0 d0 d1 d2
 gi_wp2
 refine ⟨trivial, (callsIn_wide.2 (must_yes _ _)).mono ?_⟩
 rintro e w2 ⟨rfl, rfl⟩
 gi_wp2
 gi_loopw [6] (fun v6 wr => ∃ (k : Nat) (pre : List (Int × Vl)), v6 = .int .i64 ((k : Int) + 1) ∧ k ≤ nn ∧ Hid (pre = (itemsL H ⟨tk, tn, ts⟩ nn).take k) ∧ Hid (J pre wr) ∧ Hid (HeapIn wr g tv rs H) ∧ Hid (Blk wr bh 22 #[.pointer (some ⟨g, 0, none⟩)] ∧ Blk wr bt 26 #[.int .i64 tk, .int .i64 tn, .string ts])) (fun v6 _ => nn + 1 - (intOf v6).toNat)
 case atStart => exact ⟨0, [], rfl, Nat.zero_le _, Lib.hid rfl, Lib.hid (hJ _ _ _ none hj0 (World.grownBy.refl_ext E1.out) (fun r e => by cases e)), Lib.hid (HH0.out.ext E1.out), Lib.hid ⟨HB0.out.1.ext E1.out, HB0.out.2.ext E1.out⟩⟩
 case round =>
  obtain ⟨k, pre, rfl, hk, HP, HJ, HH, HB⟩ := hrel
  have c0 := HB.out.1.cell 0
  have d0 := HB.out.2.cell 0
  have d1 := HB.out.2.cell 1
  have d2 := HB.out.2.cell 2
  simp only [List.getElem?_toArray, List.getElem?_cons_zero, List.getElem?_cons_succ] at c0 d0 d1 d2
  have hbh := HB.out.1.lt
  have hbt := HB.out.2.lt
  by_cases hlt : k < nn
  ·have hd : decide ((k : Int) + 1 ≤ (nn : Int)) = true := decide_eq_true (by omega)
   obtain ⟨hR0, hnx⟩ := itemsL_step H ⟨tk, tn, ts⟩ nn k hlt
   rw [← HP.out] at hR0 hnx
   have hG := Lib.hid (fun (Z : World) (hZ : HeapIn Z g tv rs H) => get_any g tv rs H ⟨tk, tn, ts⟩ (iK ((k : Int) + 1)) Z hZ hlen ⟨by show (-9223372036854775808 : Int) ≤ (k : Int) + 1; omega, by show (k : Int) + 1 ≤ 9223372036854775807; omega⟩)
   rw [getW_int hof] at hG
   obtain ⟨gv, hgv⟩ : ∃ gv, getV H ⟨tk, tn, ts⟩ (iK ((k : Int) + 1)) = gv := ⟨_, rfl⟩
   rw [hgv] at hG hR0 hnx
   obtain ⟨gk, gn, gs⟩ := gv
   have HR := Lib.hid hR0
   have HNX := Lib.hid hnx
   have hwr : IntKind.i64.wrap ((k : Int) + 1) = (k : Int) + 1 := IntWalk.i64_in _ (by omega)
   clear hgv hR0 hnx
   gi_wp2
   refine wpIn_region_any (by assumption) ?_
   try (change wpAnyIn _ _ _ _ _ _ _ _ _ (World.drew _))
   refine wpAnyIn_take (i := 0) (v := ?_) rfl rfl (by kernel_rfl) (by kernel_rfl) (by kernel_rfl) (fun _ _ _ h => h) ⟨Or.inl ⟨by rfl, (by intro w; go_simp; first | done | with_reducible rfl)⟩, fun _ => rfl⟩ ?_
   refine wpAnyIn_take (i := 1) (v := ?_) rfl rfl (by kernel_rfl) (by kernel_rfl) (by kernel_rfl) (fun _ _ _ h => h) ⟨Or.inl ⟨by rfl, (by intro w; go_simp; first | done | with_reducible rfl)⟩, fun _ => rfl⟩ ?_
   refine wpAnyIn_take (i := 4) (v := ?_) rfl rfl (by kernel_rfl) (by kernel_rfl) (by kernel_rfl) (fun _ _ _ h => h) ⟨Or.inl ⟨by rfl, (by intro w; go_simp; first | done | with_reducible rfl)⟩, fun _ => rfl⟩ ?_
   refine wpAnyIn_ready (rs := [2, 3, 5]) (by kernel_rfl) (by simp) ?_
   refine AllReadyIn.cons rfl (fun K hK => ?_) ?_
   ·go_simp
    refine hK _ _ ?_
    clear hK K
    refine wpAnyIn_ready (rs := [3, 5]) (by kernel_rfl) (by simp) ?_
    refine AllReadyIn.cons rfl (fun K hK => ?_) ?_
    ·go_simp
     refine hK _ _ ?_
     clear hK K
     refine wpAnyIn_ready (rs := [5]) (by kernel_rfl) (by simp) ?_
     refine AllReadyIn.cons rfl (fun K hK => ?_) ?_
     ·go_simp
      refine ⟨trivial, (callsIn_wide.2 (int_any _ _)).mono ?_⟩
      rintro e w3 ⟨rfl, e3⟩
      have E3 := Lib.hid (show Ext wr w3 from Ext.trans (by repeat (first | exact Ext.refl _ | refine Ext.drew ?_)) e3)
      have x0 := (E3.out.cells.1 _ _ hbh).trans c0
      have y0 := (E3.out.cells.1 _ _ hbt).trans d0
      have y1 := (E3.out.cells.1 _ _ hbt).trans d1
      have y2 := (E3.out.cells.1 _ _ hbt).trans d2
      clear e3
      refine hK _ _ ?_
      clear hK K
      refine wpAnyIn_ready (rs := [6]) (by kernel_rfl) (by simp) ?_
      refine AllReadyIn.cons rfl (fun K hK => ?_) ?_
      ·go_simp
       refine ⟨trivial, (callsIn_wide.2 (hG.out _ (HH.out.ext E3.out))).mono ?_⟩
       rintro e w4 ⟨rfl, e4⟩
       have E4 := Lib.hid (E3.out.trans e4)
       clear e4
       refine hK _ _ ?_
       clear hK K
       refine wpAnyIn_take (i := 7) (v := ?_) rfl rfl (by kernel_rfl) (by kernel_rfl) (by kernel_rfl) (fun _ _ _ h => h) ⟨Or.inl ⟨by rfl, (by intro w; go_simp; first | done | with_reducible rfl)⟩, fun _ => rfl⟩ ?_
       refine wpAnyIn_take (i := 8) (v := ?_) rfl rfl (by kernel_rfl) (by kernel_rfl) (by kernel_rfl) (fun _ _ _ h => h) ⟨Or.inl ⟨by rfl, (by intro w; go_simp; first | done | with_reducible rfl)⟩, fun _ => rfl⟩ ?_
       refine wpAnyIn_ready (rs := [9]) (by kernel_rfl) (by simp) ?_
       refine AllReadyIn.cons rfl (fun K hK => ?_) ?_
       ·go_simp
        refine ⟨trivial, (callsIn_wide.2 (got_yes ⟨gk, gn, gs⟩ _)).mono ?_⟩
        rintro e w5 ⟨rfl, e5⟩
        have E5 := Lib.hid (E4.out.trans e5)
        clear e5
        have hJ5 := hJ _ _ _ none HJ.out (World.grownBy.refl_ext E5.out) (fun r e => by cases e)
        have hy0 : YieldAt Fence.wide (n - 1) Tryz.prog q #[.int .i64 ((k : Int) + 1), .agg #[.int .i64 gk, .int .i64 gn, .string gs]] w5 _ := hY pre ((k : Int) + 1, ⟨gk, gn, gs⟩) _ hJ5 HR.out
        obtain ⟨fn, tmps, assign, body, hy, hR⟩ := hy0
        refine hK _ _ ?_
        clear hK K
        refine wpAnyIn_ready (rs := [10]) (by kernel_rfl) (by simp) ?_
        refine AllReadyIn.cons rfl (fun K hK => ?_) ?_
        ·go_simp
         refine hR.mono ?_
         rintro e W3 (⟨rfl, hJ3, hk3⟩ | ⟨ch, rfl, hp3⟩)
         ·refine hK _ _ ?_
          clear hK K
          refine wpAnyIn_take (i := 11) (v := ?_) rfl rfl (by kernel_rfl) (by kernel_rfl) (by kernel_rfl) (fun _ _ _ h => h) ⟨Or.inl ⟨by rfl, (by intro w; go_simp; first | done | with_reducible rfl)⟩, fun _ => rfl⟩ ?_
          refine wpAnyIn_done (by kernel_rfl) ?_ _
          have HJ3 := Lib.hid hJ3
          have HH3 : Hid (HeapIn W3 g tv rs H) := Lib.hid ((HH.out.ext E5.out).of_heap fun z hz => hk3.2 z (h3 z hz))
          have HB3 := Lib.hid (And.intro (show Blk W3 bh 22 #[.pointer (some ⟨g, 0, none⟩)] from (hk3.2 bh h1).trans (HB.out.1.ext E5.out)) (show Blk W3 bt 26 #[.int .i64 tk, .int .i64 tn, .string ts] from (hk3.2 bt h2).trans (HB.out.2.ext E5.out)))
          clear hJ3 hk3 hJ5 hy c0 d0 d1 d2
          gi_wp2
          go_roundw
          case rel => exact ⟨k + 1, _, by go_num, by omega, Lib.hid HNX.out.symm, HJ3, HH3, HB3⟩
          case measure => simp [intOf]; omega
         ·exact ⟨rfl, .inr ⟨ch, rfl, hp3⟩⟩
        ·skip
         exact AllReadyIn.nil
       ·skip
        exact AllReadyIn.nil
      ·skip
       exact AllReadyIn.nil
     ·skip
      exact AllReadyIn.nil
    ·skip
     refine AllReadyIn.cons rfl (fun K hK => ?_) ?_
     ·go_simp
      refine ⟨trivial, (callsIn_wide.2 (int_any _ _)).mono ?_⟩
      rintro e w3 ⟨rfl, e3⟩
      have E3 := Lib.hid (show Ext wr w3 from Ext.trans (by repeat (first | exact Ext.refl _ | refine Ext.drew ?_)) e3)
      have x0 := (E3.out.cells.1 _ _ hbh).trans c0
      have y0 := (E3.out.cells.1 _ _ hbt).trans d0
      have y1 := (E3.out.cells.1 _ _ hbt).trans d1
      have y2 := (E3.out.cells.1 _ _ hbt).trans d2
      clear e3
      refine hK _ _ ?_
      clear hK K
      refine wpAnyIn_ready (rs := [3]) (by kernel_rfl) (by simp) ?_
      refine AllReadyIn.cons rfl (fun K hK => ?_) ?_
      ·go_simp
       refine hK _ _ ?_
       clear hK K
       refine wpAnyIn_ready (rs := [6]) (by kernel_rfl) (by simp) ?_
       refine AllReadyIn.cons rfl (fun K hK => ?_) ?_
       ·go_simp
        refine ⟨trivial, (callsIn_wide.2 (hG.out _ (HH.out.ext E3.out))).mono ?_⟩
        rintro e w4 ⟨rfl, e4⟩
        have E4 := Lib.hid (E3.out.trans e4)
        clear e4
        refine hK _ _ ?_
        clear hK K
        refine wpAnyIn_take (i := 7) (v := ?_) rfl rfl (by kernel_rfl) (by kernel_rfl) (by kernel_rfl) (fun _ _ _ h => h) ⟨Or.inl ⟨by rfl, (by intro w; go_simp; first | done | with_reducible rfl)⟩, fun _ => rfl⟩ ?_
        refine wpAnyIn_take (i := 8) (v := ?_) rfl rfl (by kernel_rfl) (by kernel_rfl) (by kernel_rfl) (fun _ _ _ h => h) ⟨Or.inl ⟨by rfl, (by intro w; go_simp; first | done | with_reducible rfl)⟩, fun _ => rfl⟩ ?_
        refine wpAnyIn_ready (rs := [9]) (by kernel_rfl) (by simp) ?_
        refine AllReadyIn.cons rfl (fun K hK => ?_) ?_
        ·go_simp
         refine ⟨trivial, (callsIn_wide.2 (got_yes ⟨gk, gn, gs⟩ _)).mono ?_⟩
         rintro e w5 ⟨rfl, e5⟩
         have E5 := Lib.hid (E4.out.trans e5)
         clear e5
         have hJ5 := hJ _ _ _ none HJ.out (World.grownBy.refl_ext E5.out) (fun r e => by cases e)
         have hy0 : YieldAt Fence.wide (n - 1) Tryz.prog q #[.int .i64 ((k : Int) + 1), .agg #[.int .i64 gk, .int .i64 gn, .string gs]] w5 _ := hY pre ((k : Int) + 1, ⟨gk, gn, gs⟩) _ hJ5 HR.out
         obtain ⟨fn, tmps, assign, body, hy, hR⟩ := hy0
         refine hK _ _ ?_
         clear hK K
         refine wpAnyIn_ready (rs := [10]) (by kernel_rfl) (by simp) ?_
         refine AllReadyIn.cons rfl (fun K hK => ?_) ?_
         ·go_simp
          refine hR.mono ?_
          rintro e W3 (⟨rfl, hJ3, hk3⟩ | ⟨ch, rfl, hp3⟩)
          ·refine hK _ _ ?_
           clear hK K
           refine wpAnyIn_take (i := 11) (v := ?_) rfl rfl (by kernel_rfl) (by kernel_rfl) (by kernel_rfl) (fun _ _ _ h => h) ⟨Or.inl ⟨by rfl, (by intro w; go_simp; first | done | with_reducible rfl)⟩, fun _ => rfl⟩ ?_
           refine wpAnyIn_done (by kernel_rfl) ?_ _
           have HJ3 := Lib.hid hJ3
           have HH3 : Hid (HeapIn W3 g tv rs H) := Lib.hid ((HH.out.ext E5.out).of_heap fun z hz => hk3.2 z (h3 z hz))
           have HB3 := Lib.hid (And.intro (show Blk W3 bh 22 #[.pointer (some ⟨g, 0, none⟩)] from (hk3.2 bh h1).trans (HB.out.1.ext E5.out)) (show Blk W3 bt 26 #[.int .i64 tk, .int .i64 tn, .string ts] from (hk3.2 bt h2).trans (HB.out.2.ext E5.out)))
           clear hJ3 hk3 hJ5 hy c0 d0 d1 d2
           gi_wp2
           go_roundw
           case rel => exact ⟨k + 1, _, by go_num, by omega, Lib.hid HNX.out.symm, HJ3, HH3, HB3⟩
           case measure => simp [intOf]; omega
          ·exact ⟨rfl, .inr ⟨ch, rfl, hp3⟩⟩
         ·skip
          exact AllReadyIn.nil
        ·skip
         exact AllReadyIn.nil
       ·skip
        exact AllReadyIn.nil
      ·skip
       exact AllReadyIn.nil
     ·skip
      exact AllReadyIn.nil
   ·skip
    refine AllReadyIn.cons rfl (fun K hK => ?_) ?_
    ·go_simp
     refine hK _ _ ?_
     clear hK K
     refine wpAnyIn_ready (rs := [2, 5]) (by kernel_rfl) (by simp) ?_
     refine AllReadyIn.cons rfl (fun K hK => ?_) ?_
     ·go_simp
      refine hK _ _ ?_
      clear hK K
      refine wpAnyIn_ready (rs := [5]) (by kernel_rfl) (by simp) ?_
      refine AllReadyIn.cons rfl (fun K hK => ?_) ?_
      ·go_simp
       refine ⟨trivial, (callsIn_wide.2 (int_any _ _)).mono ?_⟩
       rintro e w3 ⟨rfl, e3⟩
       have E3 := Lib.hid (show Ext wr w3 from Ext.trans (by repeat (first | exact Ext.refl _ | refine Ext.drew ?_)) e3)
       have x0 := (E3.out.cells.1 _ _ hbh).trans c0
       have y0 := (E3.out.cells.1 _ _ hbt).trans d0
       have y1 := (E3.out.cells.1 _ _ hbt).trans d1
       have y2 := (E3.out.cells.1 _ _ hbt).trans d2
       clear e3
       refine hK _ _ ?_
       clear hK K
       refine wpAnyIn_ready (rs := [6]) (by kernel_rfl) (by simp) ?_
       refine AllReadyIn.cons rfl (fun K hK => ?_) ?_
       ·go_simp
        refine ⟨trivial, (callsIn_wide.2 (hG.out _ (HH.out.ext E3.out))).mono ?_⟩
        rintro e w4 ⟨rfl, e4⟩
        have E4 := Lib.hid (E3.out.trans e4)
        clear e4
        refine hK _ _ ?_
        clear hK K
        refine wpAnyIn_take (i := 7) (v := ?_) rfl rfl (by kernel_rfl) (by kernel_rfl) (by kernel_rfl) (fun _ _ _ h => h) ⟨Or.inl ⟨by rfl, (by intro w; go_simp; first | done | with_reducible rfl)⟩, fun _ => rfl⟩ ?_
        refine wpAnyIn_take (i := 8) (v := ?_) rfl rfl (by kernel_rfl) (by kernel_rfl) (by kernel_rfl) (fun _ _ _ h => h) ⟨Or.inl ⟨by rfl, (by intro w; go_simp; first | done | with_reducible rfl)⟩, fun _ => rfl⟩ ?_
        refine wpAnyIn_ready (rs := [9]) (by kernel_rfl) (by simp) ?_
        refine AllReadyIn.cons rfl (fun K hK => ?_) ?_
        ·go_simp
         refine ⟨trivial, (callsIn_wide.2 (got_yes ⟨gk, gn, gs⟩ _)).mono ?_⟩
         rintro e w5 ⟨rfl, e5⟩
         have E5 := Lib.hid (E4.out.trans e5)
         clear e5
         have hJ5 := hJ _ _ _ none HJ.out (World.grownBy.refl_ext E5.out) (fun r e => by cases e)
         have hy0 : YieldAt Fence.wide (n - 1) Tryz.prog q #[.int .i64 ((k : Int) + 1), .agg #[.int .i64 gk, .int .i64 gn, .string gs]] w5 _ := hY pre ((k : Int) + 1, ⟨gk, gn, gs⟩) _ hJ5 HR.out
         obtain ⟨fn, tmps, assign, body, hy, hR⟩ := hy0
         refine hK _ _ ?_
         clear hK K
         refine wpAnyIn_ready (rs := [10]) (by kernel_rfl) (by simp) ?_
         refine AllReadyIn.cons rfl (fun K hK => ?_) ?_
         ·go_simp
          refine hR.mono ?_
          rintro e W3 (⟨rfl, hJ3, hk3⟩ | ⟨ch, rfl, hp3⟩)
          ·refine hK _ _ ?_
           clear hK K
           refine wpAnyIn_take (i := 11) (v := ?_) rfl rfl (by kernel_rfl) (by kernel_rfl) (by kernel_rfl) (fun _ _ _ h => h) ⟨Or.inl ⟨by rfl, (by intro w; go_simp; first | done | with_reducible rfl)⟩, fun _ => rfl⟩ ?_
           refine wpAnyIn_done (by kernel_rfl) ?_ _
           have HJ3 := Lib.hid hJ3
           have HH3 : Hid (HeapIn W3 g tv rs H) := Lib.hid ((HH.out.ext E5.out).of_heap fun z hz => hk3.2 z (h3 z hz))
           have HB3 := Lib.hid (And.intro (show Blk W3 bh 22 #[.pointer (some ⟨g, 0, none⟩)] from (hk3.2 bh h1).trans (HB.out.1.ext E5.out)) (show Blk W3 bt 26 #[.int .i64 tk, .int .i64 tn, .string ts] from (hk3.2 bt h2).trans (HB.out.2.ext E5.out)))
           clear hJ3 hk3 hJ5 hy c0 d0 d1 d2
           gi_wp2
           go_roundw
           case rel => exact ⟨k + 1, _, by go_num, by omega, Lib.hid HNX.out.symm, HJ3, HH3, HB3⟩
           case measure => simp [intOf]; omega
          ·exact ⟨rfl, .inr ⟨ch, rfl, hp3⟩⟩
         ·skip
          exact AllReadyIn.nil
        ·skip
         exact AllReadyIn.nil
       ·skip
        exact AllReadyIn.nil
      ·skip
       exact AllReadyIn.nil
     ·skip
      refine AllReadyIn.cons rfl (fun K hK => ?_) ?_
      ·go_simp
       refine ⟨trivial, (callsIn_wide.2 (int_any _ _)).mono ?_⟩
       rintro e w3 ⟨rfl, e3⟩
       have E3 := Lib.hid (show Ext wr w3 from Ext.trans (by repeat (first | exact Ext.refl _ | refine Ext.drew ?_)) e3)
       have x0 := (E3.out.cells.1 _ _ hbh).trans c0
       have y0 := (E3.out.cells.1 _ _ hbt).trans d0
       have y1 := (E3.out.cells.1 _ _ hbt).trans d1
       have y2 := (E3.out.cells.1 _ _ hbt).trans d2
       clear e3
       refine hK _ _ ?_
       clear hK K
       refine wpAnyIn_ready (rs := [2]) (by kernel_rfl) (by simp) ?_
       refine AllReadyIn.cons rfl (fun K hK => ?_) ?_
       ·go_simp
        refine hK _ _ ?_
        clear hK K
        refine wpAnyIn_ready (rs := [6]) (by kernel_rfl) (by simp) ?_
        refine AllReadyIn.cons rfl (fun K hK => ?_) ?_
        ·go_simp
         refine ⟨trivial, (callsIn_wide.2 (hG.out _ (HH.out.ext E3.out))).mono ?_⟩
         rintro e w4 ⟨rfl, e4⟩
         have E4 := Lib.hid (E3.out.trans e4)
         clear e4
         refine hK _ _ ?_
         clear hK K
         refine wpAnyIn_take (i := 7) (v := ?_) rfl rfl (by kernel_rfl) (by kernel_rfl) (by kernel_rfl) (fun _ _ _ h => h) ⟨Or.inl ⟨by rfl, (by intro w; go_simp; first | done | with_reducible rfl)⟩, fun _ => rfl⟩ ?_
         refine wpAnyIn_take (i := 8) (v := ?_) rfl rfl (by kernel_rfl) (by kernel_rfl) (by kernel_rfl) (fun _ _ _ h => h) ⟨Or.inl ⟨by rfl, (by intro w; go_simp; first | done | with_reducible rfl)⟩, fun _ => rfl⟩ ?_
         refine wpAnyIn_ready (rs := [9]) (by kernel_rfl) (by simp) ?_
         refine AllReadyIn.cons rfl (fun K hK => ?_) ?_
         ·go_simp
          refine ⟨trivial, (callsIn_wide.2 (got_yes ⟨gk, gn, gs⟩ _)).mono ?_⟩
          rintro e w5 ⟨rfl, e5⟩
          have E5 := Lib.hid (E4.out.trans e5)
          clear e5
          have hJ5 := hJ _ _ _ none HJ.out (World.grownBy.refl_ext E5.out) (fun r e => by cases e)
          have hy0 : YieldAt Fence.wide (n - 1) Tryz.prog q #[.int .i64 ((k : Int) + 1), .agg #[.int .i64 gk, .int .i64 gn, .string gs]] w5 _ := hY pre ((k : Int) + 1, ⟨gk, gn, gs⟩) _ hJ5 HR.out
          obtain ⟨fn, tmps, assign, body, hy, hR⟩ := hy0
          refine hK _ _ ?_
          clear hK K
          refine wpAnyIn_ready (rs := [10]) (by kernel_rfl) (by simp) ?_
          refine AllReadyIn.cons rfl (fun K hK => ?_) ?_
          ·go_simp
           refine hR.mono ?_
           rintro e W3 (⟨rfl, hJ3, hk3⟩ | ⟨ch, rfl, hp3⟩)
           ·refine hK _ _ ?_
            clear hK K
            refine wpAnyIn_take (i := 11) (v := ?_) rfl rfl (by kernel_rfl) (by kernel_rfl) (by kernel_rfl) (fun _ _ _ h => h) ⟨Or.inl ⟨by rfl, (by intro w; go_simp; first | done | with_reducible rfl)⟩, fun _ => rfl⟩ ?_
            refine wpAnyIn_done (by kernel_rfl) ?_ _
            have HJ3 := Lib.hid hJ3
            have HH3 : Hid (HeapIn W3 g tv rs H) := Lib.hid ((HH.out.ext E5.out).of_heap fun z hz => hk3.2 z (h3 z hz))
            have HB3 := Lib.hid (And.intro (show Blk W3 bh 22 #[.pointer (some ⟨g, 0, none⟩)] from (hk3.2 bh h1).trans (HB.out.1.ext E5.out)) (show Blk W3 bt 26 #[.int .i64 tk, .int .i64 tn, .string ts] from (hk3.2 bt h2).trans (HB.out.2.ext E5.out)))
            clear hJ3 hk3 hJ5 hy c0 d0 d1 d2
            gi_wp2
            go_roundw
            case rel => exact ⟨k + 1, _, by go_num, by omega, Lib.hid HNX.out.symm, HJ3, HH3, HB3⟩
            case measure => simp [intOf]; omega
           ·exact ⟨rfl, .inr ⟨ch, rfl, hp3⟩⟩
          ·skip
           exact AllReadyIn.nil
         ·skip
          exact AllReadyIn.nil
        ·skip
         exact AllReadyIn.nil
       ·skip
        exact AllReadyIn.nil
      ·skip
       exact AllReadyIn.nil
    ·skip
     refine AllReadyIn.cons rfl (fun K hK => ?_) ?_
     ·go_simp
      refine ⟨trivial, (callsIn_wide.2 (int_any _ _)).mono ?_⟩
      rintro e w3 ⟨rfl, e3⟩
      have E3 := Lib.hid (show Ext wr w3 from Ext.trans (by repeat (first | exact Ext.refl _ | refine Ext.drew ?_)) e3)
      have x0 := (E3.out.cells.1 _ _ hbh).trans c0
      have y0 := (E3.out.cells.1 _ _ hbt).trans d0
      have y1 := (E3.out.cells.1 _ _ hbt).trans d1
      have y2 := (E3.out.cells.1 _ _ hbt).trans d2
      clear e3
      refine hK _ _ ?_
      clear hK K
      refine wpAnyIn_ready (rs := [2, 3]) (by kernel_rfl) (by simp) ?_
      refine AllReadyIn.cons rfl (fun K hK => ?_) ?_
      ·go_simp
       refine hK _ _ ?_
       clear hK K
       refine wpAnyIn_ready (rs := [3]) (by kernel_rfl) (by simp) ?_
       refine AllReadyIn.cons rfl (fun K hK => ?_) ?_
       ·go_simp
        refine hK _ _ ?_
        clear hK K
        refine wpAnyIn_ready (rs := [6]) (by kernel_rfl) (by simp) ?_
        refine AllReadyIn.cons rfl (fun K hK => ?_) ?_
        ·go_simp
         refine ⟨trivial, (callsIn_wide.2 (hG.out _ (HH.out.ext E3.out))).mono ?_⟩
         rintro e w4 ⟨rfl, e4⟩
         have E4 := Lib.hid (E3.out.trans e4)
         clear e4
         refine hK _ _ ?_
         clear hK K
         refine wpAnyIn_take (i := 7) (v := ?_) rfl rfl (by kernel_rfl) (by kernel_rfl) (by kernel_rfl) (fun _ _ _ h => h) ⟨Or.inl ⟨by rfl, (by intro w; go_simp; first | done | with_reducible rfl)⟩, fun _ => rfl⟩ ?_
         refine wpAnyIn_take (i := 8) (v := ?_) rfl rfl (by kernel_rfl) (by kernel_rfl) (by kernel_rfl) (fun _ _ _ h => h) ⟨Or.inl ⟨by rfl, (by intro w; go_simp; first | done | with_reducible rfl)⟩, fun _ => rfl⟩ ?_
         refine wpAnyIn_ready (rs := [9]) (by kernel_rfl) (by simp) ?_
         refine AllReadyIn.cons rfl (fun K hK => ?_) ?_
         ·go_simp
          refine ⟨trivial, (callsIn_wide.2 (got_yes ⟨gk, gn, gs⟩ _)).mono ?_⟩
          rintro e w5 ⟨rfl, e5⟩
          have E5 := Lib.hid (E4.out.trans e5)
          clear e5
          have hJ5 := hJ _ _ _ none HJ.out (World.grownBy.refl_ext E5.out) (fun r e => by cases e)
          have hy0 : YieldAt Fence.wide (n - 1) Tryz.prog q #[.int .i64 ((k : Int) + 1), .agg #[.int .i64 gk, .int .i64 gn, .string gs]] w5 _ := hY pre ((k : Int) + 1, ⟨gk, gn, gs⟩) _ hJ5 HR.out
          obtain ⟨fn, tmps, assign, body, hy, hR⟩ := hy0
          refine hK _ _ ?_
          clear hK K
          refine wpAnyIn_ready (rs := [10]) (by kernel_rfl) (by simp) ?_
          refine AllReadyIn.cons rfl (fun K hK => ?_) ?_
          ·go_simp
           refine hR.mono ?_
           rintro e W3 (⟨rfl, hJ3, hk3⟩ | ⟨ch, rfl, hp3⟩)
           ·refine hK _ _ ?_
            clear hK K
            refine wpAnyIn_take (i := 11) (v := ?_) rfl rfl (by kernel_rfl) (by kernel_rfl) (by kernel_rfl) (fun _ _ _ h => h) ⟨Or.inl ⟨by rfl, (by intro w; go_simp; first | done | with_reducible rfl)⟩, fun _ => rfl⟩ ?_
            refine wpAnyIn_done (by kernel_rfl) ?_ _
            have HJ3 := Lib.hid hJ3
            have HH3 : Hid (HeapIn W3 g tv rs H) := Lib.hid ((HH.out.ext E5.out).of_heap fun z hz => hk3.2 z (h3 z hz))
            have HB3 := Lib.hid (And.intro (show Blk W3 bh 22 #[.pointer (some ⟨g, 0, none⟩)] from (hk3.2 bh h1).trans (HB.out.1.ext E5.out)) (show Blk W3 bt 26 #[.int .i64 tk, .int .i64 tn, .string ts] from (hk3.2 bt h2).trans (HB.out.2.ext E5.out)))
            clear hJ3 hk3 hJ5 hy c0 d0 d1 d2
            gi_wp2
            go_roundw
            case rel => exact ⟨k + 1, _, by go_num, by omega, Lib.hid HNX.out.symm, HJ3, HH3, HB3⟩
            case measure => simp [intOf]; omega
           ·exact ⟨rfl, .inr ⟨ch, rfl, hp3⟩⟩
          ·skip
           exact AllReadyIn.nil
         ·skip
          exact AllReadyIn.nil
        ·skip
         exact AllReadyIn.nil
       ·skip
        exact AllReadyIn.nil
      ·skip
       refine AllReadyIn.cons rfl (fun K hK => ?_) ?_
       ·go_simp
        refine hK _ _ ?_
        clear hK K
        refine wpAnyIn_ready (rs := [2]) (by kernel_rfl) (by simp) ?_
        refine AllReadyIn.cons rfl (fun K hK => ?_) ?_
        ·go_simp
         refine hK _ _ ?_
         clear hK K
         refine wpAnyIn_ready (rs := [6]) (by kernel_rfl) (by simp) ?_
         refine AllReadyIn.cons rfl (fun K hK => ?_) ?_
         ·go_simp
          refine ⟨trivial, (callsIn_wide.2 (hG.out _ (HH.out.ext E3.out))).mono ?_⟩
          rintro e w4 ⟨rfl, e4⟩
          have E4 := Lib.hid (E3.out.trans e4)
          clear e4
          refine hK _ _ ?_
          clear hK K
          refine wpAnyIn_take (i := 7) (v := ?_) rfl rfl (by kernel_rfl) (by kernel_rfl) (by kernel_rfl) (fun _ _ _ h => h) ⟨Or.inl ⟨by rfl, (by intro w; go_simp; first | done | with_reducible rfl)⟩, fun _ => rfl⟩ ?_
          refine wpAnyIn_take (i := 8) (v := ?_) rfl rfl (by kernel_rfl) (by kernel_rfl) (by kernel_rfl) (fun _ _ _ h => h) ⟨Or.inl ⟨by rfl, (by intro w; go_simp; first | done | with_reducible rfl)⟩, fun _ => rfl⟩ ?_
          refine wpAnyIn_ready (rs := [9]) (by kernel_rfl) (by simp) ?_
          refine AllReadyIn.cons rfl (fun K hK => ?_) ?_
          ·go_simp
           refine ⟨trivial, (callsIn_wide.2 (got_yes ⟨gk, gn, gs⟩ _)).mono ?_⟩
           rintro e w5 ⟨rfl, e5⟩
           have E5 := Lib.hid (E4.out.trans e5)
           clear e5
           have hJ5 := hJ _ _ _ none HJ.out (World.grownBy.refl_ext E5.out) (fun r e => by cases e)
           have hy0 : YieldAt Fence.wide (n - 1) Tryz.prog q #[.int .i64 ((k : Int) + 1), .agg #[.int .i64 gk, .int .i64 gn, .string gs]] w5 _ := hY pre ((k : Int) + 1, ⟨gk, gn, gs⟩) _ hJ5 HR.out
           obtain ⟨fn, tmps, assign, body, hy, hR⟩ := hy0
           refine hK _ _ ?_
           clear hK K
           refine wpAnyIn_ready (rs := [10]) (by kernel_rfl) (by simp) ?_
           refine AllReadyIn.cons rfl (fun K hK => ?_) ?_
           ·go_simp
            refine hR.mono ?_
            rintro e W3 (⟨rfl, hJ3, hk3⟩ | ⟨ch, rfl, hp3⟩)
            ·refine hK _ _ ?_
             clear hK K
             refine wpAnyIn_take (i := 11) (v := ?_) rfl rfl (by kernel_rfl) (by kernel_rfl) (by kernel_rfl) (fun _ _ _ h => h) ⟨Or.inl ⟨by rfl, (by intro w; go_simp; first | done | with_reducible rfl)⟩, fun _ => rfl⟩ ?_
             refine wpAnyIn_done (by kernel_rfl) ?_ _
             have HJ3 := Lib.hid hJ3
             have HH3 : Hid (HeapIn W3 g tv rs H) := Lib.hid ((HH.out.ext E5.out).of_heap fun z hz => hk3.2 z (h3 z hz))
             have HB3 := Lib.hid (And.intro (show Blk W3 bh 22 #[.pointer (some ⟨g, 0, none⟩)] from (hk3.2 bh h1).trans (HB.out.1.ext E5.out)) (show Blk W3 bt 26 #[.int .i64 tk, .int .i64 tn, .string ts] from (hk3.2 bt h2).trans (HB.out.2.ext E5.out)))
             clear hJ3 hk3 hJ5 hy c0 d0 d1 d2
             gi_wp2
             go_roundw
             case rel => exact ⟨k + 1, _, by go_num, by omega, Lib.hid HNX.out.symm, HJ3, HH3, HB3⟩
             case measure => simp [intOf]; omega
            ·exact ⟨rfl, .inr ⟨ch, rfl, hp3⟩⟩
           ·skip
            exact AllReadyIn.nil
          ·skip
           exact AllReadyIn.nil
         ·skip
          exact AllReadyIn.nil
        ·skip
         exact AllReadyIn.nil
       ·skip
        exact AllReadyIn.nil
     ·skip
      exact AllReadyIn.nil
  ·have hd : decide ((k : Int) + 1 ≤ (nn : Int)) = false := decide_eq_false (by omega)
   obtain rfl : k = nn := by omega
   gi_wp2
   go_end0
   exact .inl ⟨_, _, rfl, by rw [HP.out, List.take_of_length_le (by rw [itemsL_len]; exact Nat.le_refl _)], HJ.out⟩
end Go.Proofs.YtfagldjhibdfhaaGreatDoor
namespace Go.Proofs.YtfagldjhibdfhaaGreatDoor
open Go.Shelf Go.RowKit
set_option linter.unusedVariables false
set_option linter.unusedSimpArgs false

theorem sizeBld : (Tryz.prog.info? 137).map (·.size) = some 2 := by kernel_rfl
theorem liesBld : liesAt Tryz.prog Tryz.prog.depth 137 (2 / Tryz.prog.cellsOf 137) 0 137 1 = true := by kernel_rfl
theorem infoByte : (Tryz.prog.info? 5).map (fun i => (i.zero, i.size, i.bytes)) = some (some (.int .u8 0), 1, 1) := by kernel_rfl
set_option maxHeartbeats 1000000 in
set_option maxRecDepth 100000 in
theorem bcheck_used (b : Nat) (w : World) (h0 : w.cell? ⟨b, 0, none⟩ = some (.pointer (some ⟨b, 0, none⟩))) :
  Calls Tryz.prog 134 #[.pointer (some ⟨b, 0, none⟩)] w fun e w' => e = .returned (.tuple #[]) ∧ w' = w := by
 obtain ⟨j, hj, _⟩ := Option.map_eq_some_iff.1 sizeBld
 go_enter Tryz.func134, Tryz.ntmps134
 go_wp2
 rw [Lib.run_neq_ptr_same w _ Tryz.underlying134 hj]
 go_wp2
 go_end0
 exact ⟨rfl, rfl⟩
set_option maxHeartbeats 1000000 in
set_option maxRecDepth 100000 in
theorem bcheck_fresh (b : Nat) (w : World) (h0 : w.cell? ⟨b, 0, none⟩ = some (.pointer none)) (hsh : w.shape? b = some (137, 2)) (hfz : w.frozen? ⟨b, 0, none⟩ = false) :
  Calls Tryz.prog 134 #[.pointer (some ⟨b, 0, none⟩)] w fun e w' => e = .returned (.tuple #[]) ∧ w' = w.setCell ⟨b, 0, none⟩ (.pointer (some ⟨b, 0, none⟩)) := by
 obtain ⟨j, hj, hjs⟩ := Option.map_eq_some_iff.1 sizeBld
 go_enter Tryz.func134, Tryz.ntmps134
 go_wp2
 rw [Lib.run_to_unsafe w ⟨b, 0, none⟩ Tryz.underlying134 Tryz.underlying205 hj (by rw [hjs]; decide) hsh (Nat.zero_lt_succ 1)]
 simp only [Result.andThen]
 rw [Oper.upon_value]
 go_wp2
 rw [run_callFunc_extern Tryz.func173 (by kernel_rfl) (by kernel_rfl) (by kernel_rfl) (e := Extern.AbiNoEscape.same) (by kernel_rfl)]
 rw [Lib.run_noEscape]
 simp only [Result.andThen]
 rw [Oper.upon_value]
 go_wp2
 rw [Lib.run_from_unsafe w ⟨b, 0, none⟩ Tryz.underlying205 Tryz.underlying134 hj hsh liesBld]
 simp only [Result.andThen]
 rw [Oper.upon_value]
 go_wp2
 go_end0
 exact ⟨rfl, rfl⟩
def Keep (w w' : World) : Prop := ∀ i t cs, Blk w i t cs → t ≠ 137 → t ≠ 5 → Blk w' i t cs
theorem Keep.refl (w : World) : Keep w w := fun _ _ _ h _ _ => h
theorem Keep.trans {a b c : World} (h : Keep a b) (k : Keep b c) : Keep a c := fun i t cs x h1 h2 => k i t cs (h i t cs x h1 h2) h1 h2
theorem Keep.ext {a b : World} (h : Ext a b) : Keep a b := fun i t cs x _ _ => x.ext h
theorem Keep.put {a b : World} {g : Nat} {cs : Array Value} {t : TypeId} (h : Keep a b) (hg : b.heap[g]? = some (.cells cs t (0, 0))) (ht : t = 137 ∨ t = 5) (p : Addr) (hp : p.block = g) (u : Value) : Keep a (b.setCell p u) := fun i t' cs' x h1 h2 => by
 have hx := h i t' cs' x h1 h2
 refine hx.far ?_ u
 rintro rfl
 subst hp
 unfold Blk at hx
 rw [hg] at hx
 have e : t = t' := by injection hx with hx; injection hx
 rcases ht with ht | ht
 ·exact h1 (e ▸ ht)
 ·exact h2 (e ▸ ht)
end Go.Proofs.YtfagldjhibdfhaaGreatDoor
namespace Go.Proofs.YtfagldjhibdfhaaGreatDoor
open Go.RowKit
set_option linter.unusedVariables false
set_option linter.unusedSimpArgs false

def KeepO (w w' : World) : Prop := ∀ (i : Nat) (o : Obj), w.heap[i]? = some o → (∀ (cs : Array Value) (t : TypeId), o = Obj.cells cs t (0, 0) → t ≠ 137 ∧ t ≠ 5) → w'.heap[i]? = some o
theorem KeepO.refl (w : World) : KeepO w w := fun _ _ h _ => h
theorem KeepO.put {a b : World} {g : Nat} {cs : Array Value} {t : TypeId} (h : KeepO a b) (hg : b.heap[g]? = some (.cells cs t (0, 0))) (ht : t = 137 ∨ t = 5) (p : Addr) (hp : p.block = g) (u : Value) : KeepO a (b.setCell p u) := fun i o x h1 => by
 have hx := h i o x h1
 refine (Below.heap_setCell b p u i ?_).trans hx
 rintro rfl
 subst hp
 rw [hg] at hx
 have := h1 _ _ (Option.some.inj hx).symm
 rcases ht with ht | ht
 ·exact this.1 ht
 ·exact this.2 ht
theorem KeepO.blk {w w' : World} {i : Nat} {t : TypeId} {cs : Array Value} (h : KeepO w w') (hb : Blk w i t cs) (h1 : t ≠ 137) (h2 : t ≠ 5) : Blk w' i t cs :=
 h i _ hb fun cs' t' e => by injection e with _ e; exact ⟨e ▸ h1, e ▸ h2⟩
theorem KeepO.others {w w' : World} (h : KeepO w w') (hs : w.heap.size ≤ w'.heap.size) (B : Nat) : KeepsFrom B w w' := (show KeepsOthers w w' from ⟨hs, fun i o hi hc => h i o hi fun cs t e => by subst e; cases hc⟩).from _
theorem bcheckO (B b : Nat) (bs : List Value) (w : World) (h : Lib.IsBuilder 137 5 B b bs w) :
  Calls Tryz.prog 134 #[.pointer (some ⟨b, 0, none⟩)] w fun e w' => e = .returned (.tuple #[]) ∧ (Lib.BuilderAt 137 5 B b (.pointer (some ⟨b, 0, none⟩)) bs w' ∧ Below B w w' ∧ KeepO w w') := by
 rcases h with h | h
 ·refine (bcheck_fresh b w h.cell0 h.shape h.frozen0).mono ?_
  rintro e w' ⟨rfl, rfl⟩
  obtain ⟨v, hb⟩ := h.2
  exact ⟨rfl, h.used _, (Below.refl B w).setCell (p := ⟨b, 0, none⟩) h.1 _, (KeepO.refl w).put hb.1 (.inl rfl) _ rfl _⟩
 ·refine (bcheck_used b w h.cell0).mono ?_
  rintro e w' ⟨rfl, rfl⟩
  exact ⟨rfl, h, Below.refl B _, KeepO.refl _⟩
set_option maxHeartbeats 2000000 in
set_option maxRecDepth 100000 in
theorem bwriteO (B b : Nat) (bs : List Value) (s : ByteArray) (w : World) (h : Lib.IsBuilder 137 5 B b bs w) (hlen : bs.length + s.size ≤ 140737488355328) (hBw : B ≤ w.heap.size) :
  Calls Tryz.prog 97 #[.pointer (some ⟨b, 0, none⟩), .string s] w fun e w' => e = .returned (.tuple #[.int .i64 s.size, .nilIface]) ∧ (Lib.BuilderAt 137 5 B b (.pointer (some ⟨b, 0, none⟩)) (bs ++ Lib.strCells s) w' ∧ Below B w w' ∧ KeepO w w') := by
 obtain ⟨i0, hi, hz0, hz1, hz2⟩ := info_parts infoByte
 go_enter Tryz.func97, Tryz.ntmps97
 go_wp2_with (go_at_call 134; refine (bcheckO B b bs _ h).mono ?_)
 rintro e w1 ⟨rfl, h1, hb1, K1⟩
 obtain ⟨hB, v, hbk, hown, hne⟩ := h1
 have c0 : w1.cell? ⟨b, 0, none⟩ = some (.pointer (some ⟨b, 0, none⟩)) := by rw [Lib.cell_of_heap hbk]; rfl
 have c1 : w1.cell? ⟨b, 1, none⟩ = some v := by rw [Lib.cell_of_heap hbk]; rfl
 go_wp2_with (at_builtin; refine Lib.wpList_append_own_string _ rfl _ _ 135 9 rfl B 5 i0 Tryz.underlying135 Tryz.underlying9 hi hz0 hz1 hz2 _ _ _ rfl hown s rfl ?c3 ?c4 ?c5 ?_)
 case c3 => unfold maxLen; omega
 case c4 => omega
 case c5 => have := hb1.size; omega
 intro v' w2 hown' hgrow _
 have K2 : Hid (KeepO w w2) := fun i o x h1 => by
  have hx := K1 i o x h1
  have hil : i < w1.heap.size := (Array.getElem?_eq_some_iff.1 hx).1
  refine (hgrow.block i hil ?_).trans hx
  intro e
  rcases hown.2 with ⟨rfl, _⟩ | ⟨g, cap, cur, rfl, _, hg, _⟩
  ·cases e
  ·cases e
   rw [hg] at hx
   exact (h1 _ _ (Option.some.inj hx).symm).2 rfl
 clear K1
 have hlt : b < w1.heap.size := by
  rcases Nat.lt_or_ge b w1.heap.size with h' | h'
  ·exact h'
  ·simp [Array.getElem?_eq_none h'] at hbk
 have hb2 : w2.heap[b]? = some (.cells #[.pointer (some ⟨b, 0, none⟩), v] 137 (0, 0)) := by
  rw [hgrow.block b hlt (fun e => hne e.symm)]
  exact hbk
 have d0 : w2.cell? ⟨b, 0, none⟩ = some (.pointer (some ⟨b, 0, none⟩)) := by rw [Lib.cell_of_heap hb2]; rfl
 have d1 : w2.cell? ⟨b, 1, none⟩ = some v := by rw [Lib.cell_of_heap hb2]; rfl
 have f1 : w2.frozen? ⟨b, 1, none⟩ = false := Lib.frozen_of_heap hb2 1
 obtain ⟨ao, n', cap, rfl⟩ : ∃ ao n' cap, v' = .slice ao n' cap := by
  rcases hown'.2 with ⟨hv, _⟩ | ⟨g, cap, cur, hv, _⟩
  ·exact ⟨_, _, _, hv⟩
  ·exact ⟨_, _, _, hv⟩
 go_wp2
 go_ret2
 refine ⟨rfl, ?_, ?_, ?_⟩
 ·exact Lib.BuilderAt.put (T := 137) (e := 5) hB hb2 (bs' := bs ++ Lib.strCells s) (by simpa [Lib.strCells_length] using hown') (by decide)
 ·exact (hb1.grown hgrow (by have := hb1.size; omega) (fun k hk => (hown.lt k hk).1)).setCell (p := ⟨b, 1, none⟩) hB _
 ·exact K2.out.put hb2 (.inl rfl) _ rfl _
theorem wpF_block {F : Fence} {n : Nat} {P : Program} {f0 : FuncId} {id : Nat} {c : Code} {Q : Exit → Act → World → Prop} {a : Act} {w : World} (h : wpF f0 F n P c (Exit.inBlock id Q) a w) : wpF f0 F n P (Code.block id c) Q a w := by
 intro b k cs hf hro hb hr
 have h0 : (lone (b.atR a (.code (.block id c) :: k)) cs w).fenced P F := fenced_calm hb hr rfl
 obtain ⟨e, a₁, w₁, hq, harr⟩ := h b (.inBlock id :: k) cs hf hro hb hr
 cases e with
 | normal => exact ⟨.normal, a₁, w₁, hq, .head h0 stepR_block (StepsIn.trans harr (.one (fenced_calm hb hr rfl) stepR_inBlock))⟩
 | exit id' =>
  by_cases hid : id' = id
  ·simp only [Exit.inBlock, hid, if_true] at hq
   exact ⟨.normal, a₁, w₁, hq, .head h0 stepR_block (harr.1 k (by simp [exitTo, hid]))⟩
  ·simp only [Exit.inBlock, hid, if_false] at hq
   have this : (id == id') = false := by simp; exact fun h => hid h.symm
   have hx : exitTo id' (.inBlock id :: k) = exitTo id' k := by simp [exitTo, this]
   exact ⟨.exit id', a₁, w₁, hq, fun k' hk => .head h0 stepR_block (harr.1 k' (by rw [hx]; exact hk)),
    fun hr' hk => let ⟨k₁, h1, h2⟩ := harr.2 hr' (by rw [hx]; exact hk); ⟨k₁, h1, .head h0 stepR_block h2⟩⟩
 | goto l =>
  have hx : gotoIn l (.inBlock id :: k) = gotoIn l k := by simp [gotoIn]
  exact ⟨_, a₁, w₁, hq, fun k' hk => .head h0 stepR_block (harr.1 k' (by rw [hx]; exact hk)),
   fun hr' hk => let ⟨k₁, h1, h2⟩ := harr.2 hr' (by rw [hx]; exact hk); ⟨k₁, h1, .head h0 stepR_block h2⟩⟩
 | ret => exact ⟨_, a₁, w₁, hq, .of_steps (.one h0 stepR_block) harr⟩
 | panic ch => exact ⟨_, a₁, w₁, hq, .of_steps (.one h0 stepR_block) harr⟩
 | outgrown => exact ⟨_, a₁, w₁, hq, .of_steps (.one h0 stepR_block) harr⟩
theorem builder_of {B b : Nat} {bs : List Value} {w w' : World} (h : Lib.IsBuilder 137 5 B b bs w) (he : ∀ (k : Nat) (cs : Array Value) (t : TypeId), w.heap[k]? = some (Obj.cells cs t (0, 0)) → (t = 137 ∨ t = 5) → w'.heap[k]? = w.heap[k]?) : Lib.IsBuilder 137 5 B b bs w' := by
 have one : ∀ p, Lib.BuilderAt 137 5 B b p bs w → Lib.BuilderAt 137 5 B b p bs w' := fun p ⟨hB, v, hb, hown, hne⟩ => by
  refine ⟨hB, v, (he b _ _ hb (.inl rfl)).trans hb, ?_, hne⟩
  obtain ⟨hl, hrow⟩ := hown
  refine ⟨hl, ?_⟩
  rcases hrow with h1 | ⟨g, cap, cur, e1, hg, hc, h2⟩
  ·exact .inl h1
  ·exact .inr ⟨g, cap, cur, e1, hg, (he g _ _ hc (.inr rfl)).trans hc, h2⟩
 exact h.imp (one _) (one _)
end Go.Proofs.YtfagldjhibdfhaaGreatDoor
namespace Go.Proofs.YtfagldjhibdfhaaGreatDoor
open Go.RowKit Go.Shelf
attribute [local go_sem] Oper.semAt_some
set_option linter.unusedVariables false
set_option linter.unusedSimpArgs false

structure CatI (H : Hp) (t : Vl) (sep : List UInt8) (cr : Except ByteArray (List UInt8)) (nn bo bh : Nat) (W4 : World) (pre : List (Int × Vl)) (acc : List UInt8) (W : World) : Prop where
 le : pre.length ≤ nn
 spec : catP H t sep (nn - pre.length) ((pre.length : Int) + 1) acc = cr
 short : acc.length ≤ 1048576
 bld : Lib.IsBuilder 137 5 bo bo (Lib.byteCells acc) W
 low : Below bo W4 W
 hb : W.heap[bh]? = W4.heap[bh]?
 tb : W.heap[bh + 1]? = W4.heap[bh + 1]?
theorem CatI.kept {H : Hp} {t : Vl} {sep : List UInt8} {cr : Except ByteArray (List UInt8)} {nn bo bh : Nat} {W4 W W' : World} {pre : List (Int × Vl)} {acc : List UInt8} (h : CatI H t sep cr nn bo bh W4 pre acc W) (h4 : bo ≤ bh ∧ bh + 1 < W4.heap.size) {row : Option Nat} (hg : W.grownBy W' row) (hr : ∀ r, row = some r → W4.heap.size ≤ r ∧ ∃ o : Obj, W.heap[r]? = some o ∧ o.isCells = false) : CatI H t sep cr nn bo bh W4 pre acc W' := by
 have hsz := h.low.size
 refine ⟨h.le, h.spec, h.short, builder_of h.bld fun k cs ty hk _ => hg.block k (Array.getElem?_eq_some_iff.1 hk).1 (fun e => ?_), h.low.grown hg (by omega) (fun k e => by have := (hr k e).1; omega), (hg.block _ (by omega) (fun e => by have := (hr _ e.symm).1; omega)).trans h.hb, (hg.block _ (by omega) (fun e => by have := (hr _ e.symm).1; omega)).trans h.tb⟩
 obtain ⟨_, o, ho, hc⟩ := hr k e.symm
 rw [hk] at ho
 cases ho
 cases hc
theorem CatI.ext {H : Hp} {t : Vl} {sep : List UInt8} {cr : Except ByteArray (List UInt8)} {nn bo bh : Nat} {W4 W W' : World} {pre : List (Int × Vl)} {acc : List UInt8} (h : CatI H t sep cr nn bo bh W4 pre acc W) (h4 : bo ≤ bh ∧ bh + 1 < W4.heap.size) (he : Ext W W') : CatI H t sep cr nn bo bh W4 pre acc W' :=
 h.kept h4 (World.grownBy.refl_ext he) (fun r e => by cases e)
theorem RIt.item {H : Hp} {t : Vl} {nn : Nat} {pre : List (Int × Vl)} {x : Int × Vl} (h : RIt (itemsL H t nn) pre x) : pre.length < nn ∧ x = ((pre.length : Int) + 1, getV H t (iK ((pre.length : Int) + 1))) := by
 obtain ⟨tail, ht⟩ := h
 have hl := congrArg List.length ht
 rw [itemsL_len, List.length_append, List.length_cons] at hl
 have hlt : pre.length < nn := by omega
 refine ⟨hlt, ?_⟩
 have h1 := itemsL_at H t nn pre.length hlt
 rw [ht, List.getElem?_append_right (Nat.le_refl _), Nat.sub_self] at h1
 exact Option.some.inj h1
theorem catP_ok {H : Hp} {t : Vl} {sep out s : List UInt8} {r : Nat} {i : Int} {v : Vl} (hv : getV H t (iK i) = v) (hk : v.k = 3 ∨ v.k = 2) (hs : s = (if 1 < i then sep else []) ++ (toldV v).data.toList) (hl : (s.length : Int) ≤ 1048576 - out.length) :
  catP H t sep (r + 1) i out = catP H t sep r (i + 1) (out ++ s) := by
 subst hs
 show (if (getV H t (iK i)).k = 3 ∨ (getV H t (iK i)).k = 2 then _ else _) = _
 rw [hv, if_pos hk]
 exact if_pos hl
theorem catP_long {H : Hp} {t : Vl} {sep out s : List UInt8} {r : Nat} {i : Int} {v : Vl} (hv : getV H t (iK i) = v) (hk : v.k = 3 ∨ v.k = 2) (hs : s = (if 1 < i then sep else []) ++ (toldV v).data.toList) (hl : ¬ (s.length : Int) ≤ 1048576 - out.length) :
  catP H t sep (r + 1) i out = .error sLong := by
 subst hs
 show (if (getV H t (iK i)).k = 3 ∨ (getV H t (iK i)).k = 2 then _ else _) = _
 rw [hv, if_pos hk]
 exact if_neg hl
theorem catP_type {H : Hp} {t : Vl} {sep out : List UInt8} {r : Nat} {i : Int} {v : Vl} (hv : getV H t (iK i) = v) (hk : ¬ (v.k = 3 ∨ v.k = 2)) : catP H t sep (r + 1) i out = .error sType := by
 show (if (getV H t (iK i)).k = 3 ∨ (getV H t (iK i)).k = 2 then _ else _) = _
 rw [hv, if_neg hk]
theorem KeepsOthers.of_ext {a b : World} (h : Ext a b) : KeepsOthers a b := ⟨h.le, fun i o hi _ => (h.block i (Array.getElem?_eq_some_iff.1 hi).1).trans hi⟩
theorem app_list (a c : ByteArray) : (a ++ c).data.toList = a.data.toList ++ c.data.toList := by
 simp [ByteArray.data_append]
theorem kpf_write {W W' : World} {g bh bo : Nat} {tv : Value} {rs : List (Nat × Nat)} {F : Nat → Prop} {x y z u : Value} (hlo : Below bo W W') (hk : KeepO W W') (hF : F = fun k => Foot g tv rs k ∨ k = bh ∨ k = bh + 1) (hf : ∀ k, Foot g tv rs k → k < bo)
  (h1 : W.heap[bh]? = some (.cells #[x] 22 (0, 0))) (h2 : W.heap[bh + 1]? = some (.cells #[y, z, u] 26 (0, 0))) : KpF F W W' := by
 refine ⟨hlo.size, fun k hk0 => ?_⟩
 rw [hF] at hk0
 rcases hk0 with h | rfl | rfl
 ·exact hlo.block k (hf k h)
 ·exact (hk.blk h1 (by decide) (by decide)).trans h1.symm
 ·exact (hk.blk h2 (by decide) (by decide)).trans h2.symm
theorem ext_put {a W : World} {D : Nat} {o : Obj} (h : Ext a W) (hD : a.heap.size ≤ D) : Ext a (W.putObj D o) := h.grown (grownBy_putObj' W D o) (fun x hx => by cases hx; exact hD)
theorem ext_low {a b c W : World} {bo : Nat} (h1 : Ext a b) (h2 : Ext b c) (h3 : Below bo c W) (hb : a.heap.size ≤ bo) : Ext a W := Below.trans (h1.trans h2) (h3.mono hb)
theorem KpF.of_ext {F : Nat → Prop} {A B : World} (h : Ext A B) (hF : ∀ k, F k → k < A.heap.size) : KpF F A B := ⟨h.le, fun k hk => h.block k (hF k hk)⟩
def catR (H : Hp) : Except ByteArray (List UInt8) → Rs
 | .error y => .no H y
 | .ok x => mkR H (ba x)
theorem app_size (a c : ByteArray) : (a ++ c).size = a.size + c.size := ByteArray.size_append
theorem concat_eq (H : Hp) (t : Vl) (s : ByteArray) : concatR H t s = catR H (catP H t s.data.toList (lenV H t).toNat 1 []) := by
 unfold concatR catR
 cases catP H t s.data.toList (lenV H t).toNat 1 [] <;> rfl
set_option maxRecDepth 100000 in
set_option maxHeartbeats 8000000 in
theorem concat_do (g : Nat) (tv : Value) (rs : List (Nat × Nat)) (H : Hp) (w : World) (h : HeapIn w g tv rs H) (hL : LLaid w) (hlen : H.tabs.length ≤ 9223372036854775807) (b o cap : Nat) (x0 x1 : Vl) (hof : ofW H x0 = sNone) (hs : x1.s.size ≤ 1048576) (a0 : ArgAt w b o x0) (a1 : ArgAt w b (o + 3) x1) :
  Calls Tryz.prog 69 #[.pointer (some ⟨g, 0, none⟩), .slice (some ⟨b, o, none⟩) 2 cap] w (DoE w g tv rs (concatR H x0 x1.s)) := by
 have HI0 := Lib.hid h
 have HLD := Lib.hid hL
 have hT := tabOf_ok h.ok (ofW_none hof).2.2.2.2
 have hl0 := (lenV_tab hof).1
 have hmost := Nat.le_trans (tlen_le hT) hT.most
 obtain ⟨nn, hn⟩ : ∃ n : Nat, lenV H x0 = (n : Int) := ⟨_, hl0⟩
 have hn2 : nn ≤ 65536 := by omega
 obtain ⟨cr, hcr⟩ : ∃ cr, catP H x0 x1.s.data.toList nn 1 [] = cr := ⟨_, rfl⟩
 have hrr : concatR H x0 x1.s = catR H cr := by rw [concat_eq, hn, Int.toNat_natCast, hcr]
 obtain ⟨r, hr⟩ : ∃ r, concatR H x0 x1.s = r := ⟨_, rfl⟩
 rw [hr] at hrr ⊢
 have HRR := Lib.hid hrr
 have HNN := Lib.hid hn
 have HCR := Lib.hid hcr
 have HOF := Lib.hid hof
 have HOK := Lib.hid h.ok
 obtain ⟨k0, n0, s0⟩ := x0
 obtain ⟨k1, n1, s1⟩ := x1
 have HA0 := Lib.hid a0
 have HA1 := Lib.hid a1
 have hb := a0.lt
 have HLW := Lib.hid (fun x hx => h.low (x := x) hx)
 simp only at hs
 have c0 := a0.k
 have c1 := a0.n
 have c2 := a0.s
 simp only at c0 c1 c2
 clear hcr hrr hr hn hl0 hT hmost hof a0 a1 h hL
 refine (callsIn_wide (n := 20)).1 (callsIn_of_wpF Tryz.func69 rfl trivial ?_ rfl)
 simp only [Tryz.ntmps69, List.size_toArray, List.length_cons, List.length_nil, Nat.reduceAdd, Nat.reduceSub, Array.replicate_succ, Array.replicate_zero, List.push_toArray, List.append_toArray, List.nil_append, List.cons_append]
 refine wpF_seq (wpF_of ?_)
 gi_wp2
 refine wpF_seq (wpF_of ?_)
 gi_wp2
 obtain ⟨W3, hW3⟩ : ∃ W3, ((w.alloc (.cells #[.slice (some ⟨b, o, none⟩) 2 cap] 35)).alloc (.cells #[.int .i64 0, .int .i64 0, .string ⟨#[]⟩] 26)).alloc (.cells #[.pointer none, .slice none 0 0] 137) = W3 := ⟨_, rfl⟩
 have z3 : W3.heap.size = w.heap.size + 3 := by rw [← hW3, size_alloc, size_alloc, size_alloc]
 have E3 : Hid (Ext w W3) := Lib.hid (by rw [← hW3]; exact (((Ext.refl w).alloc _).alloc _).alloc _)
 have B1 : Hid (Blk W3 w.heap.size 35 #[.slice (some ⟨b, o, none⟩) 2 cap]) := Lib.hid (by rw [← hW3]; exact ((Blk.new w _ _).alloc _).alloc _)
 have B2 : Hid (Blk W3 (w.heap.size + 1) 26 #[.int .i64 0, .int .i64 0, .string ⟨#[]⟩]) := Lib.hid (by rw [← hW3]; exact Blk.alloc (by have h1 := Blk.new (w.alloc (.cells #[.slice (some ⟨b, o, none⟩) 2 cap] 35)) 26 #[.int .i64 0, .int .i64 0, .string ⟨#[]⟩]; rwa [size_alloc] at h1) _)
 have B3 : Hid (Blk W3 (w.heap.size + 1 + 1) 137 #[.pointer none, .slice none 0 0]) := Lib.hid (by rw [← hW3]; have h1 := Blk.new ((w.alloc (.cells #[.slice (some ⟨b, o, none⟩) 2 cap] 35)).alloc (.cells #[.int .i64 0, .int .i64 0, .string ⟨#[]⟩] 26)) 137 #[.pointer none, .slice none 0 0]; rwa [size_alloc, size_alloc] at h1)
 rw [hW3]
 have Z3 := Lib.hid z3
 clear hW3 z3
 replace c0 := (E3.out.cells.1 _ _ hb).trans c0
 replace c1 := (E3.out.cells.1 _ _ hb).trans c1
 replace c2 := (E3.out.cells.1 _ _ hb).trans c2
 have b1 : W3.cell? ⟨w.heap.size, 0, none⟩ = some (.slice (some ⟨b, o, none⟩) 2 cap) := B1.out.cell 0
 refine wpF_seq (wpF_seq (wpF_of ?_))
 gi_wp2
 refine ⟨trivial, (items_in _ g ⟨k0, n0, s0⟩ _).mono ?_⟩
 rintro e W4 ⟨rfl, hW4⟩
 gi_wp2
 refine wpF_block ?_
 have z4 : W4.heap.size = W3.heap.size + 2 := by rw [← hW4, size_alloc, size_alloc]
 have z3 := Z3.out
 have E4 : Hid (Ext W3 W4) := Lib.hid (by rw [← hW4]; exact ((Ext.refl W3).alloc _).alloc _)
 have KBH : Hid (Blk W4 W3.heap.size 22 #[.pointer (some ⟨g, 0, none⟩)]) := Lib.hid (by rw [← hW4]; exact (Blk.new W3 _ _).alloc _)
 have KBT : Hid (Blk W4 (W3.heap.size + 1) 26 #[.int .i64 k0, .int .i64 n0, .string s0]) := Lib.hid (by rw [← hW4]; have h1 := Blk.new (W3.alloc (.cells #[.pointer (some ⟨g, 0, none⟩)] 22)) 26 #[.int .i64 k0, .int .i64 n0, .string s0]; rwa [size_alloc] at h1)
 clear hW4 c0 c1 c2 b1
 have HH4 := Lib.hid ((HI0.out.ext E3.out).ext E4.out)
 have hI0 : CatI H ⟨k0, n0, s0⟩ s1.data.toList cr nn (w.heap.size + 1 + 1) W3.heap.size W4 [] [] W4 :=
  ⟨Nat.zero_le _, by have h1 := HCR.out; simpa using h1, Nat.zero_le _, .inl ⟨Nat.le_refl _, _, B3.out.ext E4.out, World.ownsRow_nil _ _ _ _, by simp [Value.ownBlock]⟩, Below.refl _ _, rfl, rfl⟩
 have HI0C := Lib.hid hI0
 clear hI0
 have hgeo : w.heap.size + 1 + 1 ≤ W3.heap.size ∧ W3.heap.size + 1 < W4.heap.size := by omega
 obtain ⟨Fp, hFp⟩ : ∃ Fp : Nat → Prop, Fp = fun k => Foot g tv rs k ∨ k = W3.heap.size ∨ k = W3.heap.size + 1 := ⟨_, rfl⟩
 have HFlt : Hid (∀ k, Fp k → k < W4.heap.size ∧ k ≠ w.heap.size + 1 + 1) := Lib.hid (fun k hk => by
  rw [hFp] at hk
  rcases hk with h1 | h1 | h1
  ·have := HLW.out k h1; omega
  ·omega
  ·omega)
 have HFp := Lib.hid hFp
 have Z4 := Lib.hid z4
 clear z3 z4
 refine wpF_rangeFunc_P Tryz.func69 rfl (by omega) (gf := 140) (lb := #[.pointer (some ⟨W3.heap.size, 0, none⟩), .pointer (some ⟨W3.heap.size + 1, 0, none⟩)]) rfl trivial (enters_of Tryz.func140 (by kernel_rfl) rfl)
  (items_seq _ (by omega) g tv rs H ⟨k0, n0, s0⟩ nn HNN.out HOF.out hlen hn2 W4 HH4.out W3.heap.size (W3.heap.size + 1) Fp KBH.out KBT.out (by rw [hFp]; exact .inr (.inl rfl)) (by rw [hFp]; exact .inr (.inr rfl)) (fun x hx => by rw [hFp]; exact .inl hx))
  KpF.trans (fun W l o o' hl ho h1 h2 => KpF.put W l o' (fun hf => by have := (HFlt.out l hf).1; omega)) (Below.refl _ _) (fun _ => rfl)
  (fun pre W => ∃ acc, CatI H ⟨k0, n0, s0⟩ s1.data.toList cr nn (w.heap.size + 1 + 1) W3.heap.size W4 pre acc W) (fun ch W => ∃ why, ch = [{ v := failV why, recovered := false }] ∧ cr = .error why ∧ ¬ why = sNone ∧ Below (w.heap.size + 1 + 1) W4 W) ?own ⟨[], HI0C.out⟩
  (fun x a' W => ∃ bx, W4.heap.size ≤ bx ∧ Blk W bx 26 #[.int .i64 x.2.k, .int .i64 x.2.n, .string x.2.s] ∧ a' = { tmps := #[.pointer (some ⟨g, 0, none⟩), .slice (some ⟨b, o, none⟩) 2 cap, undef, .pointer (some ⟨w.heap.size, 0, none⟩), .pointer (some ⟨w.heap.size + 1, 0, none⟩), .pointer (some ⟨w.heap.size + 1 + 1, 0, none⟩), .int .i64 x.1, .pointer (some ⟨bx, 0, none⟩), undef, .pointer (some ⟨g, 0, none⟩), .slice (some ⟨b, o, none⟩) 2 cap, .pointer (some ⟨b, o, none⟩), .agg #[.int .i64 k0, .int .i64 n0, .string s0], (.func (.func 140) #[] #[.pointer (some ⟨W3.heap.size, 0, none⟩), .pointer (some ⟨W3.heap.size + 1, 0, none⟩)]), .int .i64 x.1, x.2.v, undef, undef, undef, undef, undef, undef, undef, undef, undef, undef, undef, undef, undef, undef, undef, undef, undef, undef, undef, undef, undef, undef, undef, undef, undef, undef, undef, undef, undef, undef, undef, undef, undef], defers := [] })
  ?ownax ?assign ?body ?done ?panic
 case own =>
  rintro pre X Y row ⟨acc, h1⟩ hg hr
  exact ⟨acc, h1.kept hgeo hg hr⟩
 case ownax =>
  rintro x a' X Y row ⟨bx, h1, h2, h3⟩ hg hr
  refine ⟨bx, h1, (hg.block _ h2.lt (fun e => ?_)).trans h2, h3⟩
  obtain ⟨o, ho, hc⟩ := (hr bx e.symm).2
  rw [show X.heap[bx]? = _ from h2] at ho; cases ho; cases hc
 case assign =>
  rintro q pre ⟨xi, xv⟩ W K ⟨acc, hI⟩ hR hK
  have hWs : W4.heap.size ≤ W.heap.size := hI.low.size
  simp only [encI]
  gi_wp2
  exact hK _ _ ((KeepsOthers.alloc _ _).from _) (KpF.of_ext ((Ext.refl W).alloc _) (fun k hk => Nat.lt_of_lt_of_le (HFlt.out k hk).1 hWs)) ⟨acc, hI.ext hgeo ((Ext.refl W).alloc _)⟩ ⟨W.heap.size, hWs, Blk.new _ _ _, rfl⟩
 case body =>
  rintro q pre ⟨xi, xv⟩ a' W ⟨acc, hI⟩ hR ⟨bx, hbx, hB, rfl⟩
  obtain ⟨hlt, hxe⟩ := hR.item
  obtain ⟨rfl, hxv⟩ : xi = (pre.length : Int) + 1 ∧ xv = getV H ⟨k0, n0, s0⟩ (iK ((pre.length : Int) + 1)) := by
   injection hxe with h1 h2
   exact ⟨h1, h2⟩
  obtain ⟨vk, vn, vs⟩ := xv
  have hgo := getV_ok HOK.out ⟨k0, n0, s0⟩ (iK ((pre.length : Int) + 1))
  rw [← hxv] at hgo
  obtain ⟨g1, g2, g3⟩ := hgo
  have g4 := ck_kind g2
  simp only at g1 g3 g4
  have z3 := Z3.out
  have z4 := Z4.out
  have hWs : W4.heap.size ≤ W.heap.size := hI.low.size
  have EW : Hid (Ext w W) := Lib.hid (ext_low E3.out E4.out hI.low (by omega))
  have b0 := hB.cell 0
  have b1 := hB.cell 1
  have b2 := hB.cell 2
  simp only [List.getElem?_toArray, List.getElem?_cons_zero, List.getElem?_cons_succ] at b0 b1 b2
  have hbl := hB.lt
  have q0 : W.cell? ⟨w.heap.size, 0, none⟩ = some (.slice (some ⟨b, o, none⟩) 2 cap) := (show Blk W w.heap.size 35 #[.slice (some ⟨b, o, none⟩) 2 cap] from (hI.low.block _ (by omega)).trans (B1.out.ext E4.out)).cell 0
  have p2 : W.cell? ⟨b, o + 3 + 2, none⟩ = some (.string s1) := (HA1.out.ext EW.out).s
  have HI := Lib.hid hI
  have HXV := Lib.hid hxv.symm
  have HLT := Lib.hid hlt
  have HWS := Lib.hid hWs
  have hsucc : nn - pre.length = (nn - (pre.length + 1)) + 1 := by omega
  have HSU := Lib.hid hsucc
  clear hI hR hxv hxe g2 hWs z3 z4 hsucc hB
  by_cases hk : ¬ (vk = 3 ∨ vk = 2)
  ·have hcr : Hid (cr = .error sType) := Lib.hid (by
    have h1 := HI.out.spec
    rw [HSU.out, catP_type HXV.out hk] at h1
    exact h1.symm)
   have k3 : (vk == 3) = false := by rw [beq_eq_false_iff_ne]; omega
   have k2 : (vk == 2) = false := by rw [beq_eq_false_iff_ne]; omega
   clear hk
   gi_wp2
   refine ⟨trivial, (CallsIn.inRound q (callsIn_wide.2 (must_no _ _))).mono ?_⟩
   rintro e W5 ⟨rfl, rfl⟩
   gi_wp2
   exact ⟨rfl, (KeepsOthers.refl _).from _, _, rfl, hcr.out, (by decide), HI.out.low⟩
  replace hk := Classical.not_not.1 hk
  have cT := Lib.hid (told_any ⟨vk, vn, vs⟩ g4 g1 W (HLD.out.ext EW.out).pow)
  have hts := toldV_size ⟨vk, vn, vs⟩ g3 g1
  obtain ⟨ts, hts2⟩ : ∃ ts, toldV ⟨vk, vn, vs⟩ = ts := ⟨_, rfl⟩
  rw [hts2] at cT hts
  have HTS := Lib.hid hts2
  have rest : ∀ S : ByteArray, True := fun _ => trivial
  clear hts2 rest
  have hq0 : w.heap.size < W.heap.size := by have := HWS.out; have := Z3.out; have := Z4.out; omega
  have hqb : b < W.heap.size := by omega
  have hbo : w.heap.size + 1 + 1 ≤ W.heap.size := by have := HWS.out; have := Z3.out; have := Z4.out; omega
  have hacc : (acc.length : Int) ≤ 1048576 := by have := HI.out.short; omega
  have hacc0 : (0 : Int) ≤ (acc.length : Int) := by omega
  clear hbx hlt hFp
  rcases hk with hk3 | hk2
  ·subst hk3
   have hsz : ¬ 9223372036854775807 < s1.size + ts.size := by omega
   rcases Nat.eq_zero_or_pos pre.length with hp | hp
   ·have hd1 : decide ((1 : Int) < (pre.length : Int) + 1) = false := decide_eq_false (by omega)
    have hd2 : decide (0 < pre.length) = false := decide_eq_false (by omega)
    gi_wp2
    refine ⟨trivial, (CallsIn.inRound q (callsIn_wide.2 (must_yes _ _))).mono ?_⟩
    rintro e W5 ⟨rfl, rfl⟩
    gi_wp2
    refine ⟨trivial, (CallsIn.inRound q (callsIn_wide.2 (cT.out))).mono ?_⟩
    rintro e W6 ⟨rfl, e6⟩
    have E6 := Lib.hid e6
    have q6 := (e6.cells.1 _ _ hq0).trans q0
    have p6 := (e6.cells.1 _ _ hqb).trans p2
    have HI6 := Lib.hid (HI.out.ext hgeo e6)
    have hW6 : w.heap.size + 1 + 1 ≤ W6.heap.size := Nat.le_trans hbo e6.le
    clear e6 cT q0 p2 b0 b1 b2
    gi_wp2
    refine ⟨trivial, (CallsIn.inRound q (callsIn_wide.2 ((Tryz.Builder_Len (w.heap.size + 1 + 1) (w.heap.size + 1 + 1) (Lib.byteCells acc) _ HI6.out.bld).mono (R' := fun e w' => e = .returned (.int .i64 (acc.length : Int)) ∧ W6 = w') fun e w' h => ⟨by rw [h.1, Lib.byteCells_length], h.2.symm⟩))).mono ?_⟩
    rintro e W7 ⟨rfl, rfl⟩
    by_cases hfit : (ts.size : Int) ≤ 1048576 - (acc.length : Int)
    ·have hd : decide ((ts.size : Int) ≤ 1048576 - (acc.length : Int)) = true := decide_eq_true hfit
     have HSP : Hid (catP H ⟨k0, n0, s0⟩ s1.data.toList (nn - (pre.length + 1)) ((pre.length : Int) + 1 + 1) (acc ++ ts.data.toList) = cr) := Lib.hid (by
      have h1 := HI.out.spec
      rw [HSU.out, catP_ok HXV.out (.inl rfl) (s := ts.data.toList) (by rw [HTS.out]; rw [if_neg (by omega)]; rfl) (by have e : ts.data.toList.length = ts.size := rfl; omega)] at h1
      exact h1)
     have HFI := Lib.hid hfit
     clear hfit
     gi_wp2
     refine ⟨trivial, (CallsIn.inRound q (callsIn_wide.2 (must_yes _ _))).mono ?_⟩
     rintro e W8 ⟨rfl, rfl⟩
     gi_wp2
     refine ⟨trivial, (CallsIn.inRound q (callsIn_wide.2 (bwriteO (w.heap.size + 1 + 1) (w.heap.size + 1 + 1) (Lib.byteCells acc) ts W6 HI6.out.bld (by rw [Lib.byteCells_length]; have := HFI.out; have := HI.out.short; omega) hW6))).mono ?_⟩
     rintro e W9 ⟨rfl, hb9, hlo9, hk9⟩
     gi_wp2
     refine ⟨?_, ?_, acc ++ ts.data.toList, ?_⟩
     ·exact ((KeepsOthers.of_ext E6.out).from _).trans (hk9.others hlo9.size _)
     ·exact (KpF.of_ext E6.out (fun k hk => Nat.lt_of_lt_of_le (HFlt.out k hk).1 HWS.out)).trans (kpf_write hlo9 hk9 HFp.out (fun k hk => by have := HLW.out k hk; omega) (HI6.out.hb.trans KBH.out) (HI6.out.tb.trans KBT.out))
     ·refine ⟨by rw [List.length_append]; exact HLT.out, by rw [List.length_append]; exact HSP.out, by rw [List.length_append]; have e : ts.data.toList.length = ts.size := rfl; have := HFI.out; omega, .inr (by rw [Lib.byteCells_append]; exact hb9), HI6.out.low.trans hlo9, ?_, ?_⟩
      ·exact (hk9.blk (HI6.out.hb.trans KBH.out) (by decide) (by decide)).trans KBH.out.symm
      ·exact (hk9.blk (HI6.out.tb.trans KBT.out) (by decide) (by decide)).trans KBT.out.symm
    ·have hd : decide ((ts.size : Int) ≤ 1048576 - (acc.length : Int)) = false := decide_eq_false hfit
     have HCL : Hid (cr = .error sLong) := Lib.hid (by
      have h1 := HI.out.spec
      rw [HSU.out, catP_long HXV.out (.inl rfl) (s := ts.data.toList) (by rw [HTS.out]; rw [if_neg (by omega)]; rfl) (by have e : ts.data.toList.length = ts.size := rfl; omega)] at h1
      exact h1.symm)
     clear hfit
     gi_wp2
     refine ⟨trivial, (CallsIn.inRound q (callsIn_wide.2 (must_no _ _))).mono ?_⟩
     rintro e W8 ⟨rfl, rfl⟩
     gi_wp2
     exact ⟨rfl, (KeepsOthers.of_ext E6.out).from _, _, rfl, HCL.out, (by decide), HI6.out.low⟩
   ·have hd1 : decide ((1 : Int) < (pre.length : Int) + 1) = true := decide_eq_true (by omega)
    have hd2 : decide (0 < pre.length) = true := decide_eq_true hp
    gi_wp2
    refine ⟨trivial, (CallsIn.inRound q (callsIn_wide.2 (must_yes _ _))).mono ?_⟩
    rintro e W5 ⟨rfl, rfl⟩
    gi_wp2
    refine ⟨trivial, (CallsIn.inRound q (callsIn_wide.2 (cT.out))).mono ?_⟩
    rintro e W6 ⟨rfl, e6⟩
    have E6 := Lib.hid e6
    have q6 := (e6.cells.1 _ _ hq0).trans q0
    have p6 := (e6.cells.1 _ _ hqb).trans p2
    have HI6 := Lib.hid (HI.out.ext hgeo e6)
    have hW6 : w.heap.size + 1 + 1 ≤ W6.heap.size := Nat.le_trans hbo e6.le
    clear e6 cT q0 p2 b0 b1 b2
    gi_wp2
    refine ⟨trivial, (CallsIn.inRound q (callsIn_wide.2 ((Tryz.Builder_Len (w.heap.size + 1 + 1) (w.heap.size + 1 + 1) (Lib.byteCells acc) _ HI6.out.bld).mono (R' := fun e w' => e = .returned (.int .i64 (acc.length : Int)) ∧ W6 = w') fun e w' h => ⟨by rw [h.1, Lib.byteCells_length], h.2.symm⟩))).mono ?_⟩
    rintro e W7 ⟨rfl, rfl⟩
    by_cases hfit : ((s1.size : Int) + (ts.size : Int)) ≤ 1048576 - (acc.length : Int)
    ·have hd : decide (((s1.size : Int) + (ts.size : Int)) ≤ 1048576 - (acc.length : Int)) = true := decide_eq_true hfit
     have HSP : Hid (catP H ⟨k0, n0, s0⟩ s1.data.toList (nn - (pre.length + 1)) ((pre.length : Int) + 1 + 1) (acc ++ (s1 ++ ts).data.toList) = cr) := Lib.hid (by
      have h1 := HI.out.spec
      rw [HSU.out, catP_ok HXV.out (.inl rfl) (s := (s1 ++ ts).data.toList) (by rw [HTS.out]; rw [if_pos (by omega)]; exact app_list _ _) (by have e : (s1 ++ ts).data.toList.length = (s1 ++ ts).size := rfl; have e2 := app_size s1 ts; omega)] at h1
      exact h1)
     have HFI := Lib.hid hfit
     clear hfit
     gi_wp2
     refine ⟨trivial, (CallsIn.inRound q (callsIn_wide.2 (must_yes _ _))).mono ?_⟩
     rintro e W8 ⟨rfl, rfl⟩
     gi_wp2
     refine ⟨trivial, (CallsIn.inRound q (callsIn_wide.2 (bwriteO (w.heap.size + 1 + 1) (w.heap.size + 1 + 1) (Lib.byteCells acc) (s1 ++ ts) W6 HI6.out.bld (by rw [Lib.byteCells_length]; have := HFI.out; have := HI.out.short; have := app_size s1 ts; omega) hW6))).mono ?_⟩
     rintro e W9 ⟨rfl, hb9, hlo9, hk9⟩
     gi_wp2
     refine ⟨?_, ?_, acc ++ (s1 ++ ts).data.toList, ?_⟩
     ·exact ((KeepsOthers.of_ext E6.out).from _).trans (hk9.others hlo9.size _)
     ·exact (KpF.of_ext E6.out (fun k hk => Nat.lt_of_lt_of_le (HFlt.out k hk).1 HWS.out)).trans (kpf_write hlo9 hk9 HFp.out (fun k hk => by have := HLW.out k hk; omega) (HI6.out.hb.trans KBH.out) (HI6.out.tb.trans KBT.out))
     ·refine ⟨by rw [List.length_append]; exact HLT.out, by rw [List.length_append]; exact HSP.out, by rw [List.length_append]; have e : (s1 ++ ts).data.toList.length = (s1 ++ ts).size := rfl; have e2 := app_size s1 ts; have := HFI.out; omega, .inr (by rw [Lib.byteCells_append]; exact hb9), HI6.out.low.trans hlo9, ?_, ?_⟩
      ·exact (hk9.blk (HI6.out.hb.trans KBH.out) (by decide) (by decide)).trans KBH.out.symm
      ·exact (hk9.blk (HI6.out.tb.trans KBT.out) (by decide) (by decide)).trans KBT.out.symm
    ·have hd : decide (((s1.size : Int) + (ts.size : Int)) ≤ 1048576 - (acc.length : Int)) = false := decide_eq_false hfit
     have HCL : Hid (cr = .error sLong) := Lib.hid (by
      have h1 := HI.out.spec
      rw [HSU.out, catP_long HXV.out (.inl rfl) (s := (s1 ++ ts).data.toList) (by rw [HTS.out]; rw [if_pos (by omega)]; exact app_list _ _) (by have e : (s1 ++ ts).data.toList.length = (s1 ++ ts).size := rfl; have e2 := app_size s1 ts; omega)] at h1
      exact h1.symm)
     clear hfit
     gi_wp2
     refine ⟨trivial, (CallsIn.inRound q (callsIn_wide.2 (must_no _ _))).mono ?_⟩
     rintro e W8 ⟨rfl, rfl⟩
     gi_wp2
     exact ⟨rfl, (KeepsOthers.of_ext E6.out).from _, _, rfl, HCL.out, (by decide), HI6.out.low⟩
  ·subst hk2
   have hsz : ¬ 9223372036854775807 < s1.size + ts.size := by omega
   rcases Nat.eq_zero_or_pos pre.length with hp | hp
   ·have hd1 : decide ((1 : Int) < (pre.length : Int) + 1) = false := decide_eq_false (by omega)
    have hd2 : decide (0 < pre.length) = false := decide_eq_false (by omega)
    gi_wp2
    refine ⟨trivial, (CallsIn.inRound q (callsIn_wide.2 (must_yes _ _))).mono ?_⟩
    rintro e W5 ⟨rfl, rfl⟩
    gi_wp2
    refine ⟨trivial, (CallsIn.inRound q (callsIn_wide.2 (cT.out))).mono ?_⟩
    rintro e W6 ⟨rfl, e6⟩
    have E6 := Lib.hid e6
    have q6 := (e6.cells.1 _ _ hq0).trans q0
    have p6 := (e6.cells.1 _ _ hqb).trans p2
    have HI6 := Lib.hid (HI.out.ext hgeo e6)
    have hW6 : w.heap.size + 1 + 1 ≤ W6.heap.size := Nat.le_trans hbo e6.le
    clear e6 cT q0 p2 b0 b1 b2
    gi_wp2
    refine ⟨trivial, (CallsIn.inRound q (callsIn_wide.2 ((Tryz.Builder_Len (w.heap.size + 1 + 1) (w.heap.size + 1 + 1) (Lib.byteCells acc) _ HI6.out.bld).mono (R' := fun e w' => e = .returned (.int .i64 (acc.length : Int)) ∧ W6 = w') fun e w' h => ⟨by rw [h.1, Lib.byteCells_length], h.2.symm⟩))).mono ?_⟩
    rintro e W7 ⟨rfl, rfl⟩
    by_cases hfit : (ts.size : Int) ≤ 1048576 - (acc.length : Int)
    ·have hd : decide ((ts.size : Int) ≤ 1048576 - (acc.length : Int)) = true := decide_eq_true hfit
     have HSP : Hid (catP H ⟨k0, n0, s0⟩ s1.data.toList (nn - (pre.length + 1)) ((pre.length : Int) + 1 + 1) (acc ++ ts.data.toList) = cr) := Lib.hid (by
      have h1 := HI.out.spec
      rw [HSU.out, catP_ok HXV.out (.inr rfl) (s := ts.data.toList) (by rw [HTS.out]; rw [if_neg (by omega)]; rfl) (by have e : ts.data.toList.length = ts.size := rfl; omega)] at h1
      exact h1)
     have HFI := Lib.hid hfit
     clear hfit
     gi_wp2
     refine ⟨trivial, (CallsIn.inRound q (callsIn_wide.2 (must_yes _ _))).mono ?_⟩
     rintro e W8 ⟨rfl, rfl⟩
     gi_wp2
     refine ⟨trivial, (CallsIn.inRound q (callsIn_wide.2 (bwriteO (w.heap.size + 1 + 1) (w.heap.size + 1 + 1) (Lib.byteCells acc) ts W6 HI6.out.bld (by rw [Lib.byteCells_length]; have := HFI.out; have := HI.out.short; omega) hW6))).mono ?_⟩
     rintro e W9 ⟨rfl, hb9, hlo9, hk9⟩
     gi_wp2
     refine ⟨?_, ?_, acc ++ ts.data.toList, ?_⟩
     ·exact ((KeepsOthers.of_ext E6.out).from _).trans (hk9.others hlo9.size _)
     ·exact (KpF.of_ext E6.out (fun k hk => Nat.lt_of_lt_of_le (HFlt.out k hk).1 HWS.out)).trans (kpf_write hlo9 hk9 HFp.out (fun k hk => by have := HLW.out k hk; omega) (HI6.out.hb.trans KBH.out) (HI6.out.tb.trans KBT.out))
     ·refine ⟨by rw [List.length_append]; exact HLT.out, by rw [List.length_append]; exact HSP.out, by rw [List.length_append]; have e : ts.data.toList.length = ts.size := rfl; have := HFI.out; omega, .inr (by rw [Lib.byteCells_append]; exact hb9), HI6.out.low.trans hlo9, ?_, ?_⟩
      ·exact (hk9.blk (HI6.out.hb.trans KBH.out) (by decide) (by decide)).trans KBH.out.symm
      ·exact (hk9.blk (HI6.out.tb.trans KBT.out) (by decide) (by decide)).trans KBT.out.symm
    ·have hd : decide ((ts.size : Int) ≤ 1048576 - (acc.length : Int)) = false := decide_eq_false hfit
     have HCL : Hid (cr = .error sLong) := Lib.hid (by
      have h1 := HI.out.spec
      rw [HSU.out, catP_long HXV.out (.inr rfl) (s := ts.data.toList) (by rw [HTS.out]; rw [if_neg (by omega)]; rfl) (by have e : ts.data.toList.length = ts.size := rfl; omega)] at h1
      exact h1.symm)
     clear hfit
     gi_wp2
     refine ⟨trivial, (CallsIn.inRound q (callsIn_wide.2 (must_no _ _))).mono ?_⟩
     rintro e W8 ⟨rfl, rfl⟩
     gi_wp2
     exact ⟨rfl, (KeepsOthers.of_ext E6.out).from _, _, rfl, HCL.out, (by decide), HI6.out.low⟩
   ·have hd1 : decide ((1 : Int) < (pre.length : Int) + 1) = true := decide_eq_true (by omega)
    have hd2 : decide (0 < pre.length) = true := decide_eq_true hp
    gi_wp2
    refine ⟨trivial, (CallsIn.inRound q (callsIn_wide.2 (must_yes _ _))).mono ?_⟩
    rintro e W5 ⟨rfl, rfl⟩
    gi_wp2
    refine ⟨trivial, (CallsIn.inRound q (callsIn_wide.2 (cT.out))).mono ?_⟩
    rintro e W6 ⟨rfl, e6⟩
    have E6 := Lib.hid e6
    have q6 := (e6.cells.1 _ _ hq0).trans q0
    have p6 := (e6.cells.1 _ _ hqb).trans p2
    have HI6 := Lib.hid (HI.out.ext hgeo e6)
    have hW6 : w.heap.size + 1 + 1 ≤ W6.heap.size := Nat.le_trans hbo e6.le
    clear e6 cT q0 p2 b0 b1 b2
    gi_wp2
    refine ⟨trivial, (CallsIn.inRound q (callsIn_wide.2 ((Tryz.Builder_Len (w.heap.size + 1 + 1) (w.heap.size + 1 + 1) (Lib.byteCells acc) _ HI6.out.bld).mono (R' := fun e w' => e = .returned (.int .i64 (acc.length : Int)) ∧ W6 = w') fun e w' h => ⟨by rw [h.1, Lib.byteCells_length], h.2.symm⟩))).mono ?_⟩
    rintro e W7 ⟨rfl, rfl⟩
    by_cases hfit : ((s1.size : Int) + (ts.size : Int)) ≤ 1048576 - (acc.length : Int)
    ·have hd : decide (((s1.size : Int) + (ts.size : Int)) ≤ 1048576 - (acc.length : Int)) = true := decide_eq_true hfit
     have HSP : Hid (catP H ⟨k0, n0, s0⟩ s1.data.toList (nn - (pre.length + 1)) ((pre.length : Int) + 1 + 1) (acc ++ (s1 ++ ts).data.toList) = cr) := Lib.hid (by
      have h1 := HI.out.spec
      rw [HSU.out, catP_ok HXV.out (.inr rfl) (s := (s1 ++ ts).data.toList) (by rw [HTS.out]; rw [if_pos (by omega)]; exact app_list _ _) (by have e : (s1 ++ ts).data.toList.length = (s1 ++ ts).size := rfl; have e2 := app_size s1 ts; omega)] at h1
      exact h1)
     have HFI := Lib.hid hfit
     clear hfit
     gi_wp2
     refine ⟨trivial, (CallsIn.inRound q (callsIn_wide.2 (must_yes _ _))).mono ?_⟩
     rintro e W8 ⟨rfl, rfl⟩
     gi_wp2
     refine ⟨trivial, (CallsIn.inRound q (callsIn_wide.2 (bwriteO (w.heap.size + 1 + 1) (w.heap.size + 1 + 1) (Lib.byteCells acc) (s1 ++ ts) W6 HI6.out.bld (by rw [Lib.byteCells_length]; have := HFI.out; have := HI.out.short; have := app_size s1 ts; omega) hW6))).mono ?_⟩
     rintro e W9 ⟨rfl, hb9, hlo9, hk9⟩
     gi_wp2
     refine ⟨?_, ?_, acc ++ (s1 ++ ts).data.toList, ?_⟩
     ·exact ((KeepsOthers.of_ext E6.out).from _).trans (hk9.others hlo9.size _)
     ·exact (KpF.of_ext E6.out (fun k hk => Nat.lt_of_lt_of_le (HFlt.out k hk).1 HWS.out)).trans (kpf_write hlo9 hk9 HFp.out (fun k hk => by have := HLW.out k hk; omega) (HI6.out.hb.trans KBH.out) (HI6.out.tb.trans KBT.out))
     ·refine ⟨by rw [List.length_append]; exact HLT.out, by rw [List.length_append]; exact HSP.out, by rw [List.length_append]; have e : (s1 ++ ts).data.toList.length = (s1 ++ ts).size := rfl; have e2 := app_size s1 ts; have := HFI.out; omega, .inr (by rw [Lib.byteCells_append]; exact hb9), HI6.out.low.trans hlo9, ?_, ?_⟩
      ·exact (hk9.blk (HI6.out.hb.trans KBH.out) (by decide) (by decide)).trans KBH.out.symm
      ·exact (hk9.blk (HI6.out.tb.trans KBT.out) (by decide) (by decide)).trans KBT.out.symm
    ·have hd : decide (((s1.size : Int) + (ts.size : Int)) ≤ 1048576 - (acc.length : Int)) = false := decide_eq_false hfit
     have HCL : Hid (cr = .error sLong) := Lib.hid (by
      have h1 := HI.out.spec
      rw [HSU.out, catP_long HXV.out (.inr rfl) (s := (s1 ++ ts).data.toList) (by rw [HTS.out]; rw [if_pos (by omega)]; exact app_list _ _) (by have e : (s1 ++ ts).data.toList.length = (s1 ++ ts).size := rfl; have e2 := app_size s1 ts; omega)] at h1
      exact h1.symm)
     clear hfit
     gi_wp2
     refine ⟨trivial, (CallsIn.inRound q (callsIn_wide.2 (must_no _ _))).mono ?_⟩
     rintro e W8 ⟨rfl, rfl⟩
     gi_wp2
     exact ⟨rfl, (KeepsOthers.of_ext E6.out).from _, _, rfl, HCL.out, (by decide), HI6.out.low⟩
 case done =>
  rintro D xs W hD hxs ⟨acc, hI⟩ hK
  subst hxs
  have hpl := itemsL_len H ⟨k0, n0, s0⟩ nn
  have hcr : cr = .ok acc := by
   have h1 := hI.spec
   rw [hpl, Nat.sub_self] at h1
   exact h1.symm
  have hmk : mkR H ⟨acc.toArray⟩ = r := by rw [HRR.out, hcr]; rfl
  have HMK := Lib.hid hmk
  have hzz : (⟨acc.toArray⟩ : ByteArray).size ≤ 1048576 := by show acc.toArray.size ≤ _; rw [List.size_toArray]; exact hI.short
  have HZZ := Lib.hid hzz
  have z3 := Z3.out
  have z4 := Z4.out
  have hWs : W4.heap.size ≤ W.heap.size := hI.low.size
  have EW : Hid (Ext w W) := Lib.hid (ext_low E3.out E4.out hI.low (by omega))
  have BRW : Hid (Blk W (w.heap.size + 1) 26 #[.int .i64 0, .int .i64 0, .string ⟨#[]⟩]) := Lib.hid ((hI.low.block _ (by omega)).trans (B2.out.ext E4.out))
  have hbw : w.heap.size + 1 + 1 ≤ W.heap.size := by omega
  have HDD : Hid (¬ Foot g tv rs D ∧ ¬ D = w.heap.size + 1 + 1 ∧ ¬ w.heap.size + 1 = D) := Lib.hid ⟨fun hf => by have := HLW.out D hf; omega, by omega, by omega⟩
  have hDlt : D < W.heap.size := (Array.getElem?_eq_some_iff.1 hK).1
  have HKW := Lib.hid hK
  have HIW := Lib.hid hI
  clear hmk hzz hK hI z3 z4 hWs
  simp only [Exit.inBlock, Exit.then]
  refine wpF_of ?_
  gi_wp2
  refine ⟨trivial, (callsIn_wide.2 (Tryz.Builder_String_any_k (w.heap.size + 1 + 1) (w.heap.size + 1 + 1) acc W (.of HIW.out.bld) hbw)).mono ?_⟩
  rintro e W5 ⟨rfl, _, hb5, ho5⟩
  have EW5 : Hid (Ext w W5) := Lib.hid (Below.trans EW.out (hb5.mono (by omega)))
  have BR5 : Hid (Blk W5 (w.heap.size + 1) 26 #[.int .i64 0, .int .i64 0, .string ⟨#[]⟩]) := Lib.hid ((hb5.block _ (by omega)).trans BRW.out)
  have HK5 : Hid (W5.heap[D]? = some (.deferred (some []))) := Lib.hid (ho5 D _ HKW.out (fun e => HDD.out.2.1 (Option.some.inj e)) (fun c fz e => by cases e))
  clear hb5 ho5 hDlt hbw
  gi_wp2
  refine ⟨trivial, (callsIn_wide.2 (make_step g tv rs H ⟨acc.toArray⟩ W5 (HI0.out.ext EW5.out) (by have := HZZ.out; omega))).mono ?_⟩
  rintro e W6 ⟨rfl, s6⟩
  have hmk := HMK.out
  rw [hmk] at s6 ⊢
  have HK6 : Hid (W6.heap[D]? = some (.deferred (some []))) := Lib.hid ((s6.touch.block D (Array.getElem?_eq_some_iff.1 HK5.out).1 HDD.out.1).trans HK5.out)
  have BR6 : Hid (Blk W6 (w.heap.size + 1) 26 #[.int .i64 0, .int .i64 0, .string ⟨#[]⟩]) := Lib.hid ((s6.touch.block _ BR5.out.lt (fun hf => by have := HLW.out _ hf; omega)).trans BR5.out)
  have S6 := Lib.hid (HS.pre EW5.out s6)
  clear s6 hmk
  rcases Decidable.em (r.w = sNone) with hw | hw
  ·have HWn := Lib.hid hw
   rw [hw]
   clear hw
   gi_wp2
   refine ⟨trivial, (callsIn_wide.2 (got_yes _ _)).mono ?_⟩
   rintro e W7 ⟨rfl, e7⟩
   have HK7 : Hid (W7.heap[D]? = some (.deferred (some []))) := Lib.hid ((e7.block D (Array.getElem?_eq_some_iff.1 HK6.out).1).trans HK6.out)
   have BR7 := Lib.hid (BR6.out.ext e7)
   have S7 := Lib.hid (S6.out.ext e7)
   obtain ⟨z0, z1, z2, y0, y1, y2⟩ := three BR7.out
   have hlt7 := BR7.out.lt
   clear e7
   gi_wp2
   have S8 := S7.out.set3 (k := w.heap.size + 1) (by omega) (fun hf => by have := HLW.out _ hf; omega) (.int .i64 r.v.k) (.int .i64 r.v.n) (.string r.v.s)
   have B8 := put3 BR7.out (.int .i64 r.v.k) (.int .i64 r.v.n) (.string r.v.s)
   have K8 : (((W7.setCell ⟨w.heap.size + 1, 0, none⟩ (.int .i64 r.v.k)).setCell ⟨w.heap.size + 1, 1, none⟩ (.int .i64 r.v.n)).setCell ⟨w.heap.size + 1, 2, none⟩ (.string r.v.s)).heap[D]? = some (.deferred (some [])) := by
    have hne := HDD.out.2.2
    exact (Below.heap_setCell _ _ _ _ (fun e => hne e.symm)).trans ((Below.heap_setCell _ _ _ _ (fun e => hne e.symm)).trans ((Below.heap_setCell _ _ _ _ (fun e => hne e.symm)).trans HK7.out))
   generalize (((W7.setCell ⟨w.heap.size + 1, 0, none⟩ (.int .i64 r.v.k)).setCell ⟨w.heap.size + 1, 1, none⟩ (.int .i64 r.v.n)).setCell ⟨w.heap.size + 1, 2, none⟩ (.string r.v.s)) = W8 at S8 B8 K8 ⊢
   refine ⟨by simp, .inl ⟨_, _, rfl, run_takeDeferred K8, ?_⟩⟩
   have B9 : Blk (W8.putObj D (.deferred none)) (w.heap.size + 1) 26 #[.int .i64 r.v.k, .int .i64 r.v.n, .string r.v.s] := (World.putObj_heap_other HDD.out.2.2).trans B8
   have S9 : HS w g tv rs (W8.putObj D (.deferred none)) tv rs r.H := ⟨S8.heap.of_heap fun k hk => World.putObj_heap_other (fun e => HDD.out.1 (by rw [← e]; exact hk)), ⟨S8.touch.os, S8.touch.tape, S8.touch.output, by simpa [World.putObj] using S8.touch.size, fun k hk hn => (World.putObj_heap_other (fun e => by omega)).trans (S8.touch.block k hk hn)⟩, S8.foot⟩
   generalize W8.putObj D (.deferred none) = W9 at B9 S9 ⊢
   obtain ⟨z0, z1, z2, y0, y1, y2⟩ := three B9
   exact ⟨r.v.v, by simp [results, Tryz.results69, go_sem, *], DoE.yes HWn.out S9⟩
  ·gi_wp2
   refine ⟨trivial, (callsIn_wide.2 (got_no _ _ hw _)).mono ?_⟩
   rintro e W7 ⟨rfl, e7⟩
   have HK7 : W7.heap[D]? = some (.deferred (some [])) := (e7.block D (Array.getElem?_eq_some_iff.1 HK6.out).1).trans HK6.out
   have S7 := S6.out.ext e7
   have S9 : HS w g tv rs (W7.putObj D (.deferred none)) tv rs r.H := ⟨S7.heap.of_heap fun k hk => World.putObj_heap_other (fun e => HDD.out.1 (by rw [← e]; exact hk)), ⟨S7.touch.os, S7.touch.tape, S7.touch.output, by simpa [World.putObj] using S7.touch.size, fun k hk hn => (World.putObj_heap_other (fun e => by omega)).trans (S7.touch.block k hk hn)⟩, S7.foot⟩
   gi_wp2
   refine ⟨by simp, .inl ⟨_, _, rfl, run_takeDeferred HK7, ?_⟩⟩
   exact DoE.no hw S9
 case panic =>
  rintro D ch W hD ⟨why, rfl, hcr, hne, hlow⟩ hK
  have hrn : r = Rs.no H why := by rw [HRR.out, hcr]; rfl
  simp only [Exit.inBlock, Exit.then]
  refine ⟨by simp, .inl ⟨_, _, rfl, run_takeDeferred hK, ?_⟩⟩
  show DoE w g tv rs r _ _
  rw [hrn]
  exact DoE.no (r := Rs.no H why) hne (HS.of_ext HI0.out (ext_put (ext_low E3.out E4.out hlow (by omega)) (by have := Z3.out; have := Z4.out; omega)))
end Go.Proofs.YtfagldjhibdfhaaGreatDoor
