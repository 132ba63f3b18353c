/- What is told is read as the tree: statements, blocks, the whole. How great what is read is: it is bound by the words that were read. -/
import Derived.Test.YtkbcnacjaakleaaGreatDoorYP29
import Derived.Test.YtkbcnacjaakleaaGreatDoorYP04
import Derived.Test.YtkbcnacjaakleaaGreatDoorYP08
import Derived.Test.YtkbcnacjaakleaaGreatDoorYP01
set_option maxRecDepth 100000
set_option maxHeartbeats 32000000
set_option linter.unusedVariables false
set_option linter.unusedSimpArgs false
namespace Go.Proofs.YtkbcnacjaakleaaGreatDoor

theorem tell_block (l : List Nd) : tellN (.mk 0 eB eB 0 [] l) = l.flatMap fun x => tellN x ++ [sgW [59]] := by simp [tellN, tellK, tellL_map, List.flatMap_map]
theorem tell_local0 (ns : List ByteArray) : tellN (.mk 1 eB eB 0 ns []) = kwW tLocal :: namesT ns := by simp [tellN, tellK, tellL]
theorem tell_local (ns : List ByteArray) (a : Nd) (l : List Nd) : tellN (.mk 1 eB eB 0 ns (a :: l)) = kwW tLocal :: (namesT ns ++ sgW [61] :: commaT ((a :: l).map tellN)) := by simp [tellN, tellK, tellL_map]
theorem tell_assign (a b : Nd) : tellN (.mk 2 eB eB 0 [] [a, b]) = tellN a ++ sgW [61] :: tellN b := by simp [tellN, tellK, tellL]
theorem tell_do (b : Nd) : tellN (.mk 3 eB eB 0 [] [b]) = kwW tDo :: (tellN b ++ [kwW tEnd]) := by simp [tellN, tellK, tellL]
theorem tell_if (c b : Nd) (l : List Nd) : tellN (.mk 4 eB eB 0 [] (c :: b :: l)) = kwW tIf :: (tellN c ++ kwW tThen :: (tellN b ++ restT (l.map tellN))) := by simp [tellN, tellK, tellL_map, ifT]
theorem tell_while (a b : Nd) : tellN (.mk 5 eB eB 0 [] [a, b]) = kwW tWhile :: (tellN a ++ kwW tDo :: (tellN b ++ [kwW tEnd])) := by simp [tellN, tellK, tellL]
theorem tell_for3 (s : ByteArray) (a b c : Nd) : tellN (.mk 6 eB eB 0 [s] [a, b, c]) = kwW tFor :: nmW s :: sgW [61] :: (tellN a ++ sgW [44] :: (tellN b ++ kwW tDo :: (tellN c ++ [kwW tEnd]))) := by simp [tellN, tellK, tellL, commaT]
theorem tell_for4 (s : ByteArray) (a b e c : Nd) : tellN (.mk 6 eB eB 0 [s] [a, b, e, c]) = kwW tFor :: nmW s :: sgW [61] :: (tellN a ++ sgW [44] :: (tellN b ++ sgW [44] :: (tellN e ++ kwW tDo :: (tellN c ++ [kwW tEnd])))) := by simp [tellN, tellK, tellL, commaT]
theorem tell_return0 : tellN (.mk 7 eB eB 0 [] []) = [kwW tReturn] := by simp [tellN, tellK, tellL, commaT]
theorem tell_return1 (a : Nd) : tellN (.mk 7 eB eB 0 [] [a]) = kwW tReturn :: tellN a := by simp [tellN, tellK, tellL, commaT]
theorem tell_break : tellN (.mk 8 eB eB 0 [] []) = [kwW tBreak] := by simp [tellN, tellK, tellL]
theorem tell_func (s : ByteArray) (ns : List ByteArray) (b : Nd) : tellN (.mk 9 s eB 0 ns [b]) = kwW tLocal :: kwW tFunction :: nmW s :: sgW [40] :: (namesT ns ++ sgW [41] :: (tellN b ++ [kwW tEnd])) := by simp [tellN, tellK, tellL]
section
variable {z : Wz} {p : Nat} {x : Wd}
theorem Hd.ends (h : Hd z p x) (hx : x = kwW tEnd ∨ x = kwW tElse ∨ x = kwW tElseif) : endsW z p = true := by
 unfold endsW
 rw [h.is, h.is, h.is]
 rcases hx with rfl | rfl | rfl <;> simp [kwW]
theorem Hd.noEnds (h : Hd z p x) (h1 : isW z p tEnd = false) (h2 : isW z p tElse = false) (h3 : isW z p tElseif = false) : endsW z p = false := by
 unfold endsW
 rw [h1, h2, h3, decide_eq_true h.lt]
 rfl
def StOk (z : Wz) (x : Nd) : Prop := ∀ (d o p f : Nat), deepN d x = true → o + d ≤ 100 → Ws z p (tellN x) → Hd z (p + (tellN x).length) (sgW [59]) → 10 * (z.ws.length - p) + 9 ≤ f → (pz z f).st ⟨p, o⟩ = .ok (x, ⟨p + (tellN x).length, o⟩)
def BlOk (z : Wz) (x : Nd) : Prop := ∀ (d o p f : Nat), deepN d x = true → o + d ≤ 100 → Ws z p (tellN x) → endsW z (p + (tellN x).length) = true → 10 * (z.ws.length - p) + 9 ≤ f → blockR z (pz z f).st ⟨p, o⟩ = .ok (x, ⟨p + (tellN x).length, o⟩)
def StH (x : Nd) : Prop := ∃ w l, tellN x = w :: l ∧ ∀ z p, Hd z p w → endsW z p = false
theorem opened_rt {b : Nd} (hb : BlOk z b) {d o f : Nat} (hd : deepN d b = true) (ho : o + 1 + d ≤ 100) (hw : Ws z p (tellN b)) (he : endsW z (p + (tellN b).length) = true) (hf : 10 * (z.ws.length - p) + 9 ≤ f) :
  openedR z (pz z f).st ⟨p, o⟩ = .ok (b, ⟨p + (tellN b).length, o⟩) := within_rt (by omega) (hb d (o + 1) p f hd ho hw he hf)
theorem ended_rt {b : Nd} (hb : BlOk z b) {d o f : Nat} (hd : deepN d b = true) (ho : o + 1 + d ≤ 100) (hw : Ws z p (tellN b)) (he : Hd z (p + (tellN b).length) (kwW tEnd)) (hf : 10 * (z.ws.length - p) + 9 ≤ f) :
  endedR z (pz z f).st ⟨p, o⟩ = .ok (b, ⟨p + (tellN b).length + 1, o⟩) := by
 unfold endedR
 rw [opened_rt hb hd ho hw (he.ends (.inl rfl)) hf]
 simp only [want_rt (show isW z (p + (tellN b).length) tEnd = true by rw [he.is]; decide)]
theorem name_rt {s : ByteArray} {o : Nat} (h : Hd z p (nmW s)) : nameR z ⟨p, o⟩ = .ok (s, ⟨p + 1, o⟩) := by
 obtain ⟨w, h1, h2, _⟩ := h.kind (k := 0) rfl
 unfold nameR
 simp only [h1, h2]
 rfl
theorem names_rt {ns : List ByteArray} {o : Nat} (h0 : 0 < ns.length) (hw : Ws z p (namesT ns)) (hn : isW z (p + (namesT ns).length) [44] = false) : commaR z (nameR z) ⟨p, o⟩ = .ok (ns, ⟨p + (namesT ns).length, o⟩) :=
 comma_rt (End := fun _ => True) (fun _ _ => trivial) h0 hw trivial hn fun y hy q hq h4 _ => name_rt h4.cons.1
theorem st_eq (z : Wz) (f : Nat) (s : Ps) : (pz z (f + 1)).st s = stmtR z (pz z f) s := rfl
theorem st_local {ns : List ByteArray} {l : List Nd} (h0 : 1 ≤ ns.length) (hle : l.length ≤ ns.length) (hl : ∀ y ∈ l, ExOk z y) : StOk z (.mk 1 eB eB 0 ns l) := by
 intro d o p f hd ho hw hf hn
 obtain ⟨hd1, hdk⟩ := deepN_kids hd
 simp only [Nd.kids] at hdk
 obtain ⟨f, rfl⟩ : ∃ f', f = f' + 1 := ⟨f - 1, by omega⟩
 rw [st_eq]
 cases l with
 | nil =>
  rw [tell_local0] at hw hf ⊢
  obtain ⟨h1, h2⟩ := hw.cons
  have hlen : p + (kwW tLocal :: namesT ns).length = p + 1 + (namesT ns).length := by simp; omega
  rw [hlen] at hf ⊢
  have g0 : isW z (p + 1) tFunction = false := by
   obtain ⟨s, ns', rfl⟩ : ∃ s ns', ns = s :: ns' := by cases ns with | nil => simp at h0 | cons s t => exact ⟨s, t, rfl⟩
   have hw2 := h2
   simp only [namesT, List.map_cons, commaT, List.cons_append] at hw2
   rw [hw2.cons.1.is]
   simp [nmW]
  unfold stmtR
  rw [if_pos (by rw [h1.is]; decide)]
  unfold localR
  rw [if_neg (by rw [g0]; decide)]
  simp only [names_rt h0 h2 (by rw [hf.is]; decide)]
  rw [if_neg (by rw [hf.is]; decide)]
  rfl
 | cons a l =>
  rw [tell_local] at hw hf ⊢
  obtain ⟨h1, h2⟩ := hw.cons
  have hlen : p + (kwW tLocal :: (namesT ns ++ sgW [61] :: commaT ((a :: l).map tellN))).length = p + 1 + (namesT ns).length + 1 + (commaT ((a :: l).map tellN)).length := by simp; omega
  rw [hlen] at hf ⊢
  have g0 : isW z (p + 1) tFunction = false := by
   obtain ⟨s, ns', rfl⟩ : ∃ s ns', ns = s :: ns' := by cases ns with | nil => simp at h0 | cons s t => exact ⟨s, t, rfl⟩
   have hw2 := h2
   simp only [namesT, List.map_cons, commaT, List.cons_append] at hw2
   rw [hw2.cons.1.is]
   simp [nmW]
  obtain ⟨h2, h3⟩ := h2.app
  obtain ⟨h3, h4⟩ := h3.cons
  have hlt := h3.lt
  unfold stmtR
  rw [if_pos (by rw [h1.is]; decide)]
  unfold localR
  rw [if_neg (by rw [g0]; decide)]
  simp only [names_rt h0 h2 (by rw [h3.is]; decide)]
  rw [if_pos (by rw [h3.is]; decide)]
  rw [list_rt (l := a :: l) (d := d - 1) (by simp) hl hdk (by omega) h4 (hf.fol (by decide)) (by rw [hf.is]; decide) (by omega)]
  simp only
  rw [if_neg (by omega)]
  rfl
theorem st_func {s : ByteArray} {ns : List ByteArray} {b : Nd} (hb : BlOk z b) : StOk z (.mk 9 s eB 0 ns [b]) := by
 intro d o p f hd ho hw hf hn
 obtain ⟨hd1, hdk⟩ := deepN_kids hd
 have db := hdk b (by simp [Nd.kids])
 obtain ⟨f, rfl⟩ : ∃ f', f = f' + 1 := ⟨f - 1, by omega⟩
 rw [st_eq]
 rw [tell_func] at hw hf ⊢
 obtain ⟨h1, h2⟩ := hw.cons
 obtain ⟨h2, h3⟩ := h2.cons
 obtain ⟨h3, h4⟩ := h3.cons
 obtain ⟨h4, h5⟩ := h4.cons
 have h5' := h5
 obtain ⟨h5, h6⟩ := h5.app
 obtain ⟨h6, h7⟩ := h6.cons
 obtain ⟨h7, h8⟩ := h7.app
 have h8 := h8.cons.1
 have hlen : p + (kwW tLocal :: kwW tFunction :: nmW s :: sgW [40] :: (namesT ns ++ sgW [41] :: (tellN b ++ [kwW tEnd]))).length = p + 1 + 1 + 1 + 1 + (namesT ns).length + 1 + (tellN b).length + 1 := by simp; omega
 rw [hlen]
 have hlt := h1.lt
 unfold stmtR
 rw [if_pos (by rw [h1.is]; decide)]
 unfold localR
 rw [if_pos (by rw [h2.is]; decide)]
 unfold funcR
 simp only [name_rt h3, want_rt (show isW z (p + 1 + 1 + 1) [40] = true by rw [h4.is]; decide)]
 cases ns with
 | nil =>
  simp only [namesT, List.map_nil, commaT, List.length_nil, Nat.add_zero] at h6 h7 h8 ⊢
  rw [if_pos (by rw [h6.is]; decide)]
  simp only [ended_rt hb (d := d - 1) (o := o) (f := f) db (by omega) h7 h8 (by omega)]
  rfl
 | cons y ys =>
  have g0 : isW z (p + 1 + 1 + 1 + 1) [41] = false := by
   simp only [namesT, List.map_cons, commaT, List.cons_append] at h5'
   rw [h5'.cons.1.is]
   simp [nmW]
  rw [if_neg (by rw [g0]; decide)]
  simp only [names_rt (ns := y :: ys) (by simp) h5 (by rw [h6.is]; decide), want_rt (show isW z (p + 1 + 1 + 1 + 1 + (namesT (y :: ys)).length) [41] = true by rw [h6.is]; decide), ended_rt hb (d := d - 1) (o := o) (f := f) db (by omega) h7 h8 (by omega)]
theorem st_do {b : Nd} (hb : BlOk z b) : StOk z (.mk 3 eB eB 0 [] [b]) := by
 intro d o p f hd ho hw hf hn
 obtain ⟨hd1, hdk⟩ := deepN_kids hd
 have db := hdk b (by simp [Nd.kids])
 obtain ⟨f, rfl⟩ : ∃ f', f = f' + 1 := ⟨f - 1, by omega⟩
 rw [st_eq]
 rw [tell_do] at hw hf ⊢
 obtain ⟨h1, h2⟩ := hw.cons
 obtain ⟨h2, h3⟩ := h2.app
 have h3 := h3.cons.1
 have hlen : p + (kwW tDo :: (tellN b ++ [kwW tEnd])).length = p + 1 + (tellN b).length + 1 := by simp; omega
 rw [hlen]
 have hlt := h1.lt
 unfold stmtR
 rw [if_neg (by rw [h1.is]; decide), if_pos (by rw [h1.is]; decide)]
 simp only [ended_rt hb (d := d - 1) (o := o) (f := f) db (by omega) h2 h3 (by omega)]
 rfl
theorem st_while {a b : Nd} (ha : ExOk z a) (hb : BlOk z b) : StOk z (.mk 5 eB eB 0 [] [a, b]) := by
 intro d o p f hd ho hw hf hn
 obtain ⟨hd1, hdk⟩ := deepN_kids hd
 have da := hdk a (by simp [Nd.kids])
 have db := hdk b (by simp [Nd.kids])
 obtain ⟨f, rfl⟩ : ∃ f', f = f' + 1 := ⟨f - 1, by omega⟩
 rw [st_eq]
 rw [tell_while] at hw hf ⊢
 obtain ⟨h1, h2⟩ := hw.cons
 obtain ⟨h2, h3⟩ := h2.app
 obtain ⟨h3, h4⟩ := h3.cons
 obtain ⟨h4, h5⟩ := h4.app
 have h5 := h5.cons.1
 have hlen : p + (kwW tWhile :: (tellN a ++ kwW tDo :: (tellN b ++ [kwW tEnd]))).length = p + 1 + (tellN a).length + 1 + (tellN b).length + 1 := by simp; omega
 rw [hlen]
 have hlt := h1.lt
 unfold stmtR
 rw [if_neg (by rw [h1.is]; decide), if_neg (by rw [h1.is]; decide), if_neg (by rw [h1.is]; decide), if_pos (by rw [h1.is]; decide)]
 unfold whileR
 simp only [ha (d - 1) o (p + 1) f da (by omega) h2 (h3.fol (by decide)) (by omega), want_rt (show isW z (p + 1 + (tellN a).length) tDo = true by rw [h3.is]; decide), ended_rt hb (d := d - 1) (o := o) (f := f) db (by omega) h4 h5 (by omega)]
 rfl
theorem rest_rt {l : List Nd} (hl : BrOk l) (he : ∀ y ∈ l, exprK y.k = true → ExOk z y) (hb : ∀ y ∈ l, y.k = 0 → BlOk z y) : ∀ {d o p f k : Nat} {acc : List Nd} {c b : Nd}, (∀ y ∈ l, deepN d y = true) → deepN d c = true → deepN d b = true → ExOk z c → BlOk z b → o + 1 + d ≤ 100 →
  Ws z p (tellN c ++ kwW tThen :: (tellN b ++ restT (l.map tellN))) → 10 * (z.ws.length - p) + 9 ≤ f → l.length < k →
  ∃ l1 q, branchL z (pz z f) k ⟨p, o⟩ acc = .ok (l1, ⟨q, o⟩) ∧ p ≤ q ∧ ((l1 = acc ++ (c :: b :: l) ∧ Hd z q (kwW tEnd) ∧ q + 1 = p + (tellN c ++ kwW tThen :: (tellN b ++ restT (l.map tellN))).length) ∨
   ∃ e, acc ++ (c :: b :: l) = l1 ++ [e] ∧ e ∈ l ∧ e.k = 0 ∧ Ws z q (kwW tElse :: (tellN e ++ [kwW tEnd])) ∧ q + (tellN e).length + 2 = p + (tellN c ++ kwW tThen :: (tellN b ++ restT (l.map tellN))).length) := by
 intro d o p f k acc c b hdl hdc hdb hec hbb ho hw hf hk
 match l, hl with
 | [], _ =>
  obtain ⟨k, rfl⟩ : ∃ k', k = k' + 1 := ⟨k - 1, by omega⟩
  simp only [List.map_nil, restT] at hw ⊢
  obtain ⟨h1, h2⟩ := hw.app
  obtain ⟨h2, h3⟩ := h2.cons
  obtain ⟨h3, h4⟩ := h3.app
  have h4 := h4.cons.1
  have g1 := hec d o p f hdc (by omega) h1 (h2.fol (by decide)) (by omega)
  have g2 := opened_rt hbb (o := o) (f := f) hdb ho h3 (h4.ends (.inl rfl)) (by omega)
  refine ⟨acc ++ [c] ++ [b], p + (tellN c).length + 1 + (tellN b).length, ?_, by omega, .inl ⟨by simp, h4, by simp; omega⟩⟩
  unfold branchL
  simp only [g1, want_rt (show isW z (p + (tellN c).length) tThen = true by rw [h2.is]; decide), g2]
  rw [if_neg (by rw [h4.is]; decide)]
 | [e], hl =>
  obtain ⟨k, rfl⟩ : ∃ k', k = k' + 1 := ⟨k - 1, by omega⟩
  simp only [List.map_cons, List.map_nil, restT] at hw ⊢
  obtain ⟨h1, h2⟩ := hw.app
  obtain ⟨h2, h3⟩ := h2.cons
  obtain ⟨h3, h4⟩ := h3.app
  have h4' := h4.cons.1
  have g1 := hec d o p f hdc (by omega) h1 (h2.fol (by decide)) (by omega)
  have g2 := opened_rt hbb (o := o) (f := f) hdb ho h3 (h4'.ends (.inr (.inl rfl))) (by omega)
  refine ⟨acc ++ [c] ++ [b], p + (tellN c).length + 1 + (tellN b).length, ?_, by omega, .inr ⟨e, by simp, by simp, hl, h4, by simp; omega⟩⟩
  unfold branchL
  simp only [g1, want_rt (show isW z (p + (tellN c).length) tThen = true by rw [h2.is]; decide), g2]
  rw [if_neg (by rw [h4'.is]; decide)]
 | c2 :: b2 :: l, hl =>
  obtain ⟨k, rfl⟩ : ∃ k', k = k' + 1 := ⟨k - 1, by omega⟩
  obtain ⟨hc2, hb2, hl2⟩ := hl
  simp only [List.map_cons, restT] at hw ⊢
  obtain ⟨h1, h2⟩ := hw.app
  obtain ⟨h2, h3⟩ := h2.cons
  obtain ⟨h3, h4⟩ := h3.app
  obtain ⟨h4, h5⟩ := h4.cons
  have hlt := h4.lt
  have g1 := hec d o p f hdc (by omega) h1 (h2.fol (by decide)) (by omega)
  have g2 := opened_rt hbb (o := o) (f := f) hdb ho h3 (h4.ends (.inr (.inr rfl))) (by omega)
  obtain ⟨l1, q, r1, r2, r3⟩ := rest_rt hl2 (fun y hy => he y (by simp [hy])) (fun y hy => hb y (by simp [hy])) (d := d) (o := o) (f := f) (k := k) (acc := acc ++ [c] ++ [b]) (fun y hy => hdl y (by simp [hy])) (hdl c2 (by simp)) (hdl b2 (by simp)) (he c2 (by simp) hc2) (hb b2 (by simp) hb2) ho h5 (by omega) (by simp only [List.length_cons] at hk; omega)
  refine ⟨l1, q, ?_, by omega, ?_⟩
  ·unfold branchL
   simp only [g1, want_rt (show isW z (p + (tellN c).length) tThen = true by rw [h2.is]; decide), g2]
   rw [if_pos (by rw [h4.is]; decide)]
   exact r1
  ·rcases r3 with ⟨a1, a2, a3⟩ | ⟨e, a1, a2, a3, a4, a5⟩
   ·exact .inl ⟨by rw [a1]; simp, a2, by rw [a3]; simp; omega⟩
   ·exact .inr ⟨e, by rw [← a1]; simp, by simp [a2], a3, a4, by rw [a5]; simp; omega⟩
theorem rest_len : ∀ l : List (List Wd), l.length ≤ (restT l).length
 | [] => by simp
 | [e] => by simp only [restT, List.length_cons, List.length_append, List.length_nil]; omega
 | c :: b :: l => by have := rest_len l; simp only [restT, List.length_cons, List.length_append]; omega
theorem st_if {c b : Nd} {l : List Nd} (hl : BrOk l) (hec : ExOk z c) (hbb : BlOk z b) (he : ∀ y ∈ l, exprK y.k = true → ExOk z y) (hb : ∀ y ∈ l, y.k = 0 → BlOk z y) : StOk z (.mk 4 eB eB 0 [] (c :: b :: l)) := by
 intro d o p f hd ho hw hf hn
 obtain ⟨hd1, hdk⟩ := deepN_kids hd
 simp only [Nd.kids] at hdk
 obtain ⟨f, rfl⟩ : ∃ f', f = f' + 1 := ⟨f - 1, by omega⟩
 rw [st_eq]
 rw [tell_if] at hw hf ⊢
 obtain ⟨h1, h2⟩ := hw.cons
 have hlt := h1.lt
 have hle := h2.le (by simp only [List.length_append, List.length_cons]; omega)
 have hlen : p + (kwW tIf :: (tellN c ++ kwW tThen :: (tellN b ++ restT (l.map tellN)))).length = p + 1 + (tellN c ++ kwW tThen :: (tellN b ++ restT (l.map tellN))).length := by simp only [List.length_cons]; omega
 rw [hlen]
 clear hlen
 have hrl := rest_len (l.map tellN)
 rw [List.length_map] at hrl
 obtain ⟨l1, q, r1, r2, r3⟩ := rest_rt hl he hb (d := d - 1) (o := o) (p := p + 1) (f := f) (k := z.ws.length + 1) (acc := []) (fun y hy => hdk y (by simp [hy])) (hdk c (by simp)) (hdk b (by simp)) hec hbb (by omega) h2 (by omega) (by
  simp only [List.length_append, List.length_cons] at hle
  omega)
 unfold stmtR
 rw [if_neg (by rw [h1.is]; decide), if_neg (by rw [h1.is]; decide), if_pos (by rw [h1.is]; decide)]
 unfold choiceR
 simp only [r1]
 rcases r3 with ⟨a1, a2, a3⟩ | ⟨e, a1, a2, a3, a4, a5⟩
 ·rw [if_neg (by rw [a2.is]; decide)]
  simp only [want_rt (show isW z q tEnd = true by rw [a2.is]; decide)]
  rw [a1, a3]
  rfl
 ·obtain ⟨g1, g2⟩ := a4.cons
  obtain ⟨g2, g3⟩ := g2.app
  have g3 := g3.cons.1
  rw [if_pos (by rw [g1.is]; decide)]
  simp only [opened_rt (hb e a2 a3) (d := d - 1) (o := o) (f := f) (hdk e (by simp [a2])) (by omega) g2 (g3.ends (.inl rfl)) (by omega), want_rt (show isW z (q + 1 + (tellN e).length) tEnd = true by rw [g3.is]; decide)]
  rw [← a1, ← a5, show q + 1 + (tellN e).length + 1 = q + (tellN e).length + 2 by omega]
  rfl
theorem for_end {c : Nd} (hc : BlOk z c) {s : ByteArray} {l : List Nd} {d o p f : Nat} (hd : deepN d c = true) (ho : o + 1 + d ≤ 100) (hw : Ws z p (kwW tDo :: (tellN c ++ [kwW tEnd]))) (hf : 10 * (z.ws.length - p) + 9 ≤ f) :
  loopE z (pz z f) s l ⟨p, o⟩ = .ok (ndL 6 [s] (l ++ [c]), ⟨p + 1 + (tellN c).length + 1, o⟩) := by
 obtain ⟨h1, h2⟩ := hw.cons
 obtain ⟨h2, h3⟩ := h2.app
 have h3 := h3.cons.1
 unfold loopE
 simp only [want_rt (show isW z p tDo = true by rw [h1.is]; decide), ended_rt hc (o := o) (f := f) hd ho h2 h3 (by omega)]
theorem st_for3 {s : ByteArray} {a b c : Nd} (ha : ExOk z a) (hb : ExOk z b) (hc : BlOk z c) : StOk z (.mk 6 eB eB 0 [s] [a, b, c]) := by
 intro d o p f hd ho hw hf hn
 obtain ⟨hd1, hdk⟩ := deepN_kids hd
 have da := hdk a (by simp [Nd.kids])
 have db := hdk b (by simp [Nd.kids])
 have dc := hdk c (by simp [Nd.kids])
 obtain ⟨f, rfl⟩ : ∃ f', f = f' + 1 := ⟨f - 1, by omega⟩
 rw [st_eq]
 rw [tell_for3] at hw hf ⊢
 obtain ⟨h1, h2⟩ := hw.cons
 obtain ⟨h2, h3⟩ := h2.cons
 obtain ⟨h3, h4⟩ := h3.cons
 obtain ⟨h4, h5⟩ := h4.app
 obtain ⟨h5, h6⟩ := h5.cons
 obtain ⟨h6, h7⟩ := h6.app
 have h7' := h7.cons.1
 have hlt := h1.lt
 unfold stmtR
 rw [if_neg (by rw [h1.is]; decide), if_neg (by rw [h1.is]; decide), if_neg (by rw [h1.is]; decide), if_neg (by rw [h1.is]; decide), if_pos (by rw [h1.is]; decide)]
 unfold loopR
 simp only [name_rt h2, want_rt (show isW z (p + 1 + 1) [61] = true by rw [h3.is]; decide), ha (d - 1) o _ f da (by omega) h4 (h5.fol (by decide)) (by omega), want_rt (show isW z (p + 1 + 1 + 1 + (tellN a).length) [44] = true by rw [h5.is]; decide),
  hb (d - 1) o _ f db (by omega) h6 (h7'.fol (by decide)) (by omega)]
 rw [if_neg (by rw [h7'.is]; decide), for_end hc (d := d - 1) (o := o) (f := f) dc (by omega) h7 (by omega)]
 have hlen : p + (kwW tFor :: nmW s :: sgW [61] :: (tellN a ++ sgW [44] :: (tellN b ++ kwW tDo :: (tellN c ++ [kwW tEnd])))).length = p + 1 + 1 + 1 + (tellN a).length + 1 + (tellN b).length + 1 + (tellN c).length + 1 := by simp; omega
 rw [hlen]
 rfl
theorem st_for4 {s : ByteArray} {a b e c : Nd} (ha : ExOk z a) (hb : ExOk z b) (he : ExOk z e) (hc : BlOk z c) : StOk z (.mk 6 eB eB 0 [s] [a, b, e, c]) := by
 intro d o p f hd ho hw hf hn
 obtain ⟨hd1, hdk⟩ := deepN_kids hd
 have da := hdk a (by simp [Nd.kids])
 have db := hdk b (by simp [Nd.kids])
 have de := hdk e (by simp [Nd.kids])
 have dc := hdk c (by simp [Nd.kids])
 obtain ⟨f, rfl⟩ : ∃ f', f = f' + 1 := ⟨f - 1, by omega⟩
 rw [st_eq]
 rw [tell_for4] at hw hf ⊢
 obtain ⟨h1, h2⟩ := hw.cons
 obtain ⟨h2, h3⟩ := h2.cons
 obtain ⟨h3, h4⟩ := h3.cons
 obtain ⟨h4, h5⟩ := h4.app
 obtain ⟨h5, h6⟩ := h5.cons
 obtain ⟨h6, h7⟩ := h6.app
 obtain ⟨h7, h8⟩ := h7.cons
 obtain ⟨h8, h9⟩ := h8.app
 have h9' := h9.cons.1
 have hlt := h1.lt
 unfold stmtR
 rw [if_neg (by rw [h1.is]; decide), if_neg (by rw [h1.is]; decide), if_neg (by rw [h1.is]; decide), if_neg (by rw [h1.is]; decide), if_pos (by rw [h1.is]; decide)]
 unfold loopR
 simp only [name_rt h2, want_rt (show isW z (p + 1 + 1) [61] = true by rw [h3.is]; decide), ha (d - 1) o _ f da (by omega) h4 (h5.fol (by decide)) (by omega), want_rt (show isW z (p + 1 + 1 + 1 + (tellN a).length) [44] = true by rw [h5.is]; decide),
  hb (d - 1) o _ f db (by omega) h6 (h7.fol (by decide)) (by omega)]
 rw [if_pos (by rw [h7.is]; decide)]
 simp only [he (d - 1) o _ f de (by omega) h8 (h9'.fol (by decide)) (by omega)]
 rw [for_end hc (d := d - 1) (o := o) (f := f) dc (by omega) h9 (by omega)]
 have hlen : p + (kwW tFor :: nmW s :: sgW [61] :: (tellN a ++ sgW [44] :: (tellN b ++ sgW [44] :: (tellN e ++ kwW tDo :: (tellN c ++ [kwW tEnd]))))).length = p + 1 + 1 + 1 + (tellN a).length + 1 + (tellN b).length + 1 + (tellN e).length + 1 + (tellN c).length + 1 := by simp; omega
 rw [hlen]
 rfl
theorem st_break : StOk z (.mk 8 eB eB 0 [] []) := by
 intro d o p f hd ho hw hf hn
 obtain ⟨f, rfl⟩ : ∃ f', f = f' + 1 := ⟨f - 1, by omega⟩
 rw [st_eq]
 rw [tell_break] at hw hf ⊢
 have h1 := hw.cons.1
 unfold stmtR
 rw [if_neg (by rw [h1.is]; decide), if_neg (by rw [h1.is]; decide), if_neg (by rw [h1.is]; decide), if_neg (by rw [h1.is]; decide), if_neg (by rw [h1.is]; decide), if_pos (by rw [h1.is]; decide)]
 rfl
theorem st_return0 : StOk z (.mk 7 eB eB 0 [] []) := by
 intro d o p f hd ho hw hf hn
 obtain ⟨f, rfl⟩ : ∃ f', f = f' + 1 := ⟨f - 1, by omega⟩
 rw [st_eq]
 rw [tell_return0] at hw hf ⊢
 have h1 := hw.cons.1
 unfold stmtR
 rw [if_neg (by rw [h1.is]; decide), if_neg (by rw [h1.is]; decide), if_neg (by rw [h1.is]; decide), if_neg (by rw [h1.is]; decide), if_neg (by rw [h1.is]; decide), if_neg (by rw [h1.is]; decide), if_pos (by rw [h1.is]; decide)]
 unfold returnR
 rw [if_pos (by simp only [show isW z (p + 1) [59] = true by rw [show p + 1 = p + [kwW tReturn].length from rfl, hf.is]; decide, Bool.or_true, Bool.true_or])]
 rfl
theorem st_return1 {a : Nd} (ha : ExOk z a) (hh : HeadF a) : StOk z (.mk 7 eB eB 0 [] [a]) := by
 intro d o p f hd ho hw hf hn
 obtain ⟨hd1, hdk⟩ := deepN_kids hd
 have da := hdk a (by simp [Nd.kids])
 obtain ⟨f, rfl⟩ : ∃ f', f = f' + 1 := ⟨f - 1, by omega⟩
 rw [st_eq]
 rw [tell_return1] at hw hf ⊢
 obtain ⟨h1, h2⟩ := hw.cons
 have hlen : p + (kwW tReturn :: tellN a).length = p + 1 + (tellN a).length := by simp; omega
 rw [hlen] at hf ⊢
 have hlt := h1.lt
 obtain ⟨w, l, e1, e2, _⟩ := hh
 have h2' := h2
 rw [e1] at h2'
 have g := h2'.cons.1
 unfold stmtR
 rw [if_neg (by rw [h1.is]; decide), if_neg (by rw [h1.is]; decide), if_neg (by rw [h1.is]; decide), if_neg (by rw [h1.is]; decide), if_neg (by rw [h1.is]; decide), if_neg (by rw [h1.is]; decide), if_pos (by rw [h1.is]; decide)]
 unfold returnR
 rw [if_neg (by simp only [decide_eq_true g.lt, g.noE e2 (show noB [59] = true by decide), g.noE e2 (show noB tEnd = true by decide), g.noE e2 (show noB tElse = true by decide), g.noE e2 (show noB tElseif = true by decide)]; decide)]
 simp only [ha (d - 1) o (p + 1) f da (by omega) h2 (hf.fol (by decide)) (by omega)]
 rfl
theorem noSt {w : Wd} (h : Hd z p w) (hw : hdE w = true) (f o : Nat) : stmtR z (pz z f) ⟨p, o⟩ = plainR z (pz z f) ⟨p, o⟩ := by
 unfold stmtR
 rw [if_neg (by rw [h.noE hw (by decide)]; decide), if_neg (by rw [h.noE hw (by decide)]; decide), if_neg (by rw [h.noE hw (by decide)]; decide), if_neg (by rw [h.noE hw (by decide)]; decide), if_neg (by rw [h.noE hw (by decide)]; decide), if_neg (by rw [h.noE hw (by decide)]; decide), if_neg (by rw [h.noE hw (by decide)]; decide)]
theorem st_call {s : ByteArray} {l : List Nd} (hs : SpTOk z (.mk 17 s eB 0 [] l)) (hh : HeadF (.mk 17 s eB 0 [] l)) : StOk z (.mk 17 s eB 0 [] l) := by
 intro d o p f hd ho hw hf hn
 obtain ⟨f, rfl⟩ : ∃ f', f = f' + 2 := ⟨f - 2, by omega⟩
 obtain ⟨w, l', e1, e2, _⟩ := hh
 have hle := hw.le (by rw [e1]; simp)
 have g : Hd z p w := by rw [e1] at hw; exact hw.cons.1
 have hF : Fol z _ 0 := hf.fol (by decide)
 rw [show f + 2 = f + 1 + 1 from rfl, st_eq, noSt g e2]
 unfold plainR
 simp only [(hs d o p f hd ho hw hF.call (by omega)).sp.be hle hF.br hF.dot]
 rw [if_pos ⟨rfl, by rw [hf.is]; decide⟩]
theorem st_assign {a b : Nd} (hk : a.k = 15 ∨ a.k = 16) (hs : SpTOk z a) (hh : HeadF a) (hb : ExOk z b) : StOk z (.mk 2 eB eB 0 [] [a, b]) := by
 intro d o p f hd ho hw hf hn
 obtain ⟨hd1, hdk⟩ := deepN_kids hd
 have da := hdk a (by simp [Nd.kids])
 have db := hdk b (by simp [Nd.kids])
 rw [tell_assign] at hw hf ⊢
 obtain ⟨f, rfl⟩ : ∃ f', f = f' + 2 := ⟨f - 2, by omega⟩
 obtain ⟨h1, h2⟩ := hw.app
 obtain ⟨h2, h3⟩ := h2.cons
 have hlen : p + (tellN a ++ sgW [61] :: tellN b).length = p + (tellN a).length + 1 + (tellN b).length := by simp; omega
 rw [hlen] at hf ⊢
 have hlt := h2.lt
 obtain ⟨w, l', e1, e2, _⟩ := hh
 have g : Hd z p w := by rw [e1] at h1; exact h1.cons.1
 have hF : Fol z (p + (tellN a).length) 0 := h2.fol (by decide)
 have hbe := (hs (d - 1) o p f da (by omega) h1 hF.call (by omega)).sp.be (by omega) hF.br hF.dot
 rw [show f + 2 = f + 1 + 1 from rfl, st_eq, noSt g e2]
 unfold plainR
 simp only [hbe]
 rw [if_neg (by rintro ⟨h, _⟩; omega), if_pos hk]
 simp only [want_rt (show isW z (p + (tellN a).length) [61] = true by rw [h2.is]; decide), hb (d - 1) o _ (f + 1) db (by omega) h3 (hf.fol (by decide)) (by omega)]
 rfl
theorem blk_len (l : List Nd) : l.length ≤ (l.flatMap fun x => tellN x ++ [sgW [59]]).length := by
 induction l with
 | nil => simp
 | cons x l ih => simp only [List.flatMap_cons, List.length_append, List.length_cons, List.length_nil]; omega
theorem bl_block {l : List Nd} (hl : blockFrom l = true) (hs : ∀ y ∈ l, StOk z y ∧ StH y) : BlOk z (.mk 0 eB eB 0 [] l) := by
 intro d o p f hd ho hw hf hn
 obtain ⟨hd1, hdk⟩ := deepN_kids hd
 simp only [Nd.kids] at hdk
 rw [tell_block] at hw hf ⊢
 have hlen := blk_len l
 have hk : l.length < z.ws.length + 1 := by
  rcases Nat.eq_zero_or_pos l.length with h | h
  ·omega
  ·have := hw.le (by omega); omega
 unfold blockR
 rw [block_rt l _ p [] hw hf hl (fun x hx q hq h1 h2 => ?_) hk]
 ·rfl
 ·obtain ⟨g1, w, t, e1, e2⟩ := hs x hx
  refine ⟨g1 (d - 1) o q f (hdk x hx) (by omega) h1 h2 (by omega), e2 z q ?_⟩
  rw [e1] at h1
  exact h1.cons.1
end
theorem sth_kw {x : Nd} {t : List UInt8} {l : List Wd} (h : tellN x = kwW t :: l) (ht : (t == tEnd || t == tElse || t == tElseif) = false) : StH x :=
 ⟨kwW t, l, h, fun z p hp => by
  simp only [Bool.or_eq_false_iff] at ht
  refine hp.noEnds ?_ ?_ ?_ <;> (rw [hp.is]; simp [kwW, ht])⟩
theorem sth_ex {x y : Nd} {l : List Wd} (hx : tellN x = tellN y ++ l) (h : HeadF y) : StH x := by
 obtain ⟨w, t, e1, e2, _⟩ := h
 exact ⟨w, t ++ l, by rw [hx, e1]; rfl, fun z p hp => hp.noEnds (hp.noE e2 (by decide)) (hp.noE e2 (by decide)) (hp.noE e2 (by decide))⟩
structure AllS (z : Wz) (x : Nd) : Prop where
 st : stmtK x.k = true → StOk z x ∧ StH x
 bl : x.k = 0 → BlOk z x
theorem stmtK_cases {k : Int} (h : stmtK k = true) : k = 1 ∨ k = 2 ∨ k = 3 ∨ k = 4 ∨ k = 5 ∨ k = 6 ∨ k = 7 ∨ k = 8 ∨ k = 9 ∨ k = 17 := by
 simp [stmtK] at h
 omega
theorem blockFrom_k : ∀ {l : List Nd}, blockFrom l = true → ∀ y ∈ l, stmtK y.k = true
 | [], _, y, hy => by simp at hy
 | x :: l, h, y, hy => by
  simp only [blockFrom, Bool.and_eq_true] at h
  rcases List.mem_cons.1 hy with rfl | hy
  ·exact h.1.1
  ·exact blockFrom_k h.2 y hy
theorem allS (z : Wz) : ∀ x : Nd, mayN x = true → AllS z x := by
 refine Nd.ind fun x ih hm => ?_
 obtain ⟨k, a, b, n, l, m⟩ := x
 simp only [Nd.kids] at ih
 have hE := allE (z := z) _ hm
 refine ⟨fun hk => ?_, fun hk => ?_⟩
 ·rw [Nd.k_mk] at hk
  obtain ⟨hmk, hn⟩ := mayN_of hm
  have aE := fun y hy => allE (z := z) y (hmk y hy)
  have aS := fun y hy => ih y hy (hmk y hy)
  rcases stmtK_cases hk with rfl | rfl | rfl | rfl | rfl | rfl | rfl | rfl | rfl | rfl
  ·obtain ⟨s, hs, F⟩ := nodeP_of hn (by omega)
   simp [shapeP] at hs; subst hs
   obtain ⟨rfl, rfl, rfl⟩ : a = eB ∧ b = eB ∧ n = 0 := ⟨F.none rfl rfl, F.text rfl, F.num rfl⟩
   have hx := F.kids
   simp only [exprsP, List.all_eq_true] at hx
   refine ⟨st_local F.least (F.few rfl) fun y hy => (aE y hy).ex (hx y hy), ?_⟩
   cases m with
   | nil => exact sth_kw (tell_local0 l) (by decide)
   | cons y ys => exact sth_kw (tell_local l y ys) (by decide)
  ·obtain ⟨s, hs, F⟩ := nodeP_of hn (by omega)
   simp [shapeP] at hs; subst hs
   obtain ⟨rfl, rfl, rfl, rfl⟩ : a = eB ∧ b = eB ∧ n = 0 ∧ l = [] := ⟨F.none rfl rfl, F.text rfl, F.num rfl, names_0 F.most⟩
   obtain ⟨u, v, rfl, hv, hu⟩ := assign_2 F.kids
   have hu' : exprK u.k = true := by rcases hu with h | h <;> rw [h] <;> rfl
   have eu := aE u (by simp)
   exact ⟨st_assign hu (eu.spt (by rcases hu with h | h <;> rw [h] <;> rfl)) (eu.head hu') ((aE v (by simp)).ex hv), sth_ex (tell_assign u v) (eu.head hu')⟩
  ·obtain ⟨s, hs, F⟩ := nodeP_of hn (by omega)
   simp [shapeP] at hs; subst hs
   obtain ⟨rfl, rfl, rfl, rfl⟩ : a = eB ∧ b = eB ∧ n = 0 ∧ l = [] := ⟨F.none rfl rfl, F.text rfl, F.num rfl, names_0 F.most⟩
   obtain ⟨u, rfl, hu⟩ := blockAt_0 F.kids
   exact ⟨st_do ((aS u (by simp)).bl hu), sth_kw (tell_do u) (by decide)⟩
  ·obtain ⟨s, hs, F⟩ := nodeP_of hn (by omega)
   simp [shapeP] at hs; subst hs
   obtain ⟨rfl, rfl, rfl, rfl⟩ : a = eB ∧ b = eB ∧ n = 0 ∧ l = [] := ⟨F.none rfl rfl, F.text rfl, F.num rfl, names_0 F.most⟩
   obtain ⟨hb, c, d, r, rfl⟩ := branches_ok F.kids
   obtain ⟨h1, h2, h3⟩ := hb
   exact ⟨st_if h3 ((aE c (by simp)).ex h1) ((aS d (by simp)).bl h2) (fun y hy => (aE y (by simp [hy])).ex) (fun y hy => (aS y (by simp [hy])).bl), sth_kw (tell_if c d r) (by decide)⟩
  ·obtain ⟨s, hs, F⟩ := nodeP_of hn (by omega)
   simp [shapeP] at hs; subst hs
   obtain ⟨rfl, rfl, rfl, rfl⟩ : a = eB ∧ b = eB ∧ n = 0 ∧ l = [] := ⟨F.none rfl rfl, F.text rfl, F.num rfl, names_0 F.most⟩
   obtain ⟨u, v, rfl, hu, hv⟩ := blockAt_1 F.kids
   exact ⟨st_while ((aE u (by simp)).ex hu) ((aS v (by simp)).bl hv), sth_kw (tell_while u v) (by decide)⟩
  ·obtain ⟨s, hs, F⟩ := nodeP_of hn (by omega)
   simp [shapeP] at hs; subst hs
   obtain ⟨rfl, rfl, rfl⟩ : a = eB ∧ b = eB ∧ n = 0 := ⟨F.none rfl rfl, F.text rfl, F.num rfl⟩
   obtain ⟨s, rfl⟩ : ∃ s, l = [s] := by
    have h1 := F.least
    have h2 := F.most
    match l, h1, h2 with
    | [s], _, _ => exact ⟨s, rfl⟩
    | [], h1, _ => simp at h1
    | _ :: _ :: _, _, h2 => simp at h2
   have hkk := F.kids
   simp only [Bool.or_eq_true] at hkk
   rcases hkk with hkk | hkk
   ·obtain ⟨u, v, w, rfl, hu, hv, hw⟩ := blockAt_2 hkk
    exact ⟨st_for3 ((aE u (by simp)).ex hu) ((aE v (by simp)).ex hv) ((aS w (by simp)).bl hw), sth_kw (tell_for3 s u v w) (by decide)⟩
   ·obtain ⟨u, v, e, w, rfl, hu, hv, he, hw⟩ := blockAt_3 hkk
    exact ⟨st_for4 ((aE u (by simp)).ex hu) ((aE v (by simp)).ex hv) ((aE e (by simp)).ex he) ((aS w (by simp)).bl hw), sth_kw (tell_for4 s u v e w) (by decide)⟩
  ·obtain ⟨s, hs, F⟩ := nodeP_of hn (by omega)
   simp [shapeP] at hs; subst hs
   obtain ⟨rfl, rfl, rfl, rfl⟩ : a = eB ∧ b = eB ∧ n = 0 ∧ l = [] := ⟨F.none rfl rfl, F.text rfl, F.num rfl, names_0 F.most⟩
   have hkk := F.kids
   simp only [Bool.and_eq_true, decide_eq_true_eq, exprsP, List.all_eq_true] at hkk
   match m, hkk with
   | [], _ => exact ⟨st_return0, sth_kw tell_return0 (by decide)⟩
   | [u], hkk =>
    have eu := aE u (by simp)
    exact ⟨st_return1 (eu.ex (hkk.2 u (by simp))) (eu.head (hkk.2 u (by simp))), sth_kw (tell_return1 u) (by decide)⟩
   | _ :: _ :: _, hkk => exact absurd hkk.1 (by simp)
  ·obtain ⟨s, hs, F⟩ := nodeP_of hn (by omega)
   simp [shapeP] at hs; subst hs
   obtain ⟨rfl, rfl, rfl, rfl, rfl⟩ : a = eB ∧ b = eB ∧ n = 0 ∧ l = [] ∧ m = [] := ⟨F.none rfl rfl, F.text rfl, F.num rfl, names_0 F.most, countP_0 F.kids⟩
   exact ⟨st_break, sth_kw tell_break (by decide)⟩
  ·obtain ⟨s, hs, F⟩ := nodeP_of hn (by omega)
   simp [shapeP] at hs; subst hs
   obtain ⟨rfl, rfl⟩ : b = eB ∧ n = 0 := ⟨F.text rfl, F.num rfl⟩
   obtain ⟨u, rfl, hu⟩ := blockAt_0 F.kids
   exact ⟨st_func ((aS u (by simp)).bl hu), sth_kw (tell_func a l u) (by decide)⟩
  ·obtain ⟨rfl, rfl, rfl, _⟩ := may_call hm
   exact ⟨st_call (hE.spt rfl) (hE.head rfl), sth_ex (l := []) (by simp) (hE.head rfl)⟩
 ·rw [Nd.k_mk] at hk
  subst hk
  obtain ⟨hmk, hn⟩ := mayN_of hm
  obtain ⟨rfl, rfl, rfl, rfl, hb⟩ := nodeP_zero hn
  exact bl_block hb fun y hy => (ih y hy (hmk y hy)).st (blockFrom_k hb y hy)
theorem tree_rt {z : Wz} {x : Nd} (h : checkN x = true) (hw : Ws z 0 (tellN x)) (hl : z.ws.length = (tellN x).length) : treeR z = .ok x := by
 simp only [checkN, Bool.and_eq_true, beq_iff_eq] at h
 obtain ⟨⟨hk, hd⟩, hm⟩ := h
 have he : endsW z (0 + (tellN x).length) = true := by
  unfold endsW
  rw [decide_eq_false (by omega)]
  rfl
 have := (allS z x hm).bl hk 100 0 0 (10 * z.ws.length + 10) hd (by omega) hw he (by omega)
 unfold treeR
 rw [this]
 simp only
 rw [if_pos (by omega)]
end Go.Proofs.YtkbcnacjaakleaaGreatDoor
namespace Go.Proofs.YtkbcnacjaakleaaGreatDoor

def wl (w : Wd) : Nat := (toldP w).length + 1
def tlen (l : List Wd) : Nat := (l.map wl).sum
theorem tlen_nil : tlen [] = 0 := rfl
theorem tlen_cons (w : Wd) (l : List Wd) : tlen (w :: l) = wl w + tlen l := by simp [tlen]
theorem tlen_app (a b : List Wd) : tlen (a ++ b) = tlen a + tlen b := by simp [tlen]
theorem wl_kw (t : List UInt8) : wl (kwW t) = t.length + 1 := rfl
theorem wl_sg (t : List UInt8) : wl (sgW t) = t.length + 1 := rfl
theorem wl_nm (s : ByteArray) : wl (nmW s) = s.size + 1 := rfl
theorem wl_op (s : ByteArray) : wl (opW s) = s.size + 1 := by
 unfold opW
 split
 ·exact wl_kw _
 ·exact wl_sg _
theorem wl_ahead (k : Int) : wl (aheadW k) ≤ 4 := by
 unfold aheadW
 split
 ·decide
 ·split <;> decide
theorem tlen_join : ∀ l : List Wd, (joinP l).length ≤ tlen l
 | [] => by simp [joinP]
 | w :: l => by
  have h1 := join_cons w l
  have h2 := tlen_join l
  rw [tlen_cons]
  unfold wl
  omega
theorem inner_le (b : Bool) (l : List Wd) : tlen (innerT b l) ≤ tlen l + 4 := by
 unfold innerT
 split
 ·rw [tlen_cons, tlen_app, tlen_cons, tlen_nil]
  have h1 : wl (sgW [40]) = 2 := rfl
  have h2 : wl (sgW [41]) = 2 := rfl
  omega
 ·omega
def sumZ (tl : List (List Wd)) : Nat := (tl.map tlen).sum
theorem sumZ_cons (x : List Wd) (l : List (List Wd)) : sumZ (x :: l) = tlen x + sumZ l := by simp [sumZ]
theorem sumZ_app (a b : List (List Wd)) : sumZ (a ++ b) = sumZ a + sumZ b := by simp [sumZ]
theorem comma_tail : ∀ l : List (List Wd), tlen (l.flatMap fun y => sgW [44] :: y) = sumZ l + 2 * l.length
 | [] => rfl
 | x :: l => by
  have h1 : wl (sgW [44]) = 2 := rfl
  rw [List.flatMap_cons, tlen_app, tlen_cons, comma_tail l, sumZ_cons, List.length_cons]
  omega
theorem commaZ_le (l : List (List Wd)) : tlen (commaT l) ≤ sumZ l + 2 * l.length := by
 cases l with
 | nil => exact Nat.zero_le _
 | cons x l =>
  unfold commaT
  rw [tlen_app, comma_tail, sumZ_cons, List.length_cons]
  omega
theorem semi_le : ∀ l : List (List Wd), tlen (l.flatMap (· ++ [sgW [59]])) = sumZ l + 2 * l.length
 | [] => rfl
 | x :: l => by
  have h1 : wl (sgW [59]) = 2 := rfl
  rw [List.flatMap_cons, tlen_app, tlen_app, tlen_cons, tlen_nil, semi_le l, sumZ_cons, List.length_cons]
  omega
theorem rest_le : ∀ l : List (List Wd), tlen (restT l) ≤ sumZ l + 12 * l.length + 4
 | [] => by decide
 | [e] => by
  have h1 : wl (kwW tElse) = 5 := rfl
  have h2 : wl (kwW tEnd) = 4 := rfl
  simp only [restT, tlen_cons, tlen_app, tlen_nil, sumZ_cons, List.length_cons, List.length_nil]
  have h3 : sumZ [] = 0 := rfl
  omega
 | c :: b :: l => by
  have h1 : wl (kwW tElseif) = 7 := rfl
  have h2 : wl (kwW tThen) = 5 := rfl
  have h3 := rest_le l
  simp only [restT, tlen_cons, tlen_app, sumZ_cons, List.length_cons]
  omega
theorem if_le (l : List (List Wd)) : tlen (ifT l) ≤ sumZ l + 12 * l.length + 4 := by
 unfold ifT
 split
 ·rename_i c b l
  have h1 : wl (kwW tIf) = 3 := rfl
  have h2 : wl (kwW tThen) = 5 := rfl
  have h3 := rest_le l
  simp only [tlen_cons, tlen_app, sumZ_cons, List.length_cons]
  omega
 ·exact Nat.zero_le _
def wtN (x : Nd) : Nat := tlen (tellN x) + txN x + cntN x
def wL (K : Nat) (l : List Nd) : Nat := (l.map fun x => wtN x + K).sum
theorem wL_nil (K : Nat) : wL K [] = 0 := rfl
theorem wL_cons (K : Nat) (x : Nd) (l : List Nd) : wL K (x :: l) = wtN x + K + wL K l := by simp [wL]
theorem wL_app (K : Nat) (a b : List Nd) : wL K (a ++ b) = wL K a + wL K b := by simp [wL]
theorem wL_len (K : Nat) : ∀ l : List Nd, wL K l = wL 0 l + K * l.length
 | [] => by simp [wL]
 | x :: l => by rw [wL_cons, wL_cons, wL_len K l, List.length_cons, Nat.mul_succ]; omega
theorem tell_sum : ∀ l : List Nd, sumZ (tellL l) + txL l + cntL l = wL 0 l
 | [] => by simp [sumZ, tellL, txL, cntL, wL]
 | x :: l => by
  have := tell_sum l
  rw [wL_cons]
  simp only [tellL, sumZ_cons, txL, cntL]
  unfold wtN
  omega
theorem tell_len (l : List Nd) : (tellL l).length = l.length := by rw [tellL_map, List.length_map]
def nsz (l : List ByteArray) : Nat := l.length + (l.map ByteArray.size).sum
theorem wt_mk (k : Int) (nm tx : ByteArray) (n : Int) (ns : List ByteArray) (l : List Nd) :
  wtN (.mk k nm tx n ns l) = tlen (tellK k nm tx n ns (l.map Nd.k) (tellL l)) + nm.size + tx.size + nsz ns + txL l + 1 + cntL l := by
 unfold wtN nsz
 simp only [tellN, txN, cntN]
 omega
theorem names_le (l : List ByteArray) : tlen (namesT l) ≤ 3 * l.length + (l.map ByteArray.size).sum := by
 unfold namesT
 have h := commaZ_le (l.map fun s => [nmW s])
 have h2 : sumZ (l.map fun s => [nmW s]) = l.length + (l.map ByteArray.size).sum := by
  clear h
  induction l with
  | nil => rfl
  | cons x l ih =>
   rw [List.map_cons, sumZ_cons, ih, tlen_cons, tlen_nil, wl_nm, List.length_cons, List.map_cons, List.sum_cons]
   omega
 rw [List.length_map] at h
 omega
/-! ### Kinds and numbers -/
mutual
def KnN : Nd → Prop
 | .mk k _ _ n _ ks => (0 ≤ k ∧ k ≤ 24 ∧ 0 ≤ n ∧ n ≤ 9223372036854775807) ∧ KnL ks
def KnL : List Nd → Prop
 | [] => True
 | x :: l => KnN x ∧ KnL l
end
theorem kn_app : ∀ {a b : List Nd}, KnL a → KnL b → KnL (a ++ b)
 | [], b, _, h => h
 | x :: a, b, h, h2 => by
  simp only [KnL, List.cons_append] at h ⊢
  exact ⟨h.1, kn_app h.2 h2⟩
theorem kn_one {x : Nd} (h : KnN x) : KnL [x] := by simp only [KnL]; exact ⟨h, trivial⟩
theorem kn_two {x y : Nd} (h : KnN x) (g : KnN y) : KnL [x, y] := by simp only [KnL]; exact ⟨h, g, trivial⟩
theorem kn_nil : KnL [] := by simp only [KnL]
theorem kn_mk {k : Int} {nm tx : ByteArray} {n : Int} {ns : List ByteArray} {l : List Nd} (hk : 0 ≤ k ∧ k ≤ 24) (hn : 0 ≤ n ∧ n ≤ 9223372036854775807) (hl : KnL l) : KnN (.mk k nm tx n ns l) := by
 simp only [KnN]
 exact ⟨⟨hk.1, hk.2, hn.1, hn.2⟩, hl⟩
theorem kn_k {k : Int} {l : List Nd} (hk : 0 ≤ k ∧ k ≤ 24) (hl : KnL l) : KnN (ndK k l) := kn_mk hk (by decide) hl
/-! ### Trees by kinds -/
theorem wt_0 (l : List Nd) : wtN (ndK 0 l) = wL 2 l + 1 := by
 unfold ndK
 rw [wt_mk, wL_len]
 have h1 : tellK 0 eB eB 0 [] (l.map Nd.k) (tellL l) = (tellL l).flatMap (· ++ [sgW [59]]) := by simp [tellK]
 rw [h1, semi_le, tell_len]
 have h2 := tell_sum l
 have h3 : nsz [] = 0 := rfl
 have h4 : eB.size = 0 := rfl
 omega
theorem wt_1 (ns : List ByteArray) (l : List Nd) : wtN (ndL 1 ns l) ≤ wL 2 l + 4 * ns.length + 2 * (ns.map ByteArray.size).sum + 9 := by
 unfold ndL
 rw [wt_mk, wL_len]
 have h1 : tlen (tellK 1 eB eB 0 ns (l.map Nd.k) (tellL l)) ≤ sumZ (tellL l) + 2 * l.length + 3 * ns.length + (ns.map ByteArray.size).sum + 8 := by
  have e : tellK 1 eB eB 0 ns (l.map Nd.k) (tellL l) = kwW tLocal :: (namesT ns ++ (if (tellL l).isEmpty then [] else sgW [61] :: commaT (tellL l))) := by simp [tellK]
  rw [e, tlen_cons, tlen_app]
  have h2 := names_le ns
  have h3 := commaZ_le (tellL l)
  rw [tell_len] at h3
  have h4 : wl (kwW tLocal) = 6 := rfl
  have h5 : wl (sgW [61]) = 2 := rfl
  split
  ·rw [tlen_nil]; omega
  ·rw [tlen_cons]; omega
 have h2 := tell_sum l
 have h4 : eB.size = 0 := rfl
 unfold nsz
 omega
theorem wt_2 (a b : Nd) : wtN (ndK 2 [a, b]) = wtN a + wtN b + 3 := by
 unfold ndK
 rw [wt_mk]
 have e : tellK 2 eB eB 0 [] ([a, b].map Nd.k) (tellL [a, b]) = tellN a ++ sgW [61] :: tellN b := by simp [tellK, tellL]
 rw [e, tlen_app, tlen_cons]
 have h1 : wl (sgW [61]) = 2 := rfl
 have h3 : nsz [] = 0 := rfl
 have h4 : eB.size = 0 := rfl
 simp only [txL, cntL]
 unfold wtN
 omega
theorem wt_3 (b : Nd) : wtN (ndK 3 [b]) = wtN b + 8 := by
 unfold ndK
 rw [wt_mk]
 have e : tellK 3 eB eB 0 [] ([b].map Nd.k) (tellL [b]) = kwW tDo :: (tellN b ++ [kwW tEnd]) := by simp [tellK, tellL]
 rw [e, tlen_cons, tlen_app, tlen_cons, tlen_nil]
 have h1 : wl (kwW tDo) = 3 := rfl
 have h2 : wl (kwW tEnd) = 4 := rfl
 have h3 : nsz [] = 0 := rfl
 have h4 : eB.size = 0 := rfl
 simp only [txL, cntL]
 unfold wtN
 omega
theorem wt_4 (l : List Nd) : wtN (ndK 4 l) ≤ wL 12 l + 5 := by
 unfold ndK
 rw [wt_mk, wL_len]
 have e : tellK 4 eB eB 0 [] (l.map Nd.k) (tellL l) = ifT (tellL l) := by simp [tellK]
 rw [e]
 have h1 := if_le (tellL l)
 rw [tell_len] at h1
 have h2 := tell_sum l
 have h3 : nsz [] = 0 := rfl
 have h4 : eB.size = 0 := rfl
 omega
theorem wt_5 (c b : Nd) : wtN (ndK 5 [c, b]) = wtN c + wtN b + 14 := by
 unfold ndK
 rw [wt_mk]
 have e : tellK 5 eB eB 0 [] ([c, b].map Nd.k) (tellL [c, b]) = kwW tWhile :: (tellN c ++ kwW tDo :: (tellN b ++ [kwW tEnd])) := by simp [tellK, tellL]
 rw [e, tlen_cons, tlen_app, tlen_cons, tlen_app, tlen_cons, tlen_nil]
 have h0 : wl (kwW tWhile) = 6 := rfl
 have h1 : wl (kwW tDo) = 3 := rfl
 have h2 : wl (kwW tEnd) = 4 := rfl
 have h3 : nsz [] = 0 := rfl
 have h4 : eB.size = 0 := rfl
 simp only [txL, cntL]
 unfold wtN
 omega
theorem sumZ_cut (l : List (List Wd)) (x : List Wd) : sumZ (l ++ [x]).dropLast + tlen ((l ++ [x]).getLastD []) = sumZ (l ++ [x]) := by
 rw [List.dropLast_concat, sumZ_app, sumZ_cons, List.getLastD_concat]
 rfl
theorem wt_6 (nm : ByteArray) (l : List Nd) (b : Nd) : wtN (ndL 6 [nm] (l ++ [b])) ≤ wL 2 l + wtN b + 2 * nm.size + 18 := by
 unfold ndL
 rw [wt_mk, wL_len]
 have h1 : tlen (tellK 6 eB eB 0 [nm] ((l ++ [b]).map Nd.k) (tellL (l ++ [b]))) ≤ sumZ (tellL (l ++ [b])) + 2 * l.length + nm.size + 15 := by
  have e : tellK 6 eB eB 0 [nm] ((l ++ [b]).map Nd.k) (tellL (l ++ [b])) = kwW tFor :: nmW nm :: sgW [61] :: (commaT (tellL (l ++ [b])).dropLast ++ kwW tDo :: ((tellL (l ++ [b])).getLastD [] ++ [kwW tEnd])) := by simp [tellK]
  have e2 : tellL (l ++ [b]) = tellL l ++ [tellN b] := by simp [tellL_map]
  have h3 := commaZ_le (tellL l)
  rw [tell_len] at h3
  rw [e, e2]
  have h5 := sumZ_cut (tellL l) (tellN b)
  rw [List.dropLast_concat] at h5 ⊢
  simp only [tlen_cons, tlen_app, tlen_nil]
  have g0 : wl (kwW tFor) = 4 := rfl
  have g1 : wl (kwW tDo) = 3 := rfl
  have g2 : wl (kwW tEnd) = 4 := rfl
  have g3 : wl (sgW [61]) = 2 := rfl
  rw [wl_nm]
  omega
 have h2 := tell_sum (l ++ [b])
 rw [wL_app, wL_cons, wL_nil] at h2
 have h3 : nsz [nm] = 1 + nm.size := by simp [nsz]
 have h4 : eB.size = 0 := rfl
 omega
theorem wt_7 (l : List Nd) : wtN (ndK 7 l) ≤ wL 2 l + 8 := by
 unfold ndK
 rw [wt_mk, wL_len]
 have e : tellK 7 eB eB 0 [] (l.map Nd.k) (tellL l) = kwW tReturn :: commaT (tellL l) := by simp [tellK]
 rw [e, tlen_cons]
 have h1 := commaZ_le (tellL l)
 rw [tell_len] at h1
 have h0 : wl (kwW tReturn) = 7 := rfl
 have h2 := tell_sum l
 have h3 : nsz [] = 0 := rfl
 have h4 : eB.size = 0 := rfl
 omega
theorem wt_8 : wtN (ndK 8 []) = 7 := by decide +kernel
theorem wt_9 (nm : ByteArray) (ns : List ByteArray) (b : Nd) : wtN (.mk 9 nm eB 0 ns [b]) ≤ wtN b + 2 * nm.size + 4 * ns.length + 2 * (ns.map ByteArray.size).sum + 25 := by
 rw [wt_mk]
 have e : tellK 9 nm eB 0 ns ([b].map Nd.k) (tellL [b]) = kwW tLocal :: kwW tFunction :: nmW nm :: sgW [40] :: (namesT ns ++ sgW [41] :: (tellN b ++ [kwW tEnd])) := by simp [tellK, tellL]
 rw [e]
 simp only [tlen_cons, tlen_app, tlen_nil]
 have h := names_le ns
 have g0 : wl (kwW tLocal) = 6 := rfl
 have g1 : wl (kwW tFunction) = 9 := rfl
 have g2 : wl (kwW tEnd) = 4 := rfl
 have g3 : wl (sgW [40]) = 2 := rfl
 have g4 : wl (sgW [41]) = 2 := rfl
 have h4 : eB.size = 0 := rfl
 rw [wl_nm]
 simp only [txL, cntL]
 unfold wtN nsz
 omega
theorem wt_10 : wtN (ndK 10 []) = 5 ∧ wtN (ndK 11 []) = 6 ∧ wtN (ndK 12 []) = 7 := by decide +kernel
theorem wt_13 (n : Int) : wtN (ndI n) = (toldP ⟨2, [], n, 0⟩).length + 2 := by
 unfold ndI
 rw [wt_mk]
 have e : tellK 13 eB eB n [] (([] : List Nd).map Nd.k) (tellL []) = [⟨2, [], n, 0⟩] := by simp [tellK]
 rw [e, tlen_cons, tlen_nil]
 have h3 : nsz [] = 0 := rfl
 have h4 : eB.size = 0 := rfl
 simp only [txL, cntL]
 unfold wl
 omega
theorem wt_14 (s : ByteArray) : wtN (ndT s) ≤ 5 * s.size + 4 ∧ wtN (ndT s) = (quoteP s.data.toList).length + s.size + 2 := by
 unfold ndT
 rw [wt_mk]
 have e : tellK 14 eB s 0 [] (([] : List Nd).map Nd.k) (tellL []) = [⟨3, s.data.toList, 0, 0⟩] := by simp [tellK]
 rw [e, tlen_cons, tlen_nil]
 have h3 : nsz [] = 0 := rfl
 have h4 : eB.size = 0 := rfl
 have h5 := quote_len s.data.toList
 have h6 : s.data.toList.length = s.size := rfl
 have h7 : wl ⟨3, s.data.toList, 0, 0⟩ = (quoteP s.data.toList).length + 1 := rfl
 simp only [txL, cntL]
 omega
theorem wt_15 (s : ByteArray) : wtN (ndS 15 s []) = 2 * s.size + 2 := by
 unfold ndS
 rw [wt_mk]
 have e : tellK 15 s eB 0 [] (([] : List Nd).map Nd.k) (tellL []) = [nmW s] := by simp [tellK]
 rw [e, tlen_cons, tlen_nil, wl_nm]
 have h3 : nsz [] = 0 := rfl
 have h4 : eB.size = 0 := rfl
 simp only [txL, cntL]
 omega
theorem wt_16 (a b : Nd) : wtN (ndK 16 [a, b]) ≤ wtN a + wtN b + 9 := by
 unfold ndK
 rw [wt_mk]
 have e : tellK 16 eB eB 0 [] ([a, b].map Nd.k) (tellL [a, b]) = innerT (!(a.k == 15 || a.k == 17 || a.k == 16)) (tellN a) ++ sgW [91] :: (tellN b ++ [sgW [93]]) := by simp [tellK, tellL]
 rw [e]
 have h := inner_le (!(a.k == 15 || a.k == 17 || a.k == 16)) (tellN a)
 simp only [tlen_cons, tlen_app, tlen_nil]
 have g3 : wl (sgW [91]) = 2 := rfl
 have g4 : wl (sgW [93]) = 2 := rfl
 have h3 : nsz [] = 0 := rfl
 have h4 : eB.size = 0 := rfl
 simp only [txL, cntL]
 unfold wtN
 omega
theorem wt_17 (s : ByteArray) (l : List Nd) : wtN (ndS 17 s l) ≤ wL 2 l + 2 * s.size + 6 := by
 unfold ndS
 rw [wt_mk, wL_len]
 have e : tellK 17 s eB 0 [] (l.map Nd.k) (tellL l) = nmW s :: sgW [40] :: (commaT (tellL l) ++ [sgW [41]]) := by simp [tellK]
 rw [e]
 simp only [tlen_cons, tlen_app, tlen_nil]
 have h1 := commaZ_le (tellL l)
 rw [tell_len] at h1
 have h2 := tell_sum l
 have g3 : wl (sgW [40]) = 2 := rfl
 have g4 : wl (sgW [41]) = 2 := rfl
 have h3 : nsz [] = 0 := rfl
 have h4 : eB.size = 0 := rfl
 rw [wl_nm]
 omega
theorem wt_18 (l : List Nd) : wtN (ndK 18 l) ≤ wL 2 l + 5 := by
 unfold ndK
 rw [wt_mk, wL_len]
 have e : tellK 18 eB eB 0 [] (l.map Nd.k) (tellL l) = sgW [123] :: (commaT (tellL l) ++ [sgW [125]]) := by simp [tellK]
 rw [e]
 simp only [tlen_cons, tlen_app, tlen_nil]
 have h1 := commaZ_le (tellL l)
 rw [tell_len] at h1
 have h2 := tell_sum l
 have g3 : wl (sgW [123]) = 2 := rfl
 have g4 : wl (sgW [125]) = 2 := rfl
 have h3 : nsz [] = 0 := rfl
 have h4 : eB.size = 0 := rfl
 omega
theorem wt_19 (a : Nd) : wtN (ndK 19 [a]) = wtN a + 1 := by
 unfold ndK
 rw [wt_mk]
 have e : tellK 19 eB eB 0 [] ([a].map Nd.k) (tellL [a]) = tellN a := by simp [tellK, tellL]
 rw [e]
 have h3 : nsz [] = 0 := rfl
 have h4 : eB.size = 0 := rfl
 simp only [txL, cntL]
 unfold wtN
 omega
theorem wt_20 (a b : Nd) : wtN (ndK 20 [a, b]) = wtN a + wtN b + 7 := by
 unfold ndK
 rw [wt_mk]
 have e : tellK 20 eB eB 0 [] ([a, b].map Nd.k) (tellL [a, b]) = sgW [91] :: (tellN a ++ sgW [93] :: sgW [61] :: tellN b) := by simp [tellK, tellL]
 rw [e]
 simp only [tlen_cons, tlen_app, tlen_nil]
 have g2 : wl (sgW [61]) = 2 := rfl
 have g3 : wl (sgW [91]) = 2 := rfl
 have g4 : wl (sgW [93]) = 2 := rfl
 have h3 : nsz [] = 0 := rfl
 have h4 : eB.size = 0 := rfl
 simp only [txL, cntL]
 unfold wtN
 omega
theorem wt_21 (op : List UInt8) (a b : Nd) : wtN (binN op a b) ≤ wtN a + wtN b + 2 * op.length + 10 := by
 unfold binN ndS
 rw [wt_mk]
 have e : tellK 21 ⟨op.toArray⟩ eB 0 [] ([a, b].map Nd.k) (tellL [a, b]) = innerT (madeK a.k) (tellN a) ++ opW ⟨op.toArray⟩ :: innerT (madeK b.k) (tellN b) := by simp [tellK, tellL]
 rw [e]
 have h1 := inner_le (madeK a.k) (tellN a)
 have h2 := inner_le (madeK b.k) (tellN b)
 simp only [tlen_cons, tlen_app, tlen_nil]
 have h3 : nsz [] = 0 := rfl
 have h4 : eB.size = 0 := rfl
 have h5 : (⟨op.toArray⟩ : ByteArray).size = op.length := rfl
 rw [wl_op, h5]
 simp only [txL, cntL]
 unfold wtN
 omega
theorem wt_ahead (k : Int) (hk : k = 22 ∨ k = 23 ∨ k = 24) (a : Nd) : wtN (ndK k [a]) ≤ wtN a + 9 := by
 unfold ndK
 rw [wt_mk]
 have e : tellK k eB eB 0 [] ([a].map Nd.k) (tellL [a]) = aheadW k :: innerT (madeK a.k) (tellN a) := by
  rcases hk with rfl | rfl | rfl <;> simp [tellK, tellL]
 rw [e]
 have h1 := inner_le (madeK a.k) (tellN a)
 have h2 := wl_ahead k
 simp only [tlen_cons, tlen_app, tlen_nil]
 have h3 : nsz [] = 0 := rfl
 have h4 : eB.size = 0 := rfl
 simp only [txL, cntL]
 unfold wtN
 omega
end Go.Proofs.YtkbcnacjaakleaaGreatDoor
