/- What is told is read as the tree: expressions. What is told is read as the tree: tables, operators, all expressions. -/
import Derived.Test.YtkbcnacjaakleaaGreatDoorYP28
set_option maxRecDepth 100000
set_option maxHeartbeats 32000000
set_option linter.unusedVariables false
set_option linter.unusedSimpArgs false
namespace Go.Proofs.YtkbcnacjaakleaaGreatDoor

theorem tell_int (n : Int) : tellN (.mk 13 eB eB n [] []) = [⟨2, [], n, 0⟩] := by simp [tellN, tellK, tellL]
theorem tell_text (t : ByteArray) : tellN (.mk 14 eB t 0 [] []) = [⟨3, t.data.toList, 0, 0⟩] := by simp [tellN, tellK, tellL]
theorem tell_name (s : ByteArray) : tellN (.mk 15 s eB 0 [] []) = [nmW s] := by simp [tellN, tellK, tellL]
theorem tell_nil : tellN (.mk 10 eB eB 0 [] []) = [kwW tNil] := by simp [tellN, tellK, tellL]
theorem tell_true : tellN (.mk 11 eB eB 0 [] []) = [kwW tTrue] := by simp [tellN, tellK, tellL]
theorem tell_false : tellN (.mk 12 eB eB 0 [] []) = [kwW tFalse] := by simp [tellN, tellK, tellL]
theorem tell_index (a b : Nd) : tellN (.mk 16 eB eB 0 [] [a, b]) = innerT (!(a.k == 15 || a.k == 17 || a.k == 16)) (tellN a) ++ sgW [91] :: (tellN b ++ [sgW [93]]) := by simp [tellN, tellK, tellL]
theorem tell_call (s : ByteArray) (l : List Nd) : tellN (.mk 17 s eB 0 [] l) = nmW s :: sgW [40] :: (commaT (l.map tellN) ++ [sgW [41]]) := by simp [tellN, tellK, tellL_map]
theorem tell_table (l : List Nd) : tellN (.mk 18 eB eB 0 [] l) = sgW [123] :: (commaT (l.map tellN) ++ [sgW [125]]) := by simp [tellN, tellK, tellL_map]
theorem tell_item (a : Nd) : tellN (.mk 19 eB eB 0 [] [a]) = tellN a := by simp [tellN, tellK, tellL]
theorem tell_pair (a b : Nd) : tellN (.mk 20 eB eB 0 [] [a, b]) = sgW [91] :: (tellN a ++ sgW [93] :: sgW [61] :: tellN b) := by simp [tellN, tellK, tellL]
theorem tell_bin (s : ByteArray) (a b : Nd) : tellN (.mk 21 s eB 0 [] [a, b]) = innerT (madeK a.k) (tellN a) ++ opW s :: innerT (madeK b.k) (tellN b) := by simp [tellN, tellK, tellL]
theorem tell_ahead {k : Int} (hk : k = 22 ∨ k = 23 ∨ k = 24) (a : Nd) : tellN (.mk k eB eB 0 [] [a]) = aheadW k :: innerT (madeK a.k) (tellN a) := by
 rcases hk with rfl | rfl | rfl <;> simp [tellN, tellK, tellL]
theorem oper_mem {s : ByteArray} (h : operB s.data.toList = true) : ∃ lv, lv < 6 ∧ (bondL.getD lv []).contains s.data.toList = true := by
 unfold operB at h
 rw [List.any_eq_true] at h
 obtain ⟨l, hl, h⟩ := h
 obtain ⟨i, hi, rfl⟩ := List.getElem_of_mem hl
 refine ⟨i, hi, ?_⟩
 rw [List.getD_eq_getElem?_getD, List.getElem?_eq_getElem hi]
 exact h
def opT (t : List UInt8) : Wd := if t == tAnd || t == tOr then kwW t else sgW t
theorem opW_t (s : ByteArray) : opW s = opT s.data.toList := rfl
theorem op_facts : (List.range 6).all (fun lv => (bondL.getD lv []).all fun t => folB (opT t) (lv + 1) && ((opT t).k == 1 || (opT t).k == 4) && (opT t).t == t && !(t == [61])) = true := by decide
theorem op_fol {lv : Nat} (hl : lv < 6) {t : List UInt8} (h : (bondL.getD lv []).contains t = true) : folB (opT t) (lv + 1) = true ∧ ((opT t).k = 1 ∨ (opT t).k = 4) ∧ (opT t).t = t ∧ t ≠ [61] := by
 have h1 := List.all_eq_true.1 op_facts lv (List.mem_range.2 hl)
 have h2 := List.all_eq_true.1 h1 t (by simpa using h)
 simp only [Bool.and_eq_true, Bool.or_eq_true, beq_iff_eq, Bool.not_eq_true', beq_eq_false_iff_ne, ne_eq] at h2
 exact ⟨h2.1.1.1, h2.1.1.2, h2.1.2, h2.2⟩
theorem exprK_cases {k : Int} (h : exprK k = true) : k = 10 ∨ k = 11 ∨ k = 12 ∨ k = 13 ∨ k = 14 ∨ k = 15 ∨ k = 16 ∨ k = 17 ∨ k = 18 ∨ k = 21 ∨ (k = 22 ∨ k = 23 ∨ k = 24) := by
 simp [exprK] at h
 omega
theorem mayN_of {k : Int} {a b : ByteArray} {n : Int} {l : List ByteArray} {m : List Nd} (h : mayN (.mk k a b n l m) = true) : (∀ y ∈ m, mayN y = true) ∧ nodeP k a b n l m = true := by
 simp only [mayN, Bool.and_eq_true] at h
 exact ⟨mayL_mem h.1, h.2⟩
theorem names_0 {l : List ByteArray} (h : l.length ≤ 0) : l = [] := List.length_eq_zero_iff.1 (by omega)
theorem may_small {k : Int} {a b : ByteArray} {n : Int} {l : List ByteArray} {m : List Nd} (h : mayN (.mk k a b n l m) = true) (hk : k = 10 ∨ k = 11 ∨ k = 12) : a = eB ∧ b = eB ∧ n = 0 ∧ l = [] ∧ m = [] := by
 obtain ⟨hm, hn⟩ := mayN_of h
 obtain ⟨s, hs, F⟩ := nodeP_of hn (by omega)
 rcases hk with rfl | rfl | rfl <;> (simp [shapeP] at hs; subst hs; exact ⟨F.none rfl rfl, F.text rfl, F.num rfl, names_0 F.most, countP_0 F.kids⟩)
theorem may_int {a b : ByteArray} {n : Int} {l : List ByteArray} {m : List Nd} (h : mayN (.mk 13 a b n l m) = true) : a = eB ∧ b = eB ∧ l = [] ∧ m = [] := by
 obtain ⟨hm, hn⟩ := mayN_of h
 obtain ⟨s, hs, F⟩ := nodeP_of hn (by omega)
 simp [shapeP] at hs; subst hs; exact ⟨F.none rfl rfl, F.text rfl, names_0 F.most, countP_0 F.kids⟩
theorem may_text {a b : ByteArray} {n : Int} {l : List ByteArray} {m : List Nd} (h : mayN (.mk 14 a b n l m) = true) : a = eB ∧ n = 0 ∧ l = [] ∧ m = [] := by
 obtain ⟨hm, hn⟩ := mayN_of h
 obtain ⟨s, hs, F⟩ := nodeP_of hn (by omega)
 simp [shapeP] at hs; subst hs; exact ⟨F.none rfl rfl, F.num rfl, names_0 F.most, countP_0 F.kids⟩
theorem may_name {a b : ByteArray} {n : Int} {l : List ByteArray} {m : List Nd} (h : mayN (.mk 15 a b n l m) = true) : b = eB ∧ n = 0 ∧ l = [] ∧ m = [] := by
 obtain ⟨hm, hn⟩ := mayN_of h
 obtain ⟨s, hs, F⟩ := nodeP_of hn (by omega)
 simp [shapeP] at hs; subst hs; exact ⟨F.text rfl, F.num rfl, names_0 F.most, countP_0 F.kids⟩
theorem may_index {a b : ByteArray} {n : Int} {l : List ByteArray} {m : List Nd} (h : mayN (.mk 16 a b n l m) = true) : a = eB ∧ b = eB ∧ n = 0 ∧ l = [] ∧ ∃ u v, m = [u, v] ∧ exprK u.k = true ∧ exprK v.k = true ∧ mayN u = true ∧ mayN v = true := by
 obtain ⟨hm, hn⟩ := mayN_of h
 obtain ⟨s, hs, F⟩ := nodeP_of hn (by omega)
 simp [shapeP] at hs; subst hs
 obtain ⟨u, v, rfl, h1, h2⟩ := countP_2 F.kids
 exact ⟨F.none rfl rfl, F.text rfl, F.num rfl, names_0 F.most, u, v, rfl, h1, h2, hm u (by simp), hm v (by simp)⟩
theorem may_call {a b : ByteArray} {n : Int} {l : List ByteArray} {m : List Nd} (h : mayN (.mk 17 a b n l m) = true) : b = eB ∧ n = 0 ∧ l = [] ∧ ∀ y ∈ m, mayN y = true ∧ exprK y.k = true := by
 obtain ⟨hm, hn⟩ := mayN_of h
 obtain ⟨s, hs, F⟩ := nodeP_of hn (by omega)
 simp [shapeP] at hs; subst hs
 have := F.kids
 simp only [exprsP, List.all_eq_true] at this
 exact ⟨F.text rfl, F.num rfl, names_0 F.most, fun y hy => ⟨hm y hy, this y hy⟩⟩
theorem may_table {a b : ByteArray} {n : Int} {l : List ByteArray} {m : List Nd} (h : mayN (.mk 18 a b n l m) = true) : a = eB ∧ b = eB ∧ n = 0 ∧ l = [] ∧ ∀ y ∈ m, mayN y = true ∧ (y.k = 19 ∨ y.k = 20) := by
 obtain ⟨hm, hn⟩ := mayN_of h
 obtain ⟨s, hs, F⟩ := nodeP_of hn (by omega)
 simp [shapeP] at hs; subst hs
 have := F.kids
 simp only [tableP, List.all_eq_true, Bool.or_eq_true, beq_iff_eq] at this
 exact ⟨F.none rfl rfl, F.text rfl, F.num rfl, names_0 F.most, fun y hy => ⟨hm y hy, this y hy⟩⟩
theorem may_item {a b : ByteArray} {n : Int} {l : List ByteArray} {m : List Nd} (h : mayN (.mk 19 a b n l m) = true) : a = eB ∧ b = eB ∧ n = 0 ∧ l = [] ∧ ∃ u, m = [u] ∧ exprK u.k = true ∧ mayN u = true := by
 obtain ⟨hm, hn⟩ := mayN_of h
 obtain ⟨s, hs, F⟩ := nodeP_of hn (by omega)
 simp [shapeP] at hs; subst hs
 obtain ⟨u, rfl, h1⟩ := countP_1 F.kids
 exact ⟨F.none rfl rfl, F.text rfl, F.num rfl, names_0 F.most, u, rfl, h1, hm u (by simp)⟩
theorem may_pair {a b : ByteArray} {n : Int} {l : List ByteArray} {m : List Nd} (h : mayN (.mk 20 a b n l m) = true) : a = eB ∧ b = eB ∧ n = 0 ∧ l = [] ∧ ∃ u v, m = [u, v] ∧ exprK u.k = true ∧ exprK v.k = true ∧ mayN u = true ∧ mayN v = true := by
 obtain ⟨hm, hn⟩ := mayN_of h
 obtain ⟨s, hs, F⟩ := nodeP_of hn (by omega)
 simp [shapeP] at hs; subst hs
 obtain ⟨u, v, rfl, h1, h2⟩ := countP_2 F.kids
 exact ⟨F.none rfl rfl, F.text rfl, F.num rfl, names_0 F.most, u, v, rfl, h1, h2, hm u (by simp), hm v (by simp)⟩
theorem may_bin {a b : ByteArray} {n : Int} {l : List ByteArray} {m : List Nd} (h : mayN (.mk 21 a b n l m) = true) : operB a.data.toList = true ∧ b = eB ∧ n = 0 ∧ l = [] ∧ ∃ u v, m = [u, v] ∧ exprK u.k = true ∧ exprK v.k = true ∧ mayN u = true ∧ mayN v = true := by
 obtain ⟨hm, hn⟩ := mayN_of h
 obtain ⟨s, hs, F⟩ := nodeP_of hn (by omega)
 simp [shapeP] at hs; subst hs
 obtain ⟨u, v, rfl, h1, h2⟩ := countP_2 F.kids
 exact ⟨F.oper rfl, F.text rfl, F.num rfl, names_0 F.most, u, v, rfl, h1, h2, hm u (by simp), hm v (by simp)⟩
theorem may_ahead {k : Int} (hk : k = 22 ∨ k = 23 ∨ k = 24) {a b : ByteArray} {n : Int} {l : List ByteArray} {m : List Nd} (h : mayN (.mk k a b n l m) = true) : a = eB ∧ b = eB ∧ n = 0 ∧ l = [] ∧ ∃ u, m = [u] ∧ exprK u.k = true ∧ mayN u = true := by
 obtain ⟨hm, hn⟩ := mayN_of h
 obtain ⟨s, hs, F⟩ := nodeP_of hn (by omega)
 have hs2 : s = ⟨false, false, false, false, 0, 0, countP 1⟩ := by rcases hk with rfl | rfl | rfl <;> (simp [shapeP] at hs; exact hs.symm)
 subst hs2
 obtain ⟨u, rfl, h1⟩ := countP_1 F.kids
 exact ⟨F.none rfl rfl, F.text rfl, F.num rfl, names_0 F.most, u, rfl, h1, hm u (by simp)⟩
def HeadF (x : Nd) : Prop := ∃ w l, tellN x = w :: l ∧ hdE w = true ∧ (madeK x.k = false → hdB w = true) ∧ (w.k = 0 → ∀ w2 l2, l = w2 :: l2 → ¬ (w2.k = 4 ∧ w2.t = [61]))
theorem head_all : ∀ x : Nd, mayN x = true → exprK x.k = true → HeadF x := by
 refine Nd.ind fun x ih hm hk => ?_
 obtain ⟨k, a, b, n, l, m⟩ := x
 rw [Nd.k_mk] at hk
 rcases exprK_cases hk with rfl | rfl | rfl | rfl | rfl | rfl | rfl | rfl | rfl | rfl | hk
 ·obtain ⟨rfl, rfl, rfl, rfl, rfl⟩ := may_small hm (by omega)
  exact ⟨kwW tNil, [], tell_nil, by decide, fun _ => by decide, fun h => by cases h⟩
 ·obtain ⟨rfl, rfl, rfl, rfl, rfl⟩ := may_small hm (by omega)
  exact ⟨kwW tTrue, [], tell_true, by decide, fun _ => by decide, fun h => by cases h⟩
 ·obtain ⟨rfl, rfl, rfl, rfl, rfl⟩ := may_small hm (by omega)
  exact ⟨kwW tFalse, [], tell_false, by decide, fun _ => by decide, fun h => by cases h⟩
 ·obtain ⟨rfl, rfl, rfl, rfl⟩ := may_int hm
  exact ⟨_, [], tell_int n, rfl, fun _ => rfl, fun h => by cases h⟩
 ·obtain ⟨rfl, rfl, rfl, rfl⟩ := may_text hm
  exact ⟨_, [], tell_text b, rfl, fun _ => rfl, fun h => by cases h⟩
 ·obtain ⟨rfl, rfl, rfl, rfl⟩ := may_name hm
  exact ⟨_, [], tell_name a, rfl, fun _ => rfl, fun _ w2 l2 h => by cases h⟩
 ·obtain ⟨rfl, rfl, rfl, rfl, u, v, rfl, hu, hv, mu, mv⟩ := may_index hm
  rw [HeadF, tell_index]
  cases hb : (u.k == 15 || u.k == 17 || u.k == 16) with
  | false => exact ⟨sgW [40], _, rfl, by decide, fun _ => by decide, fun h => by cases h⟩
  | true =>
   obtain ⟨w, l, h1, h2, h3, h4⟩ := ih u (by simp [Nd.kids]) mu hu
   have hmk : madeK u.k = false := by
    simp only [Bool.or_eq_true, beq_iff_eq] at hb
    unfold madeK
    rcases hb with (hb | hb) | hb <;> rw [hb] <;> rfl
   refine ⟨w, l ++ sgW [91] :: (tellN v ++ [sgW [93]]), by simp [innerT, h1], h2, fun _ => h3 hmk, fun h w2 l2 e => ?_⟩
   cases l with
   | nil => simp only [List.nil_append, List.cons.injEq] at e; rw [← e.1]; simp [sgW]
   | cons y ys => simp only [List.cons_append, List.cons.injEq] at e; rw [← e.1]; exact h4 h y ys rfl
 ·obtain ⟨rfl, rfl, rfl, _⟩ := may_call hm
  rw [HeadF, tell_call]
  exact ⟨nmW a, _, rfl, rfl, fun _ => rfl, fun _ w2 l2 e => by simp only [List.cons.injEq] at e; rw [← e.1]; simp [sgW]⟩
 ·obtain ⟨rfl, rfl, rfl, rfl, _⟩ := may_table hm
  rw [HeadF, tell_table]
  exact ⟨sgW [123], _, rfl, by decide, fun _ => by decide, fun h => by cases h⟩
 ·obtain ⟨ho, rfl, rfl, rfl, u, v, rfl, hu, hv, mu, mv⟩ := may_bin hm
  rw [HeadF, tell_bin]
  cases hb : madeK u.k with
  | true => exact ⟨sgW [40], _, rfl, by decide, fun _ => by decide, fun h => by cases h⟩
  | false =>
   obtain ⟨w, l, h1, h2, h3, h4⟩ := ih u (by simp [Nd.kids]) mu hu
   refine ⟨w, l ++ opW a :: innerT (madeK v.k) (tellN v), by simp [innerT, h1], h2, fun h => by simp [madeK, Nd.k] at h, fun h w2 l2 e => ?_⟩
   cases l with
   | nil =>
    simp only [List.nil_append, List.cons.injEq] at e
    rw [← e.1, opW_t]
    obtain ⟨lv, hl, hc⟩ := oper_mem ho
    have := op_fol hl hc
    intro hh
    exact this.2.2.2 (this.2.2.1.symm.trans hh.2)
   | cons y ys => simp only [List.cons_append, List.cons.injEq] at e; rw [← e.1]; exact h4 h y ys rfl
 ·obtain ⟨rfl, rfl, rfl, rfl, u, rfl, hu, mu⟩ := may_ahead hk hm
  rw [HeadF, tell_ahead hk]
  refine ⟨aheadW k, _, rfl, by rcases hk with rfl | rfl | rfl <;> decide, fun h => by rcases hk with rfl | rfl | rfl <;> simp [madeK, Nd.k] at h, fun h => by rcases hk with rfl | rfl | rfl <;> simp [aheadW, kwW, sgW] at h⟩
section
variable {z : Wz}
def ExOk (z : Wz) (x : Nd) : Prop := ∀ (d o p f : Nat), deepN d x = true → o + d ≤ 100 → Ws z p (tellN x) → Fol z (p + (tellN x).length) 0 → 10 * (z.ws.length - p) + 8 ≤ f → (pz z f).ex 0 ⟨p, o⟩ = .ok (x, ⟨p + (tellN x).length, o⟩)
def SpOk (z : Wz) (x : Nd) : Prop := ∀ (d o p f : Nat), deepN d x = true → o + d ≤ 100 → Ws z p (tellN x) → isW z (p + (tellN x).length) [40] = false → 10 * (z.ws.length - p) ≤ f → Spine z (pz z f) o p (p + (tellN x).length) x
def SpTOk (z : Wz) (x : Nd) : Prop := ∀ (d o p f : Nat), deepN d x = true → o + d ≤ 100 → Ws z p (tellN x) → isW z (p + (tellN x).length) [40] = false → 10 * (z.ws.length - p) ≤ f → SpineT z (pz z f) o p (p + (tellN x).length) x
theorem SpTOk.sp {x : Nd} (h : SpTOk z x) : SpOk z x := fun d o p f h1 h2 h3 h4 h5 => (h d o p f h1 h2 h3 h4 h5).sp
def OpOk (z : Wz) (x : Nd) : Prop := ∀ (d o p f m : Nat), deepN d x = true → o + d < 100 → Ws z p (innerT (madeK x.k) (tellN x)) → m ≤ 6 → Fol z (p + (innerT (madeK x.k) (tellN x)).length) m → 10 * (z.ws.length - p) + 8 - m ≤ f →
 (pz z f).ex m ⟨p, o⟩ = .ok (x, ⟨p + (innerT (madeK x.k) (tellN x)).length, o⟩)
def ItOk (z : Wz) (x : Nd) : Prop := ∀ (d o p f : Nat), deepN d x = true → o + d ≤ 100 → Ws z p (tellN x) → Fol z (p + (tellN x).length) 0 → isW z (p + (tellN x).length) [61] = false → 10 * (z.ws.length - p) + 8 ≤ f → itemR z (pz z f) ⟨p, o⟩ = .ok (x, ⟨p + (tellN x).length, o⟩)
theorem exm_of_spine {f o p q m : Nat} {w : Wd} {x : Nd} (S : Spine z (pz z f) o p q x) (hd : Hd z p w) (hw : hdB w = true) (hq : q ≤ z.ws.length) (hm : m ≤ 6) (hf : Fol z q m) : (pz z (f + 2 + (6 - m))).ex m ⟨p, o⟩ = .ok (x, ⟨q, o⟩) :=
 ex_ups (6 - m) m (f + 2) ⟨p, o⟩ ⟨q, o⟩ x (by omega) (ex6_be hd hw (S.be hq hf.br hf.dot)) fun m' h1 h2 => hf.op m' h1 h2
theorem exm_of_sp {x : Nd} (hs : SpOk z x) (hh : HeadF x) (hmk : madeK x.k = false) (d o p f m : Nat) (hd : deepN d x = true) (ho : o + d ≤ 100) (hw : Ws z p (tellN x)) (hm : m ≤ 6) (hf : Fol z (p + (tellN x).length) m) (hn : 10 * (z.ws.length - p) + 8 - m ≤ f) :
  (pz z f).ex m ⟨p, o⟩ = .ok (x, ⟨p + (tellN x).length, o⟩) := by
 obtain ⟨w, l, h1, h2, h3, _⟩ := hh
 have hle := hw.le (by rw [h1]; simp)
 have hH : Hd z p w := by rw [h1] at hw; exact hw.cons.1
 obtain ⟨f0, rfl⟩ : ∃ f0, f = f0 + 2 + (6 - m) := ⟨f - 2 - (6 - m), by omega⟩
 exact exm_of_spine (hs d o p f0 hd ho hw hf.call (by omega)) hH (h3 hmk) hle hm hf
theorem sp_bracket {x : Nd} (he : ExOk z x) (d o p f : Nat) (hd : deepN d x = true) (ho : o + d < 100) (hw : Ws z p (sgW [40] :: (tellN x ++ [sgW [41]]))) (hn : 10 * (z.ws.length - p) ≤ f) : SpineT z (pz z f) o p (p + (tellN x).length + 2) x := by
 obtain ⟨h1, h2⟩ := hw.cons
 obtain ⟨h2, h3⟩ := h2.app
 have h3 := h3.cons.1
 have hlt := h1.lt
 have hx := he d (o + 1) (p + 1) f hd (by omega) h2 (h3.fol (by decide)) (by omega)
 have hb := bracket_rt (c := [41]) (by omega) hx (by rw [h3.is]; decide)
 refine ⟨x, p + 1 + (tellN x).length + 1, ?_, 0, by omega, fun k => ?_⟩
 ·simp only [operandR, h1.kind_no (show (sgW [40]).k ≠ 2 by decide), h1.kind_no (show (sgW [40]).k ≠ 3 by decide), h1.kind_no (show (sgW [40]).k ≠ 0 by decide), h1.is, hb]
  rfl
 ·rw [show p + 1 + (tellN x).length + 1 = p + (tellN x).length + 2 by omega]
  rfl
theorem op_of_made {x : Nd} (he : ExOk z x) (hk : madeK x.k = true) : OpOk z x := by
 intro d o p f m hd ho hw hm hf hn
 rw [hk] at hw hf ⊢
 simp only [innerT, if_true] at hw hf ⊢
 have hlen : p + (sgW [40] :: (tellN x ++ [sgW [41]])).length = p + (tellN x).length + 2 := by simp; omega
 have hle := hw.le (by simp)
 rw [hlen] at hf hle ⊢
 obtain ⟨f0, rfl⟩ : ∃ f0, f = f0 + 2 + (6 - m) := ⟨f - 2 - (6 - m), by omega⟩
 exact exm_of_spine (sp_bracket he d o p f0 hd ho hw (by omega)).sp hw.cons.1 (by decide) hle hm hf
theorem op_of_sp {x : Nd} (hs : SpOk z x) (hh : HeadF x) (hk : madeK x.k = false) : OpOk z x := by
 intro d o p f m hd ho hw hm hf hn
 rw [hk] at hw hf ⊢
 simp only [innerT, if_neg (show ¬ (false = true) by decide)] at hw hf ⊢
 exact exm_of_sp hs hh hk d o p f m hd (by omega) hw hm hf hn
theorem ex_of_sp {x : Nd} (hs : SpOk z x) (hh : HeadF x) (hk : madeK x.k = false) : ExOk z x := fun d o p f hd ho hw hf hn => exm_of_sp hs hh hk d o p f 0 hd ho hw (by omega) hf hn
theorem sp_small {t : List UInt8} {x : Nd} (ht : tellN x = [kwW t]) (hx : ∀ r p o, Hd z p (kwW t) → operandR z r ⟨p, o⟩ = .ok ((x, false), ⟨p + 1, o⟩)) : SpOk z x := by
 intro d o p f hd ho hw hf hn
 rw [ht] at hw ⊢
 exact ⟨x, p + 1, false, hx _ _ _ hw.cons.1, .inl ⟨rfl, rfl, rfl⟩⟩
theorem sp_nil : SpOk z (.mk 10 eB eB 0 [] []) := sp_small tell_nil fun r p o h => by
 simp only [operandR, h.kind_no (show (kwW tNil).k ≠ 2 by decide), h.kind_no (show (kwW tNil).k ≠ 3 by decide), h.kind_no (show (kwW tNil).k ≠ 0 by decide), h.is]
 rfl
theorem sp_true : SpOk z (.mk 11 eB eB 0 [] []) := sp_small tell_true fun r p o h => by
 simp only [operandR, h.kind_no (show (kwW tTrue).k ≠ 2 by decide), h.kind_no (show (kwW tTrue).k ≠ 3 by decide), h.kind_no (show (kwW tTrue).k ≠ 0 by decide), h.is]
 rfl
theorem sp_false : SpOk z (.mk 12 eB eB 0 [] []) := sp_small tell_false fun r p o h => by
 simp only [operandR, h.kind_no (show (kwW tFalse).k ≠ 2 by decide), h.kind_no (show (kwW tFalse).k ≠ 3 by decide), h.kind_no (show (kwW tFalse).k ≠ 0 by decide), h.is]
 rfl
theorem sp_int (n : Int) : SpOk z (.mk 13 eB eB n [] []) := by
 intro d o p f hd ho hw hf hn
 rw [tell_int] at hw ⊢
 obtain ⟨w, h1, h2, h3⟩ := hw.cons.1.kind (k := 2) rfl
 refine ⟨_, p + 1, false, ?_, .inl ⟨rfl, rfl, rfl⟩⟩
 simp only [operandR, h1, h3]
 rfl
theorem sp_text (t : ByteArray) : SpOk z (.mk 14 eB t 0 [] []) := by
 intro d o p f hd ho hw hf hn
 rw [tell_text] at hw ⊢
 obtain ⟨w, h1, h2, h3⟩ := hw.cons.1.kind (k := 3) rfl
 refine ⟨_, p + 1, false, ?_, .inl ⟨rfl, rfl, rfl⟩⟩
 simp only [operandR, hw.cons.1.kind_no (show (3 : Int) ≠ 2 by decide), h1, h2]
 rfl
theorem sp_name (s : ByteArray) : SpTOk z (.mk 15 s eB 0 [] []) := by
 intro d o p f hd ho hw hf hn
 rw [tell_name] at hw hf ⊢
 obtain ⟨w, h1, h2, h3⟩ := hw.cons.1.kind (k := 0) rfl
 refine ⟨_, p + 1, ?_, 0, Nat.le_refl _, fun k => rfl⟩
 simp only [operandR, hw.cons.1.kind_no (show (0 : Int) ≠ 2 by decide), hw.cons.1.kind_no (show (0 : Int) ≠ 3 by decide), h1, h2]
 rw [if_neg (by rw [show isW z (p + 1) [40] = false from hf]; decide)]
 rfl
theorem sp_index {a b : Nd} (hs : (a.k == 15 || a.k == 17 || a.k == 16) = true → SpTOk z a) (hea : ExOk z a) (heb : ExOk z b) : SpTOk z (.mk 16 eB eB 0 [] [a, b]) := by
 intro d o p f hd ho hw hf hn
 obtain ⟨hd1, hdk⟩ := deepN_kids hd
 have da := hdk a (by simp [Nd.kids])
 have db := hdk b (by simp [Nd.kids])
 rw [tell_index] at hw hf ⊢
 obtain ⟨h1, h2⟩ := hw.app
 obtain ⟨h2, h3⟩ := h2.cons
 obtain ⟨h3, h4⟩ := h3.app
 have h4 := h4.cons.1
 have hle := hw.le (by simp only [List.length_append, List.length_cons]; omega)
 have hlen : ∀ m : List Wd, p + (m ++ sgW [91] :: (tellN b ++ [sgW [93]])).length = p + m.length + 1 + (tellN b).length + 1 := by intro m; simp; omega
 rw [hlen] at hle ⊢
 have hlt := h2.lt
 have hb := bracket_rt (c := [93]) (o := o) (by omega) (heb (d - 1) (o + 1) _ f db (by omega) h3 (h4.fol (by decide)) (by omega)) (by rw [h4.is]; decide)
 have hstep : ∀ k, indexL z (pz z f) (k + 1) ⟨p + (innerT (!(a.k == 15 || a.k == 17 || a.k == 16)) (tellN a)).length, o⟩ a = indexL z (pz z f) k ⟨p + (innerT (!(a.k == 15 || a.k == 17 || a.k == 16)) (tellN a)).length + 1 + (tellN b).length + 1, o⟩ (.mk 16 eB eB 0 [] [a, b]) := by
  intro k
  simp only [indexL, h2.is, hb]
  rfl
 clear hb
 cases hk : (a.k == 15 || a.k == 17 || a.k == 16) with
 | true =>
  have hsa := hs hk
  rw [hk] at h1 h2 hstep
  simp only [innerT, Bool.not_true, if_neg (show ¬ (false = true) by decide)] at h1 h2 hstep ⊢
  obtain ⟨n0, p0, g1, j, hj, g2⟩ := hsa (d - 1) o p f da (by omega) h1 (by rw [h2.is]; decide) hn
  exact ⟨n0, p0, g1, j + 1, by omega, fun k => by rw [show k + (j + 1) = (k + 1) + j by omega, g2, hstep]⟩
 | false =>
  rw [hk] at h1 h2 hstep
  simp only [innerT, Bool.not_false, if_true] at h1 h2 hstep ⊢
  have hl : p + (sgW [40] :: (tellN a ++ [sgW [41]])).length = p + (tellN a).length + 2 := by simp; omega
  rw [hl] at hstep ⊢
  obtain ⟨n0, p0, g1, j, hj, g2⟩ := sp_bracket hea (d - 1) o p f da (by omega) h1 hn
  exact ⟨n0, p0, g1, j + 1, by omega, fun k => by rw [show k + (j + 1) = (k + 1) + j by omega, g2, hstep]⟩
theorem list_rt {l : List Nd} (h0 : 0 < l.length) (hl : ∀ y ∈ l, ExOk z y) {d o p f : Nat} (hd : ∀ y ∈ l, deepN d y = true) (ho : o + d ≤ 100) (hw : Ws z p (commaT (l.map tellN))) (hE : Fol z (p + (commaT (l.map tellN)).length) 0) (hn : isW z (p + (commaT (l.map tellN)).length) [44] = false)
  (hf : 10 * (z.ws.length - p) + 8 ≤ f) : commaR z ((pz z f).ex 0) ⟨p, o⟩ = .ok (l, ⟨p + (commaT (l.map tellN)).length, o⟩) :=
 comma_rt (End := fun q => Fol z q 0) (fun q hq => hq.fol (by decide)) h0 hw hE hn fun y hy q hq h4 h5 => hl y hy d o q f (hd y hy) ho h4 h5 (by omega)
theorem head_list {l : List Nd} (h0 : 0 < l.length) (hh : ∀ y ∈ l, HeadF y) {p : Nat} {r : List Wd} (hw : Ws z p (commaT (l.map tellN) ++ r)) : ∃ w, Hd z p w ∧ hdE w = true := by
 cases l with
 | nil => simp at h0
 | cons y ys =>
  obtain ⟨w, t, h1, h2, _⟩ := hh y (List.mem_cons_self ..)
  rw [comma_map, h1] at hw
  exact ⟨w, hw.app.1.app.1.cons.1, h2⟩
theorem sp_call {s : ByteArray} {l : List Nd} (hl : ∀ y ∈ l, ExOk z y) (hh : ∀ y ∈ l, HeadF y) : SpTOk z (.mk 17 s eB 0 [] l) := by
 intro d o p f hd ho hw hf hn
 obtain ⟨hd1, hdk⟩ := deepN_kids hd
 simp only [Nd.kids] at hdk
 rw [tell_call] at hw hf ⊢
 obtain ⟨h1, h2⟩ := hw.cons
 obtain ⟨h2, h3⟩ := h2.cons
 have hw2 := h3
 obtain ⟨h3, h4⟩ := h3.app
 have h4 := h4.cons.1
 have hlen : p + (nmW s :: sgW [40] :: (commaT (l.map tellN) ++ [sgW [41]])).length = p + 1 + 1 + (commaT (l.map tellN)).length + 1 := by simp; omega
 rw [hlen] at hf ⊢
 have hlt := h2.lt
 obtain ⟨w, g1, g2, _⟩ := h1.kind (k := 0) rfl
 have ha : argsR z (pz z f) ⟨p + 1 + 1, o + 1⟩ = .ok (l, ⟨p + 1 + 1 + (commaT (l.map tellN)).length, o + 1⟩) := by
  unfold argsR
  cases l with
  | nil =>
   simp only [List.map_nil, commaT, List.length_nil, Nat.add_zero] at h4 ⊢
   rw [if_pos (by rw [h4.is]; decide)]
  | cons y ys =>
   obtain ⟨w', e1, e2⟩ := head_list (by simp) hh hw2
   rw [if_neg (by rw [e1.noE e2 (by decide)]; decide)]
   exact list_rt (by simp) hl hdk (by omega) h3 (h4.fol (by decide)) (by rw [h4.is]; decide) (by omega)
 have hc : callN z (pz z f) s ⟨p + 1 + 1, o⟩ = .ok (.mk 17 s eB 0 [] l, ⟨p + 1 + 1 + (commaT (l.map tellN)).length + 1, o⟩) := by
  unfold callN
  rw [within_rt (by omega) ha]
  simp only [want_rt (show isW z (p + 1 + 1 + (commaT (l.map tellN)).length) [41] = true by rw [h4.is]; decide)]
  rfl
 refine ⟨_, _, ?_, 0, Nat.le_refl _, fun k => rfl⟩
 simp only [operandR, h1.kind_no (show (0 : Int) ≠ 2 by decide), h1.kind_no (show (0 : Int) ≠ 3 by decide), g1, g2]
 rw [if_pos (by rw [h2.is]; decide)]
 rw [show (⟨(nmW s).t.toArray⟩ : ByteArray) = s from rfl, hc]
theorem item_ex {x : Nd} (he : ExOk z x) (hh : HeadF x) : ItOk z (.mk 19 eB eB 0 [] [x]) := by
 intro d o p f hd ho hw hf h61 hn
 obtain ⟨hd1, hdk⟩ := deepN_kids hd
 have dx := hdk x (by simp [Nd.kids])
 rw [tell_item] at hw hf h61 ⊢
 obtain ⟨w, l, h1, h2, _, h4⟩ := hh
 have hex := he (d - 1) o p f dx (by omega) hw hf hn
 have hws := hw
 rw [h1] at hws
 obtain ⟨g1, g2⟩ := hws.cons
 unfold itemR
 rw [if_neg (by rw [g1.noE h2 (by decide)]; decide)]
 simp only [hex]
 cases hkk : kindW z p 0 with
 | none => rfl
 | some v =>
  cases hz : z.ws[p + 1]? with
  | none => rfl
  | some v2 =>
   simp only
   have hw0 : w.k = 0 := by
    by_cases hc : w.k = 0
    ·exact hc
    ·rw [g1.kind_no hc] at hkk; cases hkk
   have hno : ¬ (v2.k = 4 ∧ v2.t = [61]) := by
    cases l with
    | nil =>
     rw [h1] at h61
     simp only [List.length_singleton] at h61
     rintro ⟨e1, e2⟩
     unfold isW at h61
     rw [hz] at h61
     simp [e1, e2] at h61
    | cons y ys =>
     obtain ⟨u, hu, e1, e2, _⟩ := g2.cons.1
     rw [hz] at hu
     obtain rfl := Option.some.inj hu
     rw [e1, e2]
     exact h4 hw0 y ys rfl
   rw [if_neg hno]
   rfl
theorem item_pair {a b : Nd} (ha : ExOk z a) (hb : ExOk z b) : ItOk z (.mk 20 eB eB 0 [] [a, b]) := by
 intro d o p f hd ho hw hf h61 hn
 obtain ⟨hd1, hdk⟩ := deepN_kids hd
 have da := hdk a (by simp [Nd.kids])
 have db := hdk b (by simp [Nd.kids])
 rw [tell_pair] at hw hf ⊢
 obtain ⟨h1, h2⟩ := hw.cons
 obtain ⟨h2, h3⟩ := h2.app
 obtain ⟨h3, h4⟩ := h3.cons
 obtain ⟨h4, h5⟩ := h4.cons
 have hlen : p + (sgW [91] :: (tellN a ++ sgW [93] :: sgW [61] :: tellN b)).length = p + 1 + (tellN a).length + 1 + 1 + (tellN b).length := by simp; omega
 rw [hlen] at hf ⊢
 have hlt := h1.lt
 have g1 := bracket_rt (c := [93]) (o := o) (by omega) (ha (d - 1) (o + 1) _ f da (by omega) h2 (h3.fol (by decide)) (by omega)) (by rw [h3.is]; decide)
 have g2 := hb (d - 1) o _ f db (by omega) h5 hf (by omega)
 unfold itemR
 rw [if_pos (by rw [h1.is]; decide)]
 simp only [g1, want_rt (show isW z (p + 1 + (tellN a).length + 1) [61] = true by rw [h4.is]; decide), g2]
 rfl
theorem items_rt {r : Pz} {o : Nat} : ∀ (xs : List Nd) (k p : Nat) (acc : List Nd), 0 < xs.length → Ws z p (commaT (xs.map tellN)) → isW z (p + (commaT (xs.map tellN)).length) [44] = false → isW z (p + (commaT (xs.map tellN)).length) [59] = false →
  (∀ x ∈ xs, ∀ q, p ≤ q → Ws z q (tellN x) → (Hd z (q + (tellN x).length) (sgW [44]) ∨ q + (tellN x).length = p + (commaT (xs.map tellN)).length) → itemR z r ⟨q, o⟩ = .ok (x, ⟨q + (tellN x).length, o⟩) ∧ isW z q [125] = false) → xs.length < k →
  itemL z r k ⟨p, o⟩ acc = .ok (acc ++ xs, ⟨p + (commaT (xs.map tellN)).length, o⟩)
 | [], _, _, _, h0, _, _, _, _, _ => by simp at h0
 | [x], k + 1, p, acc, h0, hw, h44, h59, hf, hk => by
  simp only [List.map_cons, List.map_nil, commaT, List.flatMap_nil, List.append_nil] at hw h44 h59 hf ⊢
  obtain ⟨g1, g2⟩ := hf x (by simp) p (Nat.le_refl _) hw (.inr rfl)
  unfold itemL
  rw [if_neg (by rw [g2]; decide)]
  simp only [g1]
  rw [if_neg (by simp only [h44, h59]; decide)]
 | x :: y :: ys, k + 1, p, acc, h0, hw, h44, h59, hf, hk => by
  have hc : commaT ((x :: y :: ys).map tellN) = tellN x ++ sgW [44] :: commaT ((y :: ys).map tellN) := by
   rw [comma_map, List.flatMap_cons, comma_map]; rfl
  rw [hc] at hw h44 h59 hf ⊢
  have hlen : p + (tellN x ++ sgW [44] :: commaT ((y :: ys).map tellN)).length = p + (tellN x).length + 1 + (commaT ((y :: ys).map tellN)).length := by simp; omega
  rw [hlen] at h44 h59 hf ⊢
  obtain ⟨h1, h2⟩ := hw.app
  obtain ⟨h2, h3⟩ := h2.cons
  obtain ⟨g1, g2⟩ := hf x (by simp) p (Nat.le_refl _) h1 (.inl h2)
  unfold itemL
  rw [if_neg (by rw [g2]; decide)]
  simp only [g1]
  rw [if_pos (by simp only [h2.is]; decide)]
  rw [items_rt (y :: ys) k _ (acc ++ [x]) (by simp) h3 h44 h59 (fun u hu q hq h4 h5 => hf u (List.mem_cons_of_mem _ hu) q (by omega) h4 h5) (by simp only [List.length_cons] at hk ⊢; omega)]
  simp
end
end Go.Proofs.YtkbcnacjaakleaaGreatDoor
namespace Go.Proofs.YtkbcnacjaakleaaGreatDoor

section
variable {z : Wz}
theorem comma_len {l : List Nd} (hh : ∀ y ∈ l, 0 < (tellN y).length) : l.length ≤ (commaT (l.map tellN)).length := by
 cases l with
 | nil => simp
 | cons x xs =>
  rw [comma_map]
  have := flat_lenS tellN xs
  have := hh x (List.mem_cons_self ..)
  simp only [List.length_append, List.length_cons]
  omega
def ItH (x : Nd) : Prop := ∃ w l, tellN x = w :: l ∧ (hdE w = true ∨ w = sgW [91])
theorem ith_item {x : Nd} (h : HeadF x) : ItH (.mk 19 eB eB 0 [] [x]) := by
 obtain ⟨w, l, h1, h2, _⟩ := h
 exact ⟨w, l, by rw [tell_item, h1], .inl h2⟩
theorem ith_pair (a b : Nd) : ItH (.mk 20 eB eB 0 [] [a, b]) := ⟨sgW [91], _, tell_pair a b, .inr rfl⟩
theorem sp_table {l : List Nd} (hl : ∀ y ∈ l, ItOk z y) (hh : ∀ y ∈ l, ItH y) : SpOk z (.mk 18 eB eB 0 [] l) := by
 intro d o p f hd ho hw hf hn
 obtain ⟨hd1, hdk⟩ := deepN_kids hd
 simp only [Nd.kids] at hdk
 rw [tell_table] at hw hf ⊢
 obtain ⟨h1, h2⟩ := hw.cons
 obtain ⟨h2, h3⟩ := h2.app
 have h3 := h3.cons.1
 have hlen : p + (sgW [123] :: (commaT (l.map tellN) ++ [sgW [125]])).length = p + 1 + (commaT (l.map tellN)).length + 1 := by simp; omega
 rw [hlen] at hf ⊢
 have hlt := h1.lt
 have hlt3 := h3.lt
 have hi : itemL z (pz z f) (z.ws.length + 1) ⟨p + 1, o + 1⟩ [] = .ok (l, ⟨p + 1 + (commaT (l.map tellN)).length, o + 1⟩) := by
  by_cases h0 : 0 < l.length
  ·have hcl := comma_len (l := l) fun y hy => by obtain ⟨w, t, e, _⟩ := hh y hy; rw [e]; simp
   rw [items_rt l _ _ [] h0 h2 (by rw [h3.is]; decide) (by rw [h3.is]; decide) (fun x hx q hq g1 g2 => ?_) (by omega)]
   ·rfl
   ·have gF : Fol z (q + (tellN x).length) 0 ∧ isW z (q + (tellN x).length) [61] = false := by
     rcases g2 with g2 | g2
     ·exact ⟨g2.fol (by decide), by rw [g2.is]; decide⟩
     ·rw [g2]; exact ⟨h3.fol (by decide), by rw [h3.is]; decide⟩
    refine ⟨hl x hx (d - 1) (o + 1) q f (hdk x hx) (by omega) g1 gF.1 gF.2 (by omega), ?_⟩
    obtain ⟨w, t, e, hw⟩ := hh x hx
    rw [e] at g1
    rcases hw with hw | hw
    ·exact g1.cons.1.noE hw (by decide)
    ·rw [g1.cons.1.is, hw]; decide
  ·obtain rfl : l = [] := List.length_eq_zero_iff.1 (by omega)
   simp only [List.map_nil, commaT, List.length_nil, Nat.add_zero] at h3 ⊢
   unfold itemL
   rw [if_pos (by rw [h3.is]; decide)]
 have ht : tableR z (pz z f) ⟨p + 1, o⟩ = .ok (.mk 18 eB eB 0 [] l, ⟨p + 1 + (commaT (l.map tellN)).length + 1, o⟩) := by
  unfold tableR
  rw [within_rt (f := fun s => itemL z (pz z f) (z.ws.length + 1) s []) (by omega) hi]
  simp only [want_rt (show isW z (p + 1 + (commaT (l.map tellN)).length) [125] = true by rw [h3.is]; decide)]
  rfl
 refine ⟨_, _, false, ?_, .inl ⟨rfl, rfl, rfl⟩⟩
 simp only [operandR, h1.kind_no (show (sgW [123]).k ≠ 2 by decide), h1.kind_no (show (sgW [123]).k ≠ 3 by decide), h1.kind_no (show (sgW [123]).k ≠ 0 by decide)]
 rw [if_neg (by rw [h1.is]; decide), if_neg (by rw [h1.is]; decide), if_neg (by rw [h1.is]; decide), if_neg (by rw [h1.is]; decide), want_rt (by rw [h1.is]; decide)]
 simp only [ht]
theorem ex_bin {s : ByteArray} {a b : Nd} (hs : operB s.data.toList = true) (ha : OpOk z a) (hb : OpOk z b) : ExOk z (.mk 21 s eB 0 [] [a, b]) := by
 intro d o p f hd ho hw hf hn
 obtain ⟨hd1, hdk⟩ := deepN_kids hd
 have da := hdk a (by simp [Nd.kids])
 have db := hdk b (by simp [Nd.kids])
 rw [tell_bin] at hw hf ⊢
 obtain ⟨lv, hlv, hc⟩ := oper_mem hs
 obtain ⟨q1, q2, q3, q4⟩ := op_fol hlv hc
 rw [opW_t] at hw hf ⊢
 obtain ⟨h1, h2⟩ := hw.app
 obtain ⟨h2, h3⟩ := h2.cons
 have hlen : p + (innerT (madeK a.k) (tellN a) ++ opT s.data.toList :: innerT (madeK b.k) (tellN b)).length = p + (innerT (madeK a.k) (tellN a)).length + 1 + (innerT (madeK b.k) (tellN b)).length := by simp; omega
 rw [hlen] at hf ⊢
 have hlt := h2.lt
 have g1 := fun (j : Nat) (hj : 10 * (z.ws.length - p) + 8 - (lv + 1) ≤ j) => ha (d - 1) o p j (lv + 1) da (by omega) h1 (by omega) (h2.fol q1) hj
 have g2 := fun (j : Nat) (hj : 10 * (z.ws.length - p) + 8 - (lv + 1) ≤ j) => hb (d - 1) o _ j (lv + 1) db (by omega) h3 (by omega) (hf.mono (by omega)) (by omega)
 generalize hpa : p + (innerT (madeK a.k) (tellN a)).length = pa at *
 generalize hpb : pa + 1 + (innerT (madeK b.k) (tellN b)).length = pb at *
 have hop : operW z pa lv = some s.data.toList := by
  rw [h2.oper, q3, hc]
  rw [if_pos (by rcases q2 with q2 | q2 <;> rw [q2] <;> rfl)]
 have hlvl : ∀ j, 10 * (z.ws.length - p) + 8 - (lv + 1) ≤ j → (pz z (j + 1)).ex lv ⟨p, o⟩ = .ok (.mk 21 s eB 0 [] [a, b], ⟨pb, o⟩) := by
  intro j hj
  show (if lv = 6 then _ else exprR z (pz z j) lv ⟨p, o⟩) = _
  rw [if_neg (by omega)]
  unfold exprR
  simp only [g1 j hj]
  have hL : operL z (pz z j) lv (z.ws.length + 1) ⟨pa, o⟩ [a] [] = .ok (([a, b], [s.data.toList]), ⟨pb, o⟩) := by
   obtain ⟨m, hm⟩ : ∃ m, z.ws.length = m + 1 := ⟨z.ws.length - 1, by omega⟩
   rw [hm]
   simp only [operL, hop, g2 j hj, hf.op lv (by omega) hlv]
   rfl
  rw [hL]
  simp only
  split <;> rfl
 have hups : ∀ (i : Nat), i ≤ lv → ∀ j, 10 * (z.ws.length - p) + 8 - (lv + 1) ≤ j → (pz z (j + 1 + i)).ex (lv - i) ⟨p, o⟩ = .ok (.mk 21 s eB 0 [] [a, b], ⟨pb, o⟩) := by
  intro i
  induction i with
  | zero => intro _ j hj; exact hlvl j hj
  | succ i ih =>
   intro hi j hj
   have := ih (by omega) j hj
   rw [show lv - i = lv - (i + 1) + 1 by omega] at this
   exact ex_up (f := j + 1 + i) (by omega) this (hf.op _ (by omega) (by omega))
 have := hups lv (Nat.le_refl _) (f - 1 - lv) (by omega)
 rw [Nat.sub_self, show f - 1 - lv + 1 + lv = f by omega] at this
 exact this
theorem aheadU_1 {p : Nat} {k : Int} {w : Wd} (hk : k = 22 ∨ k = 23 ∨ k = 24) (h1 : Hd z p (aheadW k)) (h2 : Hd z (p + 1) w) (hw : hdB w = true) : aheadL z (z.ws.length + 1) p [] = (p + 1, [k]) := by
 have hlt := h2.lt
 obtain ⟨m, hm⟩ : ∃ m, z.ws.length = m + 1 := ⟨z.ws.length - 1, by omega⟩
 rw [hm]
 unfold aheadL
 rcases hk with rfl | rfl | rfl
 ·rw [if_pos (by rw [h1.is]; decide), ahead_0 (o := 0) h2 hw]; rfl
 ·rw [if_neg (by rw [h1.is]; decide), if_pos (by rw [h1.is]; decide), ahead_0 (o := 0) h2 hw]; rfl
 ·rw [if_neg (by rw [h1.is]; decide), if_neg (by rw [h1.is]; decide), if_pos (by rw [h1.is]; decide), ahead_0 (o := 0) h2 hw]; rfl
theorem ex_ahead {k : Int} (hk : k = 22 ∨ k = 23 ∨ k = 24) {a : Nd} (he : ExOk z a) (hs : madeK a.k = false → SpOk z a) (hh : HeadF a) : ExOk z (.mk k eB eB 0 [] [a]) := by
 intro d o p f hd ho hw hf hn
 obtain ⟨hd1, hdk⟩ := deepN_kids hd
 have da := hdk a (by simp [Nd.kids])
 rw [tell_ahead hk] at hw hf ⊢
 obtain ⟨h1, h2⟩ := hw.cons
 have hlen : p + (aheadW k :: innerT (madeK a.k) (tellN a)).length = p + 1 + (innerT (madeK a.k) (tellN a)).length := by simp; omega
 have hle := hw.le (by simp)
 rw [hlen] at hf hle ⊢
 have hlt := h1.lt
 obtain ⟨f0, rfl⟩ : ∃ f0, f = f0 + 2 + 6 := ⟨f - 8, by omega⟩
 have key : ∃ w, Hd z (p + 1) w ∧ hdB w = true ∧ Spine z (pz z f0) o (p + 1) (p + 1 + (innerT (madeK a.k) (tellN a)).length) a := by
  cases hmk : madeK a.k with
  | true =>
   rw [hmk] at h2 hf hle
   simp only [innerT, if_true] at h2 hf hle ⊢
   refine ⟨_, h2.cons.1, by decide, ?_⟩
   have := (sp_bracket he (d - 1) o (p + 1) f0 da (by omega) h2 (by omega)).sp
   have hl : p + 1 + (sgW [40] :: (tellN a ++ [sgW [41]])).length = p + 1 + (tellN a).length + 2 := by simp; omega
   rw [hl]; exact this
  | false =>
   rw [hmk] at h2 hf hle
   simp only [innerT, if_neg (show ¬ (false = true) by decide)] at h2 hf hle ⊢
   obtain ⟨w, l, e1, e2, e3, _⟩ := hh
   refine ⟨w, ?_, e3 hmk, hs hmk (d - 1) o (p + 1) f0 da (by omega) h2 hf.call (by omega)⟩
   rw [e1] at h2
   exact h2.cons.1
 obtain ⟨w, g1, g2, S⟩ := key
 generalize p + 1 + (innerT (madeK a.k) (tellN a)).length = q at *
 have hbe := S.be hle hf.br hf.dot
 have h6 : (pz z (f0 + 2)).ex 6 ⟨p, o⟩ = .ok (.mk k eB eB 0 [] [a], ⟨q, o⟩) := by
  show unaryR z (pz z (f0 + 1)) ⟨p, o⟩ = _
  unfold unaryR
  simp only [aheadU_1 hk h1 g1 g2, hbe]
  rfl
 exact ex_ups 6 0 (f0 + 2) _ _ _ rfl h6 fun m' _ h2 => hf.op m' (by omega) h2
structure AllE (z : Wz) (x : Nd) : Prop where
 head : exprK x.k = true → HeadF x
 ex : exprK x.k = true → ExOk z x
 sp : exprK x.k = true → madeK x.k = false → SpOk z x
 spt : (x.k == 15 || x.k == 17 || x.k == 16) = true → SpTOk z x
 op : exprK x.k = true → OpOk z x
 it : x.k = 19 ∨ x.k = 20 → ItOk z x ∧ ItH x
theorem allE : ∀ x : Nd, mayN x = true → AllE z x := by
 refine Nd.ind fun x ih hm => ?_
 obtain ⟨k, a, b, n, l, m⟩ := x
 have hH := head_all (.mk k a b n l m) hm
 simp only [Nd.kids] at ih
 have mk1 : ∀ hS : SpOk z (.mk k a b n l m), madeK k = false → exprK k = true → ((k == 15 || k == 17 || k == 16) = true → SpTOk z (.mk k a b n l m)) → ¬ (k = 19 ∨ k = 20) → AllE z (.mk k a b n l m) := fun hS hk he ht hi =>
  ⟨hH, fun _ => ex_of_sp hS (hH he) hk, fun _ _ => hS, ht, fun _ => op_of_sp hS (hH he) hk, fun h => absurd h hi⟩
 have mk2 : ∀ hE : ExOk z (.mk k a b n l m), madeK k = true → exprK k = true → (k == 15 || k == 17 || k == 16) = false → ¬ (k = 19 ∨ k = 20) → AllE z (.mk k a b n l m) := fun hE hk he ht hi =>
  ⟨hH, fun _ => hE, (fun _ h => by rw [Nd.k_mk, hk] at h; cases h), (fun h => by rw [Nd.k_mk, ht] at h; cases h), fun _ => op_of_made hE hk, fun h => absurd h hi⟩
 by_cases hk : exprK k = true
 ·rcases exprK_cases hk with rfl | rfl | rfl | rfl | rfl | rfl | rfl | rfl | rfl | rfl | hk
  ·obtain ⟨rfl, rfl, rfl, rfl, rfl⟩ := may_small hm (by omega)
   exact mk1 sp_nil rfl hk (fun h => by cases h) (by omega)
  ·obtain ⟨rfl, rfl, rfl, rfl, rfl⟩ := may_small hm (by omega)
   exact mk1 sp_true rfl hk (fun h => by cases h) (by omega)
  ·obtain ⟨rfl, rfl, rfl, rfl, rfl⟩ := may_small hm (by omega)
   exact mk1 sp_false rfl hk (fun h => by cases h) (by omega)
  ·obtain ⟨rfl, rfl, rfl, rfl⟩ := may_int hm
   exact mk1 (sp_int n) rfl hk (fun h => by cases h) (by omega)
  ·obtain ⟨rfl, rfl, rfl, rfl⟩ := may_text hm
   exact mk1 (sp_text b) rfl hk (fun h => by cases h) (by omega)
  ·obtain ⟨rfl, rfl, rfl, rfl⟩ := may_name hm
   exact mk1 (sp_name a).sp rfl hk (fun h => sp_name a) (by omega)
  ·obtain ⟨rfl, rfl, rfl, rfl, u, v, rfl, hu, hv, mu, mv⟩ := may_index hm
   have iu := ih u (by simp) mu
   have iv := ih v (by simp) mv
   exact mk1 (sp_index iu.spt (iu.ex hu) (iv.ex hv)).sp rfl hk (fun _ => sp_index iu.spt (iu.ex hu) (iv.ex hv)) (by omega)
  ·obtain ⟨rfl, rfl, rfl, hl⟩ := may_call hm
   have := sp_call (z := z) (s := a) (l := m) (fun y hy => (ih y hy (hl y hy).1).ex (hl y hy).2) (fun y hy => (ih y hy (hl y hy).1).head (hl y hy).2)
   exact mk1 this.sp rfl hk (fun _ => this) (by omega)
  ·obtain ⟨rfl, rfl, rfl, rfl, hl⟩ := may_table hm
   exact mk1 (sp_table (fun y hy => ((ih y hy (hl y hy).1).it (hl y hy).2).1) (fun y hy => ((ih y hy (hl y hy).1).it (hl y hy).2).2)) rfl hk (fun h => by cases h) (by omega)
  ·obtain ⟨ho, rfl, rfl, rfl, u, v, rfl, hu, hv, mu, mv⟩ := may_bin hm
   exact mk2 (ex_bin ho ((ih u (by simp) mu).op hu) ((ih v (by simp) mv).op hv)) rfl hk rfl (by omega)
  ·obtain ⟨rfl, rfl, rfl, rfl, u, rfl, hu, mu⟩ := may_ahead hk hm
   have iu := ih u (by simp) mu
   exact mk2 (ex_ahead hk (iu.ex hu) (iu.sp hu) (iu.head hu)) (by rcases hk with rfl | rfl | rfl <;> rfl) (by rcases hk with rfl | rfl | rfl <;> rfl) (by rcases hk with rfl | rfl | rfl <;> rfl) (by omega)
 ·have hk2 : exprK k = false := by simpa using hk
  have hno : (k == 15 || k == 17 || k == 16) = false := by
   simp [exprK] at hk2
   simp only [Bool.or_eq_false_iff, beq_eq_false_iff_ne, ne_eq]
   omega
  refine ⟨hH, fun h => absurd h hk, fun h => absurd h hk, (fun h => by rw [Nd.k_mk, hno] at h; cases h), fun h => absurd h hk, fun h => ?_⟩
  rcases h with h | h
  ·rw [Nd.k_mk] at h; subst h
   obtain ⟨rfl, rfl, rfl, rfl, u, rfl, hu, mu⟩ := may_item hm
   have iu := ih u (by simp) mu
   exact ⟨item_ex (iu.ex hu) (iu.head hu), ith_item (iu.head hu)⟩
  ·rw [Nd.k_mk] at h; subst h
   obtain ⟨rfl, rfl, rfl, rfl, u, v, rfl, hu, hv, mu, mv⟩ := may_pair hm
   exact ⟨item_pair ((ih u (by simp) mu).ex hu) ((ih v (by simp) mv).ex hv), ith_pair u v⟩
end
end Go.Proofs.YtkbcnacjaakleaaGreatDoor
