/- bin: two operands with an operator; unary: what stands ahead of an operand. expr: operands with operators of a level between. -/
import Derived.Test.YtkbcnacjaakleaaGreatDoorYSy4
import Derived.Test.YtkbcnacjaakleaaGreatDoorYSy6
set_option maxRecDepth 100000
set_option maxHeartbeats 32000000
set_option linter.unusedVariables false
set_option linter.unusedSimpArgs false
namespace Go.Proofs.YtkbcnacjaakleaaGreatDoor
open Go.RowKit

def BinE (w : World) (op : ByteArray) (a b : Nd) (na la nb lb : Value) (e : Ending) (w' : World) : Prop :=
 ∃ g, e = .returned (ndV (ndS 21 op [a, b]) (.slice none 0 0) (.slice (some ⟨g, 0, none⟩) 2 2)) ∧ w.heap.size ≤ g ∧ Ext w w' ∧ Blk w' g 28 #[.int .i64 a.k, .string a.name, .string a.text, .int .i64 a.n, na, la, .int .i64 b.k, .string b.name, .string b.text, .int .i64 b.n, nb, lb]
theorem St.binned {w W W' : World} {r : Nat} {q : Option Addr} {c : Nat} {z : Wz} {s : Ps} {K : List (Nat × Obj)} {N : List Pt} {lv tv : Value} {l : List Nd} {tl : List ByteArray} (h : St w W r q c z s K N lv l tv tl) {op : ByteArray} {a b : Nd} {na la nb lb : Value} (ha : Pt.nd (ndV a na la) a ∈ N) (hb : Pt.nd (ndV b nb lb) b ∈ N) {e : Ending} (hE : BinE W op a b na la nb lb e W') :
  ∃ g, e = .returned (ndV (ndS 21 op [a, b]) (.slice none 0 0) (.slice (some ⟨g, 0, none⟩) 2 2)) ∧ St w W' r q c z s K (.nd (ndV (ndS 21 op [a, b]) (.slice none 0 0) (.slice (some ⟨g, 0, none⟩) 2 2)) (ndS 21 op [a, b]) :: N) lv l tv tl := by
 obtain ⟨g, rfl, hg, hx, hB⟩ := hE
 refine ⟨g, rfl, ?_⟩
 have hok := h.fresh hg
 have h1 := h.ext hx
 obtain ⟨d, nv', lv2, he, ht, hk⟩ := h1.pts _ ha
 obtain ⟨rfl, rfl⟩ : na = nv' ∧ la = lv2 := by
  simp only [ndV, Value.agg.injEq] at he
  have e4 := congrArg (fun a : Array Value => a[4]?) he
  have e5 := congrArg (fun a : Array Value => a[5]?) he
  exact ⟨by simpa using e4, by simpa using e5⟩
 obtain ⟨d', nv', lv2, he, ht', hk'⟩ := h1.pts _ hb
 obtain ⟨rfl, rfl⟩ : nb = nv' ∧ lb = lv2 := by
  simp only [ndV, Value.agg.injEq] at he
  have e4 := congrArg (fun a : Array Value => a[4]?) he
  have e5 := congrArg (fun a : Array Value => a[5]?) he
  exact ⟨by simpa using e4, by simpa using e5⟩
 exact h1.add (PtAt.mk _ _ 21 0 _ _ (PtAt.tx0 _ _) ⟨_, KidsAt.two hok hB ht (hk.upto (Nat.le_max_left d d')) ht' (hk'.upto (Nat.le_max_right d d'))⟩)
theorem bin_any (w : World) (op : ByteArray) (a b : Nd) (qa : Option Addr) (ma ca : Nat) (qa' : Option Addr) (ma' ca' : Nat) (qb : Option Addr) (mb cb : Nat) (qb' : Option Addr) (mb' cb' : Nat) :
  Calls Tryz.prog 234 #[.string op, ndV a (.slice qa ma ca) (.slice qa' ma' ca'), ndV b (.slice qb mb cb) (.slice qb' mb' cb')] w (BinE w op a b (.slice qa ma ca) (.slice qa' ma' ca') (.slice qb mb cb) (.slice qb' mb' cb')) := by
 have E3 := Lib.hid ((((Ext.refl w).alloc (.cells #[.int .i64 a.k, .string a.name, .string a.text, .int .i64 a.n, .slice qa ma ca, .slice qa' ma' ca'] 28)).alloc (.cells #[.int .i64 b.k, .string b.name, .string b.text, .int .i64 b.n, .slice qb mb cb, .slice qb' mb' cb'] 28)).alloc ndZ)
 have B1 := ((Blk.new w 28 #[.int .i64 a.k, .string a.name, .string a.text, .int .i64 a.n, .slice qa ma ca, .slice qa' ma' ca']).alloc (.cells #[.int .i64 b.k, .string b.name, .string b.text, .int .i64 b.n, .slice qb mb cb, .slice qb' mb' cb'] 28)).alloc ndZ
 have B2 := (Blk.new (w.alloc (.cells #[.int .i64 a.k, .string a.name, .string a.text, .int .i64 a.n, .slice qa ma ca, .slice qa' ma' ca'] 28)) 28 #[.int .i64 b.k, .string b.name, .string b.text, .int .i64 b.n, .slice qb mb cb, .slice qb' mb' cb']).alloc ndZ
 have B3 := Blk.new ((w.alloc (.cells #[.int .i64 a.k, .string a.name, .string a.text, .int .i64 a.n, .slice qa ma ca, .slice qa' ma' ca'] 28)).alloc (.cells #[.int .i64 b.k, .string b.name, .string b.text, .int .i64 b.n, .slice qb mb cb, .slice qb' mb' cb'] 28)) 28 #[.int .i64 0, .string ⟨#[]⟩, .string ⟨#[]⟩, .int .i64 0, .slice none 0 0, .slice none 0 0]
 rw [size_alloc] at B2 B3
 rw [size_alloc] at B3
 have HB1 := Lib.hid B1
 have HB2 := Lib.hid B2
 have HB3 := Lib.hid B3
 clear B1 B2 B3
 go_enter Tryz.func234, Tryz.ntmps234
 go_upto_region 1 with (fail)
 obtain ⟨W, hW⟩ : ∃ W, (((w.alloc (.cells #[.int .i64 a.k, .string a.name, .string a.text, .int .i64 a.n, .slice qa ma ca, .slice qa' ma' ca'] 28)).alloc (.cells #[.int .i64 b.k, .string b.name, .string b.text, .int .i64 b.n, .slice qb mb cb, .slice qb' mb' cb'] 28)).alloc ndZ) = W := ⟨_, rfl⟩
 have hsz : W.heap.size = w.heap.size + 1 + 1 + 1 := by rw [← hW]; simp
 have HSZ := Lib.hid hsz
 rw [show (((w.alloc (.cells #[.int .i64 a.k, .string a.name, .string a.text, .int .i64 a.n, .slice qa ma ca, .slice qa' ma' ca'] 28)).alloc (.cells #[.int .i64 b.k, .string b.name, .string b.text, .int .i64 b.n, .slice qb mb cb, .slice qb' mb' cb'] 28)).alloc (.cells #[.int .i64 0, .string ⟨#[]⟩, .string ⟨#[]⟩, .int .i64 0, .slice none 0 0, .slice none 0 0] 28)) = W from hW]
 rw [hW] at E3 HB1 HB2 HB3
 clear hW hsz
 obtain ⟨x0, x1, x2, x3, x4, x5, _⟩ := six_blk HB1.out
 obtain ⟨y0, y1, y2, y3, y4, y5, _⟩ := six_blk HB2.out
 obtain ⟨_, _, _, _, _, _, f0, f1, f2, f3, f4, f5⟩ := six_blk HB3.out
 have l3 := HB3.out.lt
 go_wp2_with fail
 have hlt : w.heap.size + 1 + 1 < W.heap.size := l3
 have hB := Blk.new (put6 W (w.heap.size + 1 + 1) (.int .i64 21) (.string op) (.string ⟨#[]⟩) (.int .i64 0) (.slice none 0 0) (.slice (some ⟨W.heap.size, 0, none⟩) 2 2)) 28 #[.int .i64 a.k, .string a.name, .string a.text, .int .i64 a.n, .slice qa ma ca, .slice qa' ma' ca', .int .i64 b.k, .string b.name, .string b.text, .int .i64 b.n, .slice qb mb cb, .slice qb' mb' cb']
 have hs6 : (put6 W (w.heap.size + 1 + 1) (.int .i64 21) (.string op) (.string ⟨#[]⟩) (.int .i64 0) (.slice none 0 0) (.slice (some ⟨W.heap.size, 0, none⟩) 2 2)).heap.size = W.heap.size := by simp [World.setCell]
 rw [hs6] at hB
 have hX := Lib.hid (((((((E3.out.setCell (p := ⟨w.heap.size + 1 + 1, 0, none⟩) (by simp only; omega) (.int .i64 21)).setCell (p := ⟨w.heap.size + 1 + 1, 1, none⟩) (by simp only; omega) (.string op)).setCell (p := ⟨w.heap.size + 1 + 1, 2, none⟩) (by simp only; omega) (.string ⟨#[]⟩)).setCell (p := ⟨w.heap.size + 1 + 1, 3, none⟩) (by simp only; omega) (.int .i64 0)).setCell (p := ⟨w.heap.size + 1 + 1, 4, none⟩) (by simp only; omega) (.slice none 0 0)).setCell (p := ⟨w.heap.size + 1 + 1, 5, none⟩) (by simp only; omega) (.slice (some ⟨W.heap.size, 0, none⟩) 2 2)).alloc (.cells #[.int .i64 a.k, .string a.name, .string a.text, .int .i64 a.n, .slice qa ma ca, .slice qa' ma' ca', .int .i64 b.k, .string b.name, .string b.text, .int .i64 b.n, .slice qb mb cb, .slice qb' mb' cb'] 28))
 have hB' := Lib.hid hB
 clear hB hs6
 exact bodyPost_ret (v := ndV (ndS 21 op [a, b]) (.slice none 0 0) (.slice (some ⟨W.heap.size, 0, none⟩) 2 2)) (by simp [results, Tryz.results234, go_sem, *, ndS_k, ndS_name, ndS_text, ndS_n]) rfl ⟨W.heap.size, rfl, by have := HSZ.out; omega, hX.out, hB'.out⟩
section
variable {w W : World} {r : Nat} {q : Option Addr} {c : Nat} {z : Wz} {s : Ps} {K : List (Nat × Obj)} {N : List Pt} {lv tv : Value} {l : List Nd} {tl : List ByteArray}
theorem St.elem (h : St w W r q c z s K N lv l tv tl) {j : Nat} (hj : j < l.length) : ∃ b cap qn mn ql ml, lv = .slice (some ⟨b, 0, none⟩) l.length cap ∧ b < W.heap.size ∧
  (W.cell? ⟨b, j * 6, none⟩ = some (.int .i64 l[j].k) ∧ W.cell? ⟨b, j * 6 + 1, none⟩ = some (.string l[j].name) ∧ W.cell? ⟨b, j * 6 + 2, none⟩ = some (.string l[j].text) ∧ W.cell? ⟨b, j * 6 + 3, none⟩ = some (.int .i64 l[j].n) ∧ W.cell? ⟨b, j * 6 + 4, none⟩ = some (.slice qn l[j].names.length mn) ∧ W.cell? ⟨b, j * 6 + 5, none⟩ = some (.slice ql l[j].kids.length ml)) ∧
   St w W r q c z s K (.nd (ndV l[j] (.slice qn l[j].names.length mn) (.slice ql l[j].kids.length ml)) l[j] :: N) lv l tv tl := by
 obtain ⟨d, rows, e1, e2, e3⟩ := h.row.ex
 have hlr : rows.length = l.length := by rw [← e1, List.length_map]
 have hjr : j < rows.length := by omega
 have hel : l[j] = rows[j].1 := by subst e1; simp
 obtain ⟨b, cap, hv, hB, hbl, hcp9, hx⟩ := e2.cells (by omega)
 obtain ⟨c0, c1, c2, c3, c4, c5⟩ := hx j rows[j] (List.getElem?_eq_getElem hjr)
 simp only [Nat.zero_add] at c0 c1 c2 c3 c4 c5
 obtain ⟨ht, hk⟩ := e3 rows[j] (List.getElem_mem hjr)
 rw [hel]
 obtain ⟨qn, mn, hn⟩ := ht.slice
 obtain ⟨ql, ml, hl⟩ := hk.slice
 rw [hn] at c4 ht
 rw [hl] at c5 hk
 exact ⟨b, cap, qn, mn, ql, ml, by rw [hv, hlr], hbl, ⟨c0, c1, c2, c3, c4, c5⟩, h.add ⟨d, _, _, rfl, ht, hk⟩⟩
theorem St.telem (h : St w W r q c z s K N lv l tv tl) {j : Nat} (hj : j < tl.length) : ∃ b cap, tv = .slice (some ⟨b, 0, none⟩) tl.length cap ∧ W.cell? ⟨b, j, none⟩ = some (.string tl[j]) := by
 obtain ⟨hl, hrow⟩ := h.txt
 rcases hrow with ⟨h1, h2⟩ | ⟨gb, cap, cur, e1, hB, hc, h2, h3, h4, h5⟩
 ·omega
 ·refine ⟨gb, cap, e1, ?_⟩
  rw [cell_of_row W gb _ cur _ (0, 0) hc]
  have : (tl.map Value.string)[j]? = some (.string tl[j]) := by simp [hj]
  rw [← h5, List.getElem?_take, if_pos (by omega)] at this
  simpa using this
theorem St.elemY (h : St w W r q c z s K N lv l tv tl) {j : Nat} {y : Nd} (hy : l[j]? = some y) : ∃ b cap qn mn ql ml, lv = .slice (some ⟨b, 0, none⟩) l.length cap ∧ b < W.heap.size ∧
  (W.cell? ⟨b, j * 6, none⟩ = some (.int .i64 y.k) ∧ W.cell? ⟨b, j * 6 + 1, none⟩ = some (.string y.name) ∧ W.cell? ⟨b, j * 6 + 2, none⟩ = some (.string y.text) ∧ W.cell? ⟨b, j * 6 + 3, none⟩ = some (.int .i64 y.n) ∧ W.cell? ⟨b, j * 6 + 4, none⟩ = some (.slice qn y.names.length mn) ∧ W.cell? ⟨b, j * 6 + 5, none⟩ = some (.slice ql y.kids.length ml)) ∧
   St w W r q c z s K (.nd (ndV y (.slice qn y.names.length mn) (.slice ql y.kids.length ml)) y :: N) lv l tv tl := by
 obtain ⟨hj, rfl⟩ := List.getElem?_eq_some_iff.1 hy
 exact h.elem hj
theorem St.telemY (h : St w W r q c z s K N lv l tv tl) {j : Nat} {y : ByteArray} (hy : tl[j]? = some y) : ∃ b cap, tv = .slice (some ⟨b, 0, none⟩) tl.length cap ∧ W.cell? ⟨b, j, none⟩ = some (.string y) := by
 obtain ⟨hj, rfl⟩ := List.getElem?_eq_some_iff.1 hy
 exact h.telem hj
theorem St.tslice (h : St w W r q c z s K N lv l tv tl) : ∃ q c, tv = .slice q tl.length c := h.txt.slice
end
def exFin (lv : Nat) (x : PR (List Nd × List (List UInt8))) : PR Nd := match x with
 | .error e => .error e
 | .ok ((l, ops), s2) => .ok (if lv = 3 then rightN l ops else leftN (l.headD (ndK 0 [])) ops l.tail, s2)
theorem exprR_err {z : Wz} {r : Pz} {lv : Nat} {s : Ps} {y : Int × Int} (h : r.ex (lv + 1) s = .error y) : exprR z r lv s = .error y := by unfold exprR; rw [h]
theorem exprR_ok {z : Wz} {r : Pz} {lv : Nat} {s s1 : Ps} {x : Nd} (h : r.ex (lv + 1) s = .ok (x, s1)) : exprR z r lv s = exFin lv (operL z r lv (z.ws.length + 1) s1 [x] []) := by unfold exprR exFin; rw [h]; rfl
theorem operL_end {z : Wz} {r : Pz} {lv k : Nat} {s : Ps} {acc : List Nd} {ops : List (List UInt8)} (h : operW z s.p lv = none) : operL z r lv (k + 1) s acc ops = .ok ((acc, ops), s) := by unfold operL; rw [h]
theorem operL_err {z : Wz} {r : Pz} {lv k : Nat} {s : Ps} {acc : List Nd} {ops : List (List UInt8)} {op : List UInt8} {y : Int × Int} (h : operW z s.p lv = some op) (h2 : r.ex (lv + 1) ⟨s.p + 1, s.o⟩ = .error y) : operL z r lv (k + 1) s acc ops = .error y := by unfold operL; rw [h]; simp only; rw [h2]
theorem operL_ok {z : Wz} {r : Pz} {lv k : Nat} {s s' : Ps} {acc : List Nd} {ops : List (List UInt8)} {op : List UInt8} {x : Nd} (h : operW z s.p lv = some op) (h2 : r.ex (lv + 1) ⟨s.p + 1, s.o⟩ = .ok (x, s')) : operL z r lv (k + 1) s acc ops = operL z r lv k s' (acc ++ [x]) (ops ++ [op]) := by
 conv => lhs; unfold operL
 rw [h]; simp only; rw [h2]
theorem rightN_last {acc : List Nd} {ops : List (List UInt8)} {m : Nat} {y : Nd} (hm : ops.length = m) (h : acc.length = m + 1) (hy : acc[m]? = some y) : rightN (acc.drop m) (ops.drop m) = y := by
 subst hm
 obtain ⟨hj, rfl⟩ := List.getElem?_eq_some_iff.1 hy
 rw [List.drop_eq_getElem_cons hj, List.drop_eq_nil_of_le (by omega : acc.length ≤ ops.length + 1)]
 rfl
theorem rightN_step {acc : List Nd} {ops : List (List UInt8)} {m j : Nat} {y : Nd} {op : List UInt8} (hm : ops.length = m) (h : acc.length = m + 1) (hy : acc[j]? = some y) (ho : ops[j]? = some op) :
  rightN (acc.drop j) (ops.drop j) = ndS 21 ⟨op.toArray⟩ [y, rightN (acc.drop (j + 1)) (ops.drop (j + 1))] := by
 subst hm
 obtain ⟨hj, rfl⟩ := List.getElem?_eq_some_iff.1 hy
 obtain ⟨hk, rfl⟩ := List.getElem?_eq_some_iff.1 ho
 rw [List.drop_eq_getElem_cons hj, List.drop_eq_getElem_cons hk]
 cases hl : acc.drop (j + 1) with
 | nil => have := congrArg List.length hl; simp at this; omega
 | cons y ys => rfl
theorem leftN_step : ∀ (ops : List (List UInt8)) (l : List Nd) (n : Nd) (j : Nat) (op : List UInt8) (y : Nd), ops[j]? = some op → l[j]? = some y → leftN n (ops.take (j + 1)) (l.take (j + 1)) = ndS 21 ⟨op.toArray⟩ [leftN n (ops.take j) (l.take j), y]
 | [], _, _, _, _, _, h, _ => by simp at h
 | _ :: _, [], _, _, _, _, _, h => by simp at h
 | op :: ops, x :: l, n, 0, op', y, h1, h2 => by
  simp at h1 h2
  subst h1 h2
  simp [leftN, binN]
 | op :: ops, x :: l, n, j + 1, op', y, h1, h2 => by
  have := leftN_step ops l (binN op n x) j op' y (by simpa using h1) (by simpa using h2)
  simpa [leftN] using this
abbrev toB (ops : List (List UInt8)) : List ByteArray := ops.map fun t => ⟨t.toArray⟩
theorem expr_lv {f : Nat} (hC : Con f) (w : World) (r : Nat) (q : Option Addr) (c : Nat) (z : Wz) (s : Ps) (lv : Nat) (h : RdAt w r q c z s) (hlv : lv < 6) (hf : 10 * (z.ws.length - s.p) + 8 - lv ≤ f + 1) :
  Calls Tryz.prog 178 #[.pointer (some ⟨r, 0, none⟩), .int .i64 lv] w (RdR (EncN w) w r q c z (exprR z (pz z f) lv s)) := by
 obtain ⟨res, hres⟩ : ∃ res, exprR z (pz z f) lv s = res := ⟨_, rfl⟩
 rw [hres]
 have HC := Lib.hid hC
 have H0 := Lib.hid ((St.start h).newK ndZ)
 have hle := h.le
 have hlen := h.len
 have hlow := h.lt
 have HR := Lib.hid hres
 have hlvI : (lv : Int) < 6 := by omega
 have hlv0 : (0 : Int) ≤ (lv : Int) := by omega
 have t6 : ((lv : Int) == 6) = false := by rw [beq_eq_false_iff_ne]; omega
 have hwr : IntKind.i64.wrap ((lv : Int) + 1) = (lv : Int) + 1 := IntWalk.i64_in _ (by omega)
 have hcast : ((lv + 1 : Nat) : Int) = (lv : Int) + 1 := by omega
 have cE : ∀ (W : World) (s' : Ps), RdAt W r q c z s' → 10 * (z.ws.length - s'.p) + 8 - (lv + 1) ≤ f → Calls Tryz.prog 178 #[.pointer (some ⟨r, 0, none⟩), .int .i64 ((lv : Int) + 1)] W (RdR (EncN W) W r q c z ((pz z f).ex (lv + 1) s')) := fun W s' hW hf' => by
  have := hC.ex W r q c z s' (lv + 1) hW (by omega) hf'
  rwa [hcast] at this
 have CE := Lib.hid cE
 clear hres h hC cE hcast
 go_enter Tryz.func178, Tryz.ntmps178
 go_wp2_with fail
 refine (bonds_any _).mono ?_
 rintro e w1 ⟨bb, rfl, hbb, e1, _⟩
 have S1 := Lib.hid (H0.out.ext e1)
 clear e1 H0 hbb
 go_wp2_with fail
 refine (CE.out w1 s S1.out.rd (by omega)).mono ?_
 intro e w2 hE
 cases hx : (pz z f).ex (lv + 1) s with
 | error y =>
  obtain ⟨rfl, o2⟩ := hE.no hx
  have HRE := Lib.hid (show res = .error y by rw [← HR.out, exprR_err hx])
  clear hE hx
  go_wp2_with fail
  exact ⟨rfl, S1.out.giv HRE.out o2⟩
 | ok y =>
  obtain ⟨x, s1⟩ := y
  obtain ⟨v, rfl, hv, r2, o2⟩ := hE.yes hx
  obtain ⟨qn, mn, ql, ml, rfl⟩ := EncN.open hv
  have g1 := And.intro (pz_ex_gt hx).1 (pz_ex_gt hx).2.1
  have HR2 := Lib.hid (show exFin lv (operL z (pz z f) lv (z.ws.length + 1) s1 [x] []) = res by rw [← HR.out, exprR_ok hx])
  have S20 := ((S1.out.got o2 r2 hv).kone (x := x) (List.mem_cons_self ..)).sub (N' := []) (fun p hp => by cases hp)
  obtain ⟨nl, hnl⟩ : ∃ n, x.names.length = n := ⟨_, rfl⟩
  obtain ⟨kl, hkl⟩ : ∃ n, x.kids.length = n := ⟨_, rfl⟩
  rw [hnl, hkl] at S20 ⊢
  have S2 := Lib.hid S20
  clear hE hx r2 o2 hv hnl hkl S1 HR S20
  go_wp2_with fail
  generalize w2.alloc (.cells #[.int .i64 x.k, .string x.name, .string x.text, .int .i64 x.n, .slice qn nl mn, .slice ql kl ml] 28) = W2 at *
  go_loopw [5, 6, 7, 8] (fun s5 s6 s7 s8 wr => ∃ (k : Nat) (s' : Ps) (acc : List Nd) (ops : List (List UInt8)), Hid (St w wr r q c z s' [(w.heap.size, ndZ)] [] s5 acc s6 (toB ops)) ∧ Hid (exFin lv (operL z (pz z f) lv k s' acc ops) = res) ∧ z.ws.length - s'.p < k ∧ Hid (acc.length = ops.length + 1) ∧ acc.length ≤ s'.p ∧ 10 * (z.ws.length - s'.p) + 8 - (lv + 1) ≤ f) (fun _ _ _ _ wr => z.ws.length - nxt wr r)
  case atStart => exact ⟨_, s1, [x], [], S2, HR2, by omega, Lib.hid rfl, by simp; omega, by omega⟩
  case round =>
   clear S2 HR2 g1
   obtain ⟨k, s', acc, ops, ST, SP, hk, HL, hacc, hfk⟩ := hrel
   obtain ⟨k, rfl⟩ : ∃ k', k = k' + 1 := ⟨k - 1, by omega⟩
   have hle := ST.out.rd.le
   have hnx := ST.out.nxt
   have cO := operator_any wr r q c z s' lv ST.out.rd (by omega)
   go_wp2_with fail
   refine cO.mono ?_
   intro e w3 hE
   cases hop : operW z s'.p lv with
   | some op =>
    rw [hop] at hE
    obtain ⟨rfl, r3, o3⟩ := hE
    have S3 := Lib.hid (ST.out.call o3 r3)
    have hltp := operW_lt hop
    have HOP := Lib.hid hop
    have hol : (toB ops).length ≤ 2000000 := by have := HL.out; rw [List.length_map]; omega
    obtain ⟨v', W4, hrun, S4⟩ := S3.out.tpush ⟨op.toArray⟩ hol 25
    have HRUN := Lib.hid hrun
    have S40 := Lib.hid S4
    clear hop r3 o3 cO ST hrun S4 S3 hol
    go_wp2_with (at_builtin; refine wpList_append_runs rfl _ _ 25 rfl _ _ _ _ rfl rfl HRUN.out ?_)
    refine (CE.out W4 ⟨s'.p + 1, s'.o⟩ S40.out.rd (by simp only; omega)).mono ?_
    intro e w5 hE
    cases hx : (pz z f).ex (lv + 1) ⟨s'.p + 1, s'.o⟩ with
    | error y =>
     obtain ⟨rfl, o5⟩ := hE.no hx
     have HRE := Lib.hid (show res = .error y by rw [← SP.out, operL_err HOP.out hx]; rfl)
     clear hE hx
     go_wp2_with fail
     exact ⟨rfl, S40.out.giv HRE.out o5⟩
    | ok y =>
     obtain ⟨x, s3⟩ := y
     obtain ⟨vx, rfl, hv, r5, o5⟩ := hE.yes hx
     obtain ⟨qn, mn, ql, ml, rfl⟩ := EncN.open hv
     have g1 := And.intro (pz_ex_gt hx).1 (pz_ex_gt hx).2.1
     simp only at g1
     have HR2 := Lib.hid (show exFin lv (operL z (pz z f) lv k s3 (acc ++ [x]) (ops ++ [op])) = res by rw [← SP.out, operL_ok HOP.out hx])
     have S5 := S40.out.got o5 r5 hv
     obtain ⟨v2, W6, hrun2, S6⟩ := S5.push (x := x) (List.mem_cons_self ..) (by omega) 26
     have S7 := Lib.hid (show St w W6 r q c z s3 [(w.heap.size, ndZ)] [] v2 (acc ++ [x]) v' (toB (ops ++ [op])) from by
      have := S6.sub (N' := []) (fun p hp => by cases hp)
      rw [show toB (ops ++ [op]) = toB ops ++ [⟨op.toArray⟩] from by simp [toB]]
      exact this)
     have HL2 := Lib.hid (show (acc ++ [x]).length = (ops ++ [op]).length + 1 by have := HL.out; simp only [List.length_append, List.length_singleton]; omega)
     have hnx2 := S7.out.nxt
     obtain ⟨nl, hnl⟩ : ∃ n, x.names.length = n := ⟨_, rfl⟩
     obtain ⟨kl, hkl⟩ : ∃ n, x.kids.length = n := ⟨_, rfl⟩
     rw [hnl, hkl] at hrun2 ⊢
     have HRUN2 := Lib.hid hrun2
     clear hE hx r5 o5 hv hnl hkl S5 S6 hrun2 S40 SP HRUN HL
     go_wp2_with (at_builtin; refine wpList_append_runs rfl _ _ 26 rfl _ _ _ _ rfl rfl HRUN2.out ?_)
     go_roundw
     case rel => exact ⟨k, s3, acc ++ [x], ops ++ [op], S7, HR2, by omega, HL2, by rw [List.length_append]; simp; omega, by omega⟩
     case measure => rw [hnx, hnx2]; omega
   | none =>
    rw [hop] at hE
    obtain ⟨rfl, e3⟩ := hE
    have S3 := Lib.hid (ST.out.ext e3)
    have HRF := Lib.hid (show res = .ok (if lv = 3 then rightN acc ops else leftN (acc.headD (ndK 0 [])) ops acc.tail, s') by rw [← SP.out, operL_end hop]; rfl)
    clear hop e3 cO ST SP
    obtain ⟨m, hm⟩ : ∃ m, ops.length = m := ⟨_, rfl⟩
    have HM := Lib.hid hm
    have hal : acc.length = m + 1 := by rw [HL.out, hm]
    have HAL := Lib.hid hal
    have hm0 : m + 1 ≤ 1048576 := by omega
    have htb : (toB ops).length = m := by rw [List.length_map, hm]
    have HTB := Lib.hid htb
    obtain ⟨b, cap, qn, mn, ql, ml, hs5, hbl, ⟨x0, x1, x2, x3, x4, x5⟩, S4⟩ := S3.out.elem (j := 0) (by omega)
    obtain ⟨qt, ct, hs6⟩ := S3.out.tslice
    clear x0 x1 x2 x3 x4 x5 S4 hbl
    rw [hal] at hs5
    rw [htb] at hs6
    subst hs5
    subst hs6
    clear hm hal htb HL
    by_cases h3 : lv = 3
    ·have t3 : ((lv : Int) == 3) = true := by rw [beq_iff_eq]; omega
     have HRG := Lib.hid (show res = .ok (rightN acc ops, s') by rw [HRF.out, if_pos h3])
     clear h3 HRF
     have hi0 : (m : Int) + 1 - 1 = (m : Int) := by omega
     have hiI : (m : Int) < (m : Int) + 1 := by omega
     have hiN : m < m + 1 := by omega
     have hmI : (0 : Int) ≤ (m : Int) := by omega
     obtain ⟨y, hy⟩ : ∃ y, acc[m]? = some y := ⟨_, List.getElem?_eq_getElem (show m < acc.length by rw [HAL.out]; omega)⟩
     obtain ⟨b2, cap2, qn, mn, ql, ml, hs5, hbl, ⟨x0, x1, x2, x3, x4, x5⟩, S4⟩ := S3.out.elemY hy
     rw [HAL.out] at hs5
     obtain ⟨rfl, rfl⟩ : b = b2 ∧ cap = cap2 := by simp only [Value.slice.injEq, Option.some.injEq, Addr.mk.injEq, and_true, true_and] at hs5; exact hs5
     have HEL := Lib.hid (rightN_last HM.out HAL.out hy)
     obtain ⟨nl, hnl⟩ : ∃ n, y.names.length = n := ⟨_, rfl⟩
     obtain ⟨kl, hkl⟩ : ∃ n, y.kids.length = n := ⟨_, rfl⟩
     rw [hnl] at x4 S4
     rw [hkl] at x5 S4
     have hwsB : w.heap.size < w3.heap.size := (S3.out.fst (List.mem_cons_self ..)).2
     have S5 := Lib.hid (S4.newK (ndBx (.int .i64 y.k) (.string y.name) (.string y.text) (.int .i64 y.n) (.slice qn nl mn) (.slice ql kl ml)))
     clear hs5 hy S4 hnl hkl S3
     go_upto_region 11 with (fail)
     clear x0 x1 x2 x3 x4 x5 hi0 hiI hiN hbl
     generalize w3.alloc (.cells #[.int .i64 y.k, .string y.name, .string y.text, .int .i64 y.n, .slice qn nl mn, .slice ql kl ml] 28) = W5 at *
     go_wp2_with fail
     go_loopw [10] (fun s10 wr => ∃ (j : Nat) (cu : Nd) (qc qd : Option Addr) (nc mc nd md : Nat), j ≤ m ∧ s10 = .int .i64 ((j : Int) - 1) ∧ Hid (cu = rightN (acc.drop j) (ops.drop j)) ∧ Hid (St w wr r q c z s' [(w3.heap.size, ndBx (.int .i64 cu.k) (.string cu.name) (.string cu.text) (.int .i64 cu.n) (.slice qc nc mc) (.slice qd nd md)), (w.heap.size, ndZ)] [.nd (ndV cu (.slice qc nc mc) (.slice qd nd md)) cu] (.slice (some ⟨b, 0, none⟩) (m + 1) cap) acc (.slice qt m ct) (toB ops))) (fun s10 _ => (intOf s10 + 1).toNat)
     case atStart => exact ⟨m, y, qn, ql, nl, mn, kl, ml, Nat.le_refl _, rfl, Lib.hid HEL.out.symm, S5⟩
     case round =>
      clear S5 HEL
      obtain ⟨j, cu, qc, qd, nc, mc, nd, md, hj, rfl, HCU, ST⟩ := hrel
      by_cases hj0 : j = 0
      ·subst hj0
       have HRH := Lib.hid (show res = .ok (cu, s') by rw [HRG.out, HCU.out]; rfl)
       clear HRG HCU
       obtain ⟨c0, c1, c2, c3, c4, c5, _⟩ := ST.out.six
       obtain ⟨_, _, _, _, _, _, f0, f1, f2, f3, f4, f5⟩ := ST.out.swap.six
       have hltX := (ST.out.fst (b := w.heap.size) (o := ndZ) (by simp)).2
       go_wp2_with fail
       exact bodyPost_ret (v := ndV cu (.slice qc nc mc) (.slice qd nd md)) (by simp [results, Tryz.results178, go_sem, *]) rfl (ST.out.swap.fin (by intro p hp; simp at hp; rw [hp]; simp only; omega) (x := cu) _ _ HRH.out fun W' hW' => hW'.pt (List.mem_cons_self ..))
      ·obtain ⟨j, rfl⟩ : ∃ j', j = j' + 1 := ⟨j - 1, by omega⟩
       have hji : (((j + 1 : Nat) : Int) - 1) = (j : Int) := by omega
       rw [hji]
       have hjm1 : (j : Int) < (m : Int) + 1 := by omega
       have hjm : (j : Int) < (m : Int) := by omega
       have hjI : (0 : Int) ≤ (j : Int) := by omega
       have hjb : (m : Int) + 1 ≤ 1048576 := by omega
       obtain ⟨y, hy⟩ : ∃ y, acc[j]? = some y := ⟨_, List.getElem?_eq_getElem (show j < acc.length by rw [HAL.out]; omega)⟩
       obtain ⟨o, ho⟩ : ∃ o, ops[j]? = some o := ⟨_, List.getElem?_eq_getElem (show j < ops.length by rw [HM.out]; omega)⟩
       have hto : (toB ops)[j]? = some ⟨o.toArray⟩ := by simp [toB, ho]
       have HCN := Lib.hid (rightN_step HM.out HAL.out hy ho)
       rw [← HCU.out] at HCN
       obtain ⟨bt, capt, hs6, t0⟩ := ST.out.telemY hto
       rw [HTB.out] at hs6
       obtain ⟨rfl, rfl⟩ : qt = some ⟨bt, 0, none⟩ ∧ ct = capt := by simp only [Value.slice.injEq, true_and] at hs6; exact hs6
       obtain ⟨b2, cap2, qn, mn, ql, ml, hs5, hbl, ⟨x0, x1, x2, x3, x4, x5⟩, S4⟩ := ST.out.elemY hy
       rw [HAL.out] at hs5
       obtain ⟨rfl, rfl⟩ : b = b2 ∧ cap = cap2 := by simp only [Value.slice.injEq, Option.some.injEq, Addr.mk.injEq, and_true, true_and] at hs5; exact hs5
       obtain ⟨nl, hnl⟩ : ∃ n, y.names.length = n := ⟨_, rfl⟩
       obtain ⟨kl, hkl⟩ : ∃ n, y.kids.length = n := ⟨_, rfl⟩
       rw [hnl] at x4 S4
       rw [hkl] at x5 S4
       obtain ⟨k0, k1, k2, k3, k4, k5, _⟩ := S4.six
       have SC := Lib.hid S4.drew
       clear hs5 hs6 hy ho hto S4 hnl hkl ST HCU hji hj0
       go_upto_region 14 with (fail)
       refine wp_region_gate (S := fun w' => w'.cell? ⟨b, j * 6, none⟩ = some (.int .i64 y.k) ∧ w'.cell? ⟨b, j * 6 + 1, none⟩ = some (.string y.name) ∧ w'.cell? ⟨b, j * 6 + 2, none⟩ = some (.string y.text) ∧ w'.cell? ⟨b, j * 6 + 3, none⟩ = some (.int .i64 y.n) ∧ w'.cell? ⟨b, j * 6 + 4, none⟩ = some (.slice qn nl mn) ∧ w'.cell? ⟨b, j * 6 + 5, none⟩ = some (.slice ql kl ml) ∧ w'.cell? ⟨bt, j, none⟩ = some (.string ⟨o.toArray⟩) ∧ w'.cell? ⟨w3.heap.size, 0, none⟩ = some (.int .i64 cu.k) ∧ w'.cell? ⟨w3.heap.size, 1, none⟩ = some (.string cu.name) ∧ w'.cell? ⟨w3.heap.size, 2, none⟩ = some (.string cu.text) ∧ w'.cell? ⟨w3.heap.size, 3, none⟩ = some (.int .i64 cu.n) ∧ w'.cell? ⟨w3.heap.size, 4, none⟩ = some (.slice qc nc mc) ∧ w'.cell? ⟨w3.heap.size, 5, none⟩ = some (.slice qd nd md)) (g := 9) (by kernel_rfl) (⟨x0, x1, x2, x3, x4, x5, t0, k0, k1, k2, k3, k4, k5⟩) (fun hHeld => ?_)
       refine puG (i := 0) (v := ?_) ?_
       try simp only [Act.put, pzz]
       refine puG (i := 1) (v := ?_) ?_
       try simp only [Act.put, pzz]
       refine puG (i := 2) (v := ?_) ?_
       try simp only [Act.put, pzz]
       refine tkG (i := 3) (v := ?_) ?_
       try simp only [Act.put, pzz]
       refine puG (i := 4) (v := ?_) ?_
       try simp only [Act.put, pzz]
       refine puG (i := 5) (v := ?_) ?_
       try simp only [Act.put, pzz]
       refine puG (i := 6) (v := ?_) ?_
       try simp only [Act.put, pzz]
       refine tkG (i := 7) (v := ?_) ?_
       try simp only [Act.put, pzz]
       refine tkG (i := 8) (v := ?_) ?_
       try simp only [Act.put, pzz]
       refine wpAnyG_ready (rs := [9]) (by kernel_rfl) (by simp) ?_
       refine AllReadyG.free rfl (by kernel_rfl) (fun K hK => ?_) AllReadyG.nil
       go_simp
       refine (bin_any _ _ y cu qn nl mn ql kl ml qc nc mc qd nd md).mono ?_
       intro e w5 hE
       obtain ⟨g, rfl, S6⟩ := SC.out.binned (a := y) (b := cu) (List.mem_cons_self ..) (List.mem_cons_of_mem _ (List.mem_cons_self ..)) hE
       obtain ⟨n', hn'⟩ : ∃ n', ndS 21 ⟨o.toArray⟩ [y, cu] = n' := ⟨_, rfl⟩
       rw [hn'] at S6 ⊢
       have HN := Lib.hid hn'
       have S60 := S6.sub (N' := [.nd (ndV n' (.slice none 0 0) (.slice (some ⟨g, 0, none⟩) 2 2)) n']) (fun p hp => by simp only [List.mem_singleton] at hp; subst hp; exact List.mem_cons_self ..)
       obtain ⟨_, _, _, _, _, _, f0, f1, f2, f3, f4, f5⟩ := S60.six
       have l5 := (S60.fst (List.mem_cons_self ..)).2
       have KK := Lib.hid (And.intro f0 (And.intro f1 (And.intro f2 (And.intro f3 (And.intro f4 f5)))))
       have S7 := Lib.hid (S60.set6 (by intro p hp; simp at hp; rw [hp]; simp only; omega) (.int .i64 n'.k) (.string n'.name) (.string n'.text) (.int .i64 n'.n) (.slice none 0 0) (.slice (some ⟨g, 0, none⟩) 2 2))
       clear hE S6 S60 SC f0 f1 f2 f3 f4 f5 k0 k1 k2 k3 k4 k5 x0 x1 x2 x3 x4 x5 t0 hn'
       clear hHeld
       refine hK.out _ _ ?_
       clear hK K
       try simp only [Act.put, pzz]
       refine wpAnyG_ready (rs := [10]) (by kernel_rfl) (by simp) ?_
       refine AllReadyG.free rfl (by kernel_rfl) (fun K hK => ?_) AllReadyG.nil
       obtain ⟨f0, f1, f2, f3, f4, f5⟩ := KK.out
       go_simp
       clear KK f0 f1 f2 f3 f4 f5
       refine hK.out _ _ ?_
       clear hK K
       try simp only [Act.put, pzz]
       refine wpAnyG_done (by kernel_rfl) ?_ _
       clear hjm1 hjm
       go_wp2_with fail
       go_roundw
       case rel => exact ⟨j, n', none, some ⟨g, 0, none⟩, 0, 0, 2, 2, by omega, rfl, Lib.hid (HN.out.symm.trans HCN.out.symm), S7⟩
       case measure => simp only [intOf]; omega
    ·have t3 : ((lv : Int) == 3) = false := by rw [beq_eq_false_iff_ne]; omega
     have HRG := Lib.hid (show res = .ok (leftN (acc.headD (ndK 0 [])) ops acc.tail, s') by rw [HRF.out, if_neg h3])
     clear h3 HRF
     have hmI : (0 : Int) ≤ (m : Int) := by omega
     have hmI0 : (0 : Int) < (m : Int) + 1 := by omega
     have hmN0 : 0 < m + 1 := by omega
     obtain ⟨y, hy⟩ : ∃ y, acc[0]? = some y := ⟨_, List.getElem?_eq_getElem (show 0 < acc.length by rw [HAL.out]; omega)⟩
     obtain ⟨b2, cap2, qn, mn, ql, ml, hs5, hbl, ⟨x0, x1, x2, x3, x4, x5⟩, S4⟩ := S3.out.elemY hy
     rw [HAL.out] at hs5
     obtain ⟨rfl, rfl⟩ : b = b2 ∧ cap = cap2 := by simp only [Value.slice.injEq, Option.some.injEq, Addr.mk.injEq, and_true, true_and] at hs5; exact hs5
     have HEL := Lib.hid (show y = leftN (acc.headD (ndK 0 [])) (ops.take 0) (acc.tail.take 0) by cases acc with | nil => simp at hy | cons a l => simp at hy; simp [leftN, hy])
     obtain ⟨nl, hnl⟩ : ∃ n, y.names.length = n := ⟨_, rfl⟩
     obtain ⟨kl, hkl⟩ : ∃ n, y.kids.length = n := ⟨_, rfl⟩
     rw [hnl] at x4 S4
     rw [hkl] at x5 S4
     simp only [Nat.zero_mul, Nat.zero_add] at x0 x1 x2 x3 x4 x5
     have hwsB : w.heap.size < w3.heap.size := (S3.out.fst (List.mem_cons_self ..)).2
     have S5 := Lib.hid (S4.newK (ndBx (.int .i64 y.k) (.string y.name) (.string y.text) (.int .i64 y.n) (.slice qn nl mn) (.slice ql kl ml)))
     clear hs5 hy S4 hnl hkl S3
     go_upto_region 17 with (fail)
     clear x0 x1 x2 x3 x4 x5 hmI0 hmN0 hbl
     generalize w3.alloc (.cells #[.int .i64 y.k, .string y.name, .string y.text, .int .i64 y.n, .slice qn nl mn, .slice ql kl ml] 28) = W5 at *
     go_wp2_with fail
     go_loopw [75, 12, 13] (fun s75 s12 s13 wr => ∃ (j : Nat) (cu : Nd) (qc qd : Option Addr) (nc mc nd md : Nat), j ≤ m ∧ s75 = .int .i64 (j : Int) ∧ Hid (cu = leftN (acc.headD (ndK 0 [])) (ops.take j) (acc.tail.take j)) ∧ Hid (St w wr r q c z s' [(w3.heap.size, ndBx (.int .i64 cu.k) (.string cu.name) (.string cu.text) (.int .i64 cu.n) (.slice qc nc mc) (.slice qd nd md)), (w.heap.size, ndZ)] [.nd (ndV cu (.slice qc nc mc) (.slice qd nd md)) cu] (.slice (some ⟨b, 0, none⟩) (m + 1) cap) acc (.slice qt m ct) (toB ops))) (fun s75 _ _ _ => ((m : Int) - intOf s75).toNat)
     case atStart => exact ⟨0, y, qn, ql, nl, mn, kl, ml, Nat.zero_le _, rfl, HEL, S5⟩
     case round =>
      clear S5 HEL
      obtain ⟨j, cu, qc, qd, nc, mc, nd, md, hj, rfl, HCU, ST⟩ := hrel
      by_cases hjm0 : j = m
      ·subst hjm0
       have HRH := Lib.hid (show res = .ok (cu, s') by
        rw [HRG.out, HCU.out, List.take_of_length_le (by rw [HM.out]; omega), List.take_of_length_le (by rw [List.length_tail, HAL.out]; omega)])
       have hjj : ((j : Int) < (j : Int)) = False := by simp
       clear HRG HCU
       obtain ⟨c0, c1, c2, c3, c4, c5, _⟩ := ST.out.six
       obtain ⟨_, _, _, _, _, _, f0, f1, f2, f3, f4, f5⟩ := ST.out.swap.six
       have hltX := (ST.out.fst (b := w.heap.size) (o := ndZ) (by simp)).2
       go_wp2_with fail
       exact bodyPost_ret (v := ndV cu (.slice qc nc mc) (.slice qd nd md)) (by simp [results, Tryz.results178, go_sem, *]) rfl (ST.out.swap.fin (by intro p hp; simp at hp; rw [hp]; simp only; omega) (x := cu) _ _ HRH.out fun W' hW' => hW'.pt (List.mem_cons_self ..))
      ·have hjN : j < m := by omega
       have hjm1 : (j : Int) + 1 < (m : Int) + 1 := by omega
       have hjm : (j : Int) < (m : Int) := by omega
       have hjI : (0 : Int) ≤ (j : Int) := by omega
       have hjI1 : (0 : Int) ≤ (j : Int) + 1 := by omega
       have hjb : (m : Int) + 1 ≤ 1048576 := by omega
       have hjw : IntKind.i64.wrap ((j : Int) + 1) = (j : Int) + 1 := IntWalk.i64_in _ (by omega)
       have hjt : ((j : Int) + 1).toNat = j + 1 := by omega
       obtain ⟨y, hy⟩ : ∃ y, acc[j + 1]? = some y := ⟨_, List.getElem?_eq_getElem (show j + 1 < acc.length by rw [HAL.out]; omega)⟩
       obtain ⟨o, ho⟩ : ∃ o, ops[j]? = some o := ⟨_, List.getElem?_eq_getElem (show j < ops.length by rw [HM.out]; omega)⟩
       have hto : (toB ops)[j]? = some ⟨o.toArray⟩ := by simp [toB, ho]
       have HCN := Lib.hid (leftN_step ops acc.tail (acc.headD (ndK 0 [])) j o y ho (by rw [List.getElem?_tail]; exact hy))
       rw [← HCU.out] at HCN
       obtain ⟨bt, capt, hs6, t0⟩ := ST.out.telemY hto
       rw [HTB.out] at hs6
       obtain ⟨rfl, rfl⟩ : qt = some ⟨bt, 0, none⟩ ∧ ct = capt := by simp only [Value.slice.injEq, true_and] at hs6; exact hs6
       obtain ⟨b2, cap2, qn, mn, ql, ml, hs5, hbl, ⟨x0, x1, x2, x3, x4, x5⟩, S4⟩ := ST.out.elemY hy
       rw [HAL.out] at hs5
       obtain ⟨rfl, rfl⟩ : b = b2 ∧ cap = cap2 := by simp only [Value.slice.injEq, Option.some.injEq, Addr.mk.injEq, and_true, true_and] at hs5; exact hs5
       obtain ⟨nl, hnl⟩ : ∃ n, y.names.length = n := ⟨_, rfl⟩
       obtain ⟨kl, hkl⟩ : ∃ n, y.kids.length = n := ⟨_, rfl⟩
       rw [hnl] at x4 S4
       rw [hkl] at x5 S4
       obtain ⟨k0, k1, k2, k3, k4, k5, _⟩ := S4.six
       have SC := Lib.hid S4.drew
       clear hs5 hs6 hy ho hto S4 hnl hkl ST HCU hjm0
       go_upto_region 20 with (fail)
       refine wp_region_gate (S := fun w' => w'.cell? ⟨b, (j + 1) * 6, none⟩ = some (.int .i64 y.k) ∧ w'.cell? ⟨b, (j + 1) * 6 + 1, none⟩ = some (.string y.name) ∧ w'.cell? ⟨b, (j + 1) * 6 + 2, none⟩ = some (.string y.text) ∧ w'.cell? ⟨b, (j + 1) * 6 + 3, none⟩ = some (.int .i64 y.n) ∧ w'.cell? ⟨b, (j + 1) * 6 + 4, none⟩ = some (.slice qn nl mn) ∧ w'.cell? ⟨b, (j + 1) * 6 + 5, none⟩ = some (.slice ql kl ml) ∧ w'.cell? ⟨w3.heap.size, 0, none⟩ = some (.int .i64 cu.k) ∧ w'.cell? ⟨w3.heap.size, 1, none⟩ = some (.string cu.name) ∧ w'.cell? ⟨w3.heap.size, 2, none⟩ = some (.string cu.text) ∧ w'.cell? ⟨w3.heap.size, 3, none⟩ = some (.int .i64 cu.n) ∧ w'.cell? ⟨w3.heap.size, 4, none⟩ = some (.slice qc nc mc) ∧ w'.cell? ⟨w3.heap.size, 5, none⟩ = some (.slice qd nd md)) (g := 7) (by kernel_rfl) (⟨x0, x1, x2, x3, x4, x5, k0, k1, k2, k3, k4, k5⟩) (fun hHeld => ?_)
       refine puG (i := 0) (v := ?_) ?_
       try simp only [Act.put, pzz]
       refine tkG (i := 1) (v := ?_) ?_
       try simp only [Act.put, pzz]
       refine puG (i := 2) (v := ?_) ?_
       try simp only [Act.put, pzz]
       refine puG (i := 3) (v := ?_) ?_
       try simp only [Act.put, pzz]
       refine puG (i := 4) (v := ?_) ?_
       try simp only [Act.put, pzz]
       refine puG (i := 5) (v := ?_) ?_
       try simp only [Act.put, pzz]
       refine tkG (i := 6) (v := ?_) ?_
       try simp only [Act.put, pzz]
       refine wpAnyG_ready (rs := [7]) (by kernel_rfl) (by simp) ?_
       refine AllReadyG.free rfl (by kernel_rfl) (fun K hK => ?_) AllReadyG.nil
       go_simp
       refine (bin_any _ _ cu y qc nc mc qd nd md qn nl mn ql kl ml).mono ?_
       intro e w5 hE
       obtain ⟨g, rfl, S6⟩ := SC.out.binned (a := cu) (b := y) (List.mem_cons_of_mem _ (List.mem_cons_self ..)) (List.mem_cons_self ..) hE
       obtain ⟨n', hn'⟩ : ∃ n', ndS 21 ⟨o.toArray⟩ [cu, y] = n' := ⟨_, rfl⟩
       rw [hn'] at S6 ⊢
       have HN := Lib.hid hn'
       have S60 := S6.sub (N' := [.nd (ndV n' (.slice none 0 0) (.slice (some ⟨g, 0, none⟩) 2 2)) n']) (fun p hp => by simp only [List.mem_singleton] at hp; subst hp; exact List.mem_cons_self ..)
       obtain ⟨_, _, _, _, _, _, f0, f1, f2, f3, f4, f5⟩ := S60.six
       have l5 := (S60.fst (List.mem_cons_self ..)).2
       have KK := Lib.hid (And.intro f0 (And.intro f1 (And.intro f2 (And.intro f3 (And.intro f4 f5)))))
       have S7 := Lib.hid (S60.set6 (by intro p hp; simp at hp; rw [hp]; simp only; omega) (.int .i64 n'.k) (.string n'.name) (.string n'.text) (.int .i64 n'.n) (.slice none 0 0) (.slice (some ⟨g, 0, none⟩) 2 2))
       clear hE S6 S60 SC f0 f1 f2 f3 f4 f5 k0 k1 k2 k3 k4 k5 x0 x1 x2 x3 x4 x5 t0 hn'
       clear hHeld
       refine hK.out _ _ ?_
       clear hK K
       try simp only [Act.put, pzz]
       refine wpAnyG_ready (rs := [8]) (by kernel_rfl) (by simp) ?_
       refine AllReadyG.free rfl (by kernel_rfl) (fun K hK => ?_) AllReadyG.nil
       obtain ⟨f0, f1, f2, f3, f4, f5⟩ := KK.out
       go_simp
       clear KK f0 f1 f2 f3 f4 f5
       refine hK.out _ _ ?_
       clear hK K
       try simp only [Act.put, pzz]
       refine wpAnyG_done (by kernel_rfl) ?_ _
       clear hjm1 hjm
       go_wp2_with fail
       go_roundw
       case rel => exact ⟨j + 1, n', none, some ⟨g, 0, none⟩, 0, 0, 2, 2, by omega, by rfl, Lib.hid (HN.out.symm.trans HCN.out.symm), S7⟩
       case measure => simp only [intOf]; omega
end Go.Proofs.YtkbcnacjaakleaaGreatDoor
