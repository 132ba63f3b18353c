/- Trees built of what was read; what a function of the parser leaves. names: names with commas between. What the parser's functions by fuel tell; list: expressions with commas between. within: something within a bracket or a block. Boxes of trees; is within a region; block. -/
import Derived.Test.YtkbcnacjaakleaaGreatDoorYP07
set_option maxRecDepth 100000
set_option maxHeartbeats 32000000
set_option linter.unusedVariables false
set_option linter.unusedSimpArgs false
namespace Go.Proofs.YtkbcnacjaakleaaGreatDoor
open Go.RowKit

section
variable {w W W' : World} {r : Nat} {q : Option Addr} {c : Nat} {z : Wz} {s s' : Ps} {K K' : List (Nat × Obj)} {N N' : List Pt} {lv tv : Value} {l : List Nd} {tl : List ByteArray}
theorem St.tpush (h : St w W r q c z s K N lv l tv tl) (x : ByteArray) (hlen : tl.length ≤ 2000000) (ty : TypeId) :
  ∃ v' W', AppRuns Tryz.prog 25 ty tv (.slice (some ⟨W.heap.size, 0, none⟩) 1 1) (W.alloc (.cells #[.string x] 9)) v' W' ∧ St w W' r q c z s K N lv l v' (tl ++ [x]) := by
 have h1 := h.ext ((Ext.refl W).alloc (.cells #[.string x] 9))
 have hb := Blk.new W 9 #[.string x]
 have hsz : (W.alloc (.cells #[.string x] 9)).heap.size = W.heap.size + 1 := size_alloc _ _
 generalize W.alloc (.cells #[.string x] 9) = W1 at *
 obtain ⟨i0, hi, hz0, hz1, hz2⟩ := info_parts infoTx
 obtain ⟨v', W', a1, a2, a3, _, a4⟩ := run_append_own_at (P := Tryz.prog) (w := W1) w.heap.size 25 ty 9 i0 _ 1 16 Tryz.underlying25 hi hz0 hz1 hz2 rfl (by omega) tv tl.length (tl.map Value.string) h1.txt ⟨W.heap.size, 0, none⟩ 1 1
  [.string x] rfl (fun j u hu => by
   have hadd : (⟨W.heap.size, 0, none⟩ : Addr).add j = ⟨W.heap.size, 0 + j, none⟩ := by unfold Addr.add; split <;> simp_all
   rw [hadd, hb.cell, Nat.zero_add]
   simpa using hu) (by intro u hu; simp at hu; rcases hu with rfl; rfl) (by unfold maxLen; omega) (by omega) h1.le
 have hlow := h.low
 have hrow := h1.txt.lt
 have hle := h.le
 have cell' : ∀ b o y, okS w K lv tv b → W1.cell? ⟨b, o, none⟩ = some y → W'.cell? ⟨b, o, none⟩ = some y := fun b o y hbk hc => by
  have hlt := cell_lt hc
  exact (a3.cell_far ⟨b, o, none⟩ hlt (fun e => hbk.txt b e.symm rfl)).trans hc
 have blk' : ∀ k, k < w.heap.size → W'.heap[k]? = W1.heap[k]? := fun k hk => a3.block k (by omega) (fun e => by have := (hrow k e.symm).1; omega)
 have nd1 : ∀ p ∈ N, PtAt (okS w K lv tv) W1 p := h1.pts
 have okk0 : ∀ b, b < W.heap.size → okS w K lv tv b → okS w K lv v' b := fun b hlt hbk => ⟨hbk.lo, hbk.box, hbk.row, fun y hy e => by
  rcases a4 with a4 | a4
  ·rw [a4] at hy; exact hbk.txt y hy e
  ·rw [a4] at hy
   have := Option.some.inj hy
   omega⟩
 have okk1 : ∀ b, b < W1.heap.size → okS w K lv tv b → okS w K lv v' b := fun b hlt hbk => ⟨hbk.lo, hbk.box, hbk.row, fun y hy e => by
  rcases a4 with a4 | a4
  ·rw [a4] at hy; exact hbk.txt y hy e
  ·rw [a4] at hy
   have := Option.some.inj hy
   omega⟩
 obtain ⟨s0, h0⟩ := h.rd0
 obtain ⟨d, rows, hr1, hr2, hr3⟩ := h1.row.ex
 refine ⟨v', W', ⟨a1⟩, ⟨h0.keep h1.rd (fun k hk => blk' k hk), h.rd0, ⟨a3.os.trans h1.only.os, a3.tape.trans h1.only.tape, a3.output.trans h1.only.output, Nat.le_trans h1.only.size a3.size, fun k hk hn => (blk' k hk).trans (h1.only.block k hk hn)⟩, fun p hp => ?_, fun p hp => (nd1 p hp).keep cell' okk1, ⟨⟨d, rows, hr1, own_of_heap' a3 hr2 (fun y hy e => ?_), fun y hy => ⟨(hr3 y hy).1.keep cell' okk1, (hr3 y hy).2.keep cell' okk1⟩⟩, h1.row.box⟩, ?_, fun y hy hm => ?_⟩⟩
 ·obtain ⟨b1, b3⟩ := h1.box p hp
  exact ⟨b1, (a3.block p.1 (Array.getElem?_eq_some_iff.1 b3).1 (fun e => h1.tbox p.1 e.symm (List.mem_map.2 ⟨p, hp, rfl⟩))).trans b3⟩
 ·obtain ⟨_, cs, hc⟩ := h1.txt.sort y e
  obtain ⟨cs', hc'⟩ := h1.row.sort y hy
  rw [hc] at hc'
  injection Option.some.inj hc' with _ e2
  exact absurd e2 (by decide)
 ·show W'.ownsRow w.heap.size 9 1 v' (tl ++ [x]).length ((tl ++ [x]).map Value.string)
  rw [List.map_append, List.length_append]
  simpa using a2
 ·rcases a4 with a4 | a4
  ·rw [a4] at hy; exact h1.tbox y hy hm
  ·rw [a4] at hy
   obtain rfl := Option.some.inj hy
   obtain ⟨p, hp, e⟩ := List.mem_map.1 hm
   have := (Array.getElem?_eq_some_iff.1 (h1.box p hp).2).1
   omega
theorem St.pt (h : St w W r q c z s K N lv l tv tl) {p : Pt} (hp : p ∈ N) : PtAt (w.heap.size ≤ ·) W p := (h.pts p hp).imp (fun b _ hb => hb.lo)
theorem St.kidsd (h : St w W r q c z s K N lv l tv tl) : PtAt (w.heap.size ≤ ·) W (.kd lv l) := by
 obtain ⟨d, hd⟩ := h.row.kids
 exact ⟨d, hd⟩
theorem St.txts (h : St w W r q c z s K N lv l tv tl) : PtAt (w.heap.size ≤ ·) W (.tx tv tl) := h.txt.txts
theorem St.close (h : St w W r q c z s K N lv l tv tl) : St w W r q c z s K (.kd lv l :: N) (.slice none 0 0) [] tv tl := by
 have hok : ∀ b, okS w K lv tv b → okS w K (.slice none 0 0) tv b := fun b hb => ⟨hb.lo, hb.box, fun y hy => by simp [Value.ownBlock] at hy, hb.txt⟩
 refine ⟨h.rd, h.rd0, h.only, h.box, fun p hp => ?_, .nil _ _ _ _, h.txt, h.tbox⟩
 rcases List.mem_cons.1 hp with rfl | hp
 ·obtain ⟨d, hd⟩ := h.row.kids
  have hrow := h.row.sort
  obtain ⟨d, rows, h1, h2, h3⟩ := h.row.ex
  obtain ⟨qq, cc, rfl⟩ := h2.slice
  refine ⟨d + 1, qq, cc, by rw [← h1, List.length_map], fun h0 => ?_⟩
  rw [← h1, List.length_map] at h0
  obtain ⟨b, cap, e, hB, _, hcp, hx⟩ := h2.cells h0
  refine ⟨b, 0, by injection e, ⟨hB, h.row.box b (by rw [e]; rfl), fun y hy => by simp [Value.ownBlock] at hy, fun y hy e2 => ?_⟩, by injection e with e1 e2 e3; rw [← h1, List.length_map, e3]; exact hcp, fun i hi => ?_⟩
  ·subst e2
   obtain ⟨_, cs, hc⟩ := h.txt.sort b hy
   obtain ⟨cs', hc'⟩ := hrow b (by rw [e]; rfl)
   rw [hc] at hc'
   injection Option.some.inj hc' with _ e3
   exact absurd e3 (by decide)
  ·subst h1
   rw [List.length_map] at hi
   obtain ⟨g1, g2, g3, g4, g5, g6⟩ := hx i rows[i] (List.getElem?_eq_getElem hi)
   have hm := h3 rows[i] (List.getElem_mem hi)
   simp only [List.getElem_map]
   exact ⟨g1, g2, g3, g4, _, _, g5, g6, hm.1.imp (fun b _ h => hok b h), hm.2.imp (fun b _ h => hok b h)⟩
 ·exact (h.pts p hp).imp (fun b _ hb => hok b hb)
end
abbrev EncN (w : World) : Nd → Value → World → Prop := fun x v W => PtAt (w.heap.size ≤ ·) W (.nd v x)
abbrev EncT (w : World) : List ByteArray → Value → World → Prop := fun l v W => PtAt (w.heap.size ≤ ·) W (.tx v l)
abbrev EncK (w : World) : List Nd → Value → World → Prop := fun l v W => PtAt (w.heap.size ≤ ·) W (.kd v l)
theorem EncN.open {w W : World} {x : Nd} {v : Value} (h : EncN w x v W) : ∃ qn cn ql cl, v = ndV x (.slice qn x.names.length cn) (.slice ql x.kids.length cl) := by
 obtain ⟨d, nv, lv, rfl, ht, hk⟩ := h
 obtain ⟨qn, cn, rfl⟩ := ht.slice
 obtain ⟨ql, cl, rfl⟩ := hk.slice
 exact ⟨qn, cn, ql, cl, rfl⟩
section
variable {w W W' : World} {r : Nat} {q : Option Addr} {c : Nat} {z : Wz} {s s' : Ps} {K K' : List (Nat × Obj)} {N N' : List Pt} {lv tv : Value} {l : List Nd} {tl : List ByteArray}
theorem PtAt.mk (ok : Nat → Prop) (W : World) (k n : Int) (nm tx : ByteArray) {names : List ByteArray} {kids : List Nd} {nv lv : Value} (h1 : PtAt ok W (.tx nv names)) (h2 : PtAt ok W (.kd lv kids)) :
  PtAt ok W (.nd (ndV (.mk k nm tx n names kids) nv lv) (.mk k nm tx n names kids)) := by
 obtain ⟨d, h2⟩ := h2
 exact ⟨d, nv, lv, rfl, h1, h2⟩
theorem PtAt.tx0 (ok : Nat → Prop) (W : World) : PtAt ok W (.tx (.slice none 0 0) []) := TxtsAt.nil ok W
theorem PtAt.kd0 (ok : Nat → Prop) (W : World) : PtAt ok W (.kd (.slice none 0 0) []) := ⟨0, .nil ok W 0⟩
theorem KidsAt.one {ok : Nat → Prop} {b : Nat} {x : Nd} {nv lv' : Value} (hok : ok b) (hb : Blk W b 28 #[.int .i64 x.k, .string x.name, .string x.text, .int .i64 x.n, nv, lv']) {d : Nat} (h1 : TxtsAt ok W nv x.names) (h2 : KidsAt ok W d lv' x.kids) :
  KidsAt ok W (d + 1) (.slice (some ⟨b, 0, none⟩) 1 1) [x] := by
 refine ⟨_, 1, rfl, fun _ => ⟨b, 0, rfl, hok, Nat.le_refl _, fun i hi => ?_⟩⟩
 obtain rfl : i = 0 := by simp at hi; exact hi
 obtain ⟨e0, e1, e2, e3, e4, e5, _⟩ := six_blk hb
 exact ⟨e0, e1, e2, e3, nv, lv', e4, e5, h1, h2⟩
theorem KidsAt.two {ok : Nat → Prop} {b : Nat} {x y : Nd} {nx lx ny ly : Value} (hok : ok b) (hb : Blk W b 28 #[.int .i64 x.k, .string x.name, .string x.text, .int .i64 x.n, nx, lx, .int .i64 y.k, .string y.name, .string y.text, .int .i64 y.n, ny, ly]) {d : Nat}
  (h1 : TxtsAt ok W nx x.names) (h2 : KidsAt ok W d lx x.kids) (h3 : TxtsAt ok W ny y.names) (h4 : KidsAt ok W d ly y.kids) :
  KidsAt ok W (d + 1) (.slice (some ⟨b, 0, none⟩) 2 2) [x, y] := by
 refine ⟨_, 2, rfl, fun _ => ⟨b, 0, rfl, hok, Nat.le_refl _, fun i hi => ?_⟩⟩
 have hi2 : i < 2 := by simpa using hi
 rcases (by omega : i = 0 ∨ i = 1) with rfl | rfl
 ·exact ⟨hb.cell 0, hb.cell 1, hb.cell 2, hb.cell 3, nx, lx, hb.cell 4, hb.cell 5, h1, h2⟩
 ·exact ⟨hb.cell 6, hb.cell 7, hb.cell 8, hb.cell 9, ny, ly, hb.cell 10, hb.cell 11, h3, h4⟩
theorem St.okb (h : St w W r q c z s K N lv l tv tl) : okS w K lv tv W.heap.size := h.fresh (Nat.le_refl _)
theorem St.one (h : St w W r q c z s K N lv l tv tl) {x : Nd} {nv lv' : Value} (hx : Pt.nd (ndV x nv lv') x ∈ N) :
  St w (W.alloc (.cells #[.int .i64 x.k, .string x.name, .string x.text, .int .i64 x.n, nv, lv'] 28)) r q c z s K (.kd (.slice (some ⟨W.heap.size, 0, none⟩) 1 1) [x] :: N) lv l tv tl := by
 have hok := h.okb
 have hb := Blk.new W 28 #[.int .i64 x.k, .string x.name, .string x.text, .int .i64 x.n, nv, lv']
 have h1 := h.ext ((Ext.refl W).alloc (.cells #[.int .i64 x.k, .string x.name, .string x.text, .int .i64 x.n, nv, lv'] 28))
 obtain ⟨d, nv', lv2, he, ht, hk⟩ := h1.pts _ hx
 obtain ⟨rfl, rfl⟩ : nv = nv' ∧ lv' = lv2 := by
  simp only [ndV, Value.agg.injEq] at he
  have e4 := congrArg (fun a : Array Value => a[4]?) he
  have e5 := congrArg (fun a : Array Value => a[5]?) he
  exact ⟨by simpa using e4, by simpa using e5⟩
 exact h1.add ⟨_, KidsAt.one hok hb ht hk⟩
theorem St.two (h : St w W r q c z s K N lv l tv tl) {x y : Nd} {nx lx ny ly : Value} (hx : Pt.nd (ndV x nx lx) x ∈ N) (hy : Pt.nd (ndV y ny ly) y ∈ N) :
  St w (W.alloc (.cells #[.int .i64 x.k, .string x.name, .string x.text, .int .i64 x.n, nx, lx, .int .i64 y.k, .string y.name, .string y.text, .int .i64 y.n, ny, ly] 28)) r q c z s K (.kd (.slice (some ⟨W.heap.size, 0, none⟩) 2 2) [x, y] :: N) lv l tv tl := by
 have hok := h.okb
 have hb := Blk.new W 28 #[.int .i64 x.k, .string x.name, .string x.text, .int .i64 x.n, nx, lx, .int .i64 y.k, .string y.name, .string y.text, .int .i64 y.n, ny, ly]
 have h1 := h.ext ((Ext.refl W).alloc (.cells #[.int .i64 x.k, .string x.name, .string x.text, .int .i64 x.n, nx, lx, .int .i64 y.k, .string y.name, .string y.text, .int .i64 y.n, ny, ly] 28))
 obtain ⟨d, nv', lv2, he, ht, hk⟩ := h1.pts _ hx
 obtain ⟨rfl, rfl⟩ : nx = nv' ∧ lx = lv2 := by
  simp only [ndV, Value.agg.injEq] at he
  have e4 := congrArg (fun a : Array Value => a[4]?) he
  have e5 := congrArg (fun a : Array Value => a[5]?) he
  exact ⟨by simpa using e4, by simpa using e5⟩
 obtain ⟨d', nv', lv2, he, ht', hk'⟩ := h1.pts _ hy
 obtain ⟨rfl, rfl⟩ : ny = nv' ∧ ly = lv2 := by
  simp only [ndV, Value.agg.injEq] at he
  have e4 := congrArg (fun a : Array Value => a[4]?) he
  have e5 := congrArg (fun a : Array Value => a[5]?) he
  exact ⟨by simpa using e4, by simpa using e5⟩
 exact h1.add ⟨_, KidsAt.two hok hb ht (hk.upto (Nat.le_max_left d d')) ht' (hk'.upto (Nat.le_max_right d d'))⟩
theorem St.newbox (h : St w W r q c z s K N lv l tv tl) (u : Value) (cs : List Value) (t : TypeId) : St w (W.alloc (.cells (u :: cs).toArray t)) r q c z s K (.bx W.heap.size u cs :: N) lv l tv tl := by
 have hok := h.okb
 have hb := Blk.new W t (u :: cs).toArray
 exact (h.ext ((Ext.refl W).alloc _)).add ⟨hok, fun i x hx => by rw [hb.cell i]; simpa using hx⟩
theorem St.box6 (h : St w W r q c z s K N lv l tv tl) {b : Nat} {x0 x1 x2 x3 x4 x5 : Value} (hm : Pt.bx b x0 [x1, x2, x3, x4, x5] ∈ N) :
  w.heap.size ≤ b ∧ b < W.heap.size ∧ W.cell? ⟨b, 0, none⟩ = some x0 ∧ W.cell? ⟨b, 1, none⟩ = some x1 ∧ W.cell? ⟨b, 2, none⟩ = some x2 ∧ W.cell? ⟨b, 3, none⟩ = some x3 ∧ W.cell? ⟨b, 4, none⟩ = some x4 ∧ W.cell? ⟨b, 5, none⟩ = some x5 := by
 obtain ⟨h1, h2⟩ := h.pts _ hm
 exact ⟨h1.lo, cell_lt (h2 0 x0 rfl), h2 0 x0 rfl, h2 1 x1 rfl, h2 2 x2 rfl, h2 3 x3 rfl, h2 4 x4 rfl, h2 5 x5 rfl⟩
theorem St.ret (h : St w W r q c z s K N lv l tv tl) {res : PR Nd} {x : Nd} {v : Value} (hr : res = .ok (x, s)) (hp : PtAt (w.heap.size ≤ ·) W (.nd v x)) : RdR (EncN w) w r q c z res (.returned v) W := .mk1 hr h.only hp h.rd
theorem St.giv {α : Type} {Enc : α → Value → World → Prop} (h : St w W r q c z s K N lv l tv tl) {res : PR α} {y : Int × Int} (hr : res = .error y) (ho : Only r W W') : RdR Enc w r q c z res (.panicked [{ v := stopV y, recovered := false }]) W' := .mk0 hr (h.only.trans ho)
end
end Go.Proofs.YtkbcnacjaakleaaGreatDoor
namespace Go.Proofs.YtkbcnacjaakleaaGreatDoor
open Go.RowKit

def nxt (W : World) (r : Nat) : Nat := match W.cell? ⟨r, 1, none⟩ with | some (.int _ n) => n.toNat | _ => 0
section
variable {w W W' : World} {r : Nat} {q : Option Addr} {c : Nat} {z : Wz} {s s' : Ps} {K K' : List (Nat × Obj)} {N N' : List Pt} {lv tv : Value} {l : List Nd} {tl : List ByteArray}
theorem RdAt.nxt (h : RdAt W r q c z s) : nxt W r = s.p := by
 unfold Go.Proofs.YtkbcnacjaakleaaGreatDoor.nxt
 rw [h.four.2.1]
 simp
theorem St.nxt (h : St w W r q c z s K N lv l tv tl) : nxt W r = s.p := h.rd.nxt
theorem St.tone (h : St w W r q c z s K N lv l (.slice none 0 0) []) (x : ByteArray) :
  St w (W.alloc (.cells #[.string x] 9)) r q c z s K N lv l (.slice (some ⟨W.heap.size, 0, none⟩) 1 1) [x] := by
 have hok := h.okb
 have h1 := h.ext ((Ext.refl W).alloc (.cells #[.string x] 9))
 have hb := Blk.new W 9 #[.string x]
 have hc : ∀ b o' x', W.cell? ⟨b, o', none⟩ = some x' → (W.alloc (.cells #[.string x] 9)).cell? ⟨b, o', none⟩ = some x' := fun b o' x' hx => ((Ext.refl W).alloc _).cell hx
 have okk : ∀ b, b < W.heap.size → okS w K lv (.slice none 0 0) b → okS w K lv (.slice (some ⟨W.heap.size, 0, none⟩) 1 1) b := fun b hlt hb => ⟨hb.lo, hb.box, hb.row, fun y hy e => by
  have e2 : W.heap.size = y := Option.some.inj hy
  omega⟩
 obtain ⟨d, rows, e1, e2, e3⟩ := h.row.ex
 refine ⟨h1.rd, h1.rd0, h1.only, h1.box, fun p hp => (h.pts p hp).keep (fun b o' x _ hx => hc b o' x hx) okk, ⟨⟨d, rows, e1, e2.ext ((Ext.refl W).alloc _), fun x hx => ⟨(e3 x hx).1.keep (fun b o' x _ hx => hc b o' x hx) okk, (e3 x hx).2.keep (fun b o' x _ hx => hc b o' x hx) okk⟩⟩, h.row.box⟩, ⟨rfl, .inr ⟨W.heap.size, 1, _, rfl, h.le, hb, by simp, by first | decide | (unfold maxLen; omega), rfl, by simp⟩⟩, fun y hy => ?_⟩
 obtain rfl := Option.some.inj hy
 exact hok.box
theorem St.kone (h : St w W r q c z s K N (.slice none 0 0) [] tv tl) {x : Nd} {nv lv' : Value} (hx : Pt.nd (ndV x nv lv') x ∈ N) :
  St w (W.alloc (.cells #[.int .i64 x.k, .string x.name, .string x.text, .int .i64 x.n, nv, lv'] 28)) r q c z s K N (.slice (some ⟨W.heap.size, 0, none⟩) 1 1) [x] tv tl := by
 have hok := h.okb
 have h1 := h.ext ((Ext.refl W).alloc (.cells #[.int .i64 x.k, .string x.name, .string x.text, .int .i64 x.n, nv, lv'] 28))
 have hb := Blk.new W 28 #[.int .i64 x.k, .string x.name, .string x.text, .int .i64 x.n, nv, lv']
 have hc : ∀ b o' x', W.cell? ⟨b, o', none⟩ = some x' → (W.alloc (.cells #[.int .i64 x.k, .string x.name, .string x.text, .int .i64 x.n, nv, lv'] 28)).cell? ⟨b, o', none⟩ = some x' := fun b o' x' hx => ((Ext.refl W).alloc _).cell hx
 have okk : ∀ b, b < W.heap.size → okS w K (.slice none 0 0) tv b → okS w K (.slice (some ⟨W.heap.size, 0, none⟩) 1 1) tv b := fun b hlt hb => ⟨hb.lo, hb.box, fun y hy e => by
  have e2 : W.heap.size = y := Option.some.inj hy
  omega, hb.txt⟩
 obtain ⟨d, nv', lv2, he, ht, hk⟩ := h.pts _ hx
 obtain ⟨rfl, rfl⟩ : nv = nv' ∧ lv' = lv2 := by
  simp only [ndV, Value.agg.injEq] at he
  have e4 := congrArg (fun a : Array Value => a[4]?) he
  have e5 := congrArg (fun a : Array Value => a[5]?) he
  exact ⟨by simpa using e4, by simpa using e5⟩
 refine ⟨h1.rd, h1.rd0, h1.only, h1.box, fun p hp => (h.pts p hp).keep (fun b o' x _ hx => hc b o' x hx) okk, ⟨⟨d, [(x, nv, lv')], rfl, ⟨rfl, .inr ⟨W.heap.size, 1, _, rfl, h.le, hb, by simp, by first | decide | (unfold maxLen; omega), rfl, by simp [ndC]⟩⟩, fun y hy => ?_⟩, fun y hy => ?_⟩, h1.txt, h.tbox⟩
 ·obtain rfl : y = (x, nv, lv') := by simpa using hy
  exact ⟨ht.keep (fun b o' x _ hx => hc b o' x hx) okk, hk.keep (fun b o' x _ hx => hc b o' x hx) okk⟩
 ·obtain rfl := Option.some.inj hy
  exact hok.box
end
theorem moreR_no {α : Type} {z : Wz} {f : Ps → PR α} {k : Nat} {s : Ps} {acc : List α} (h : isW z s.p [44] = false) : moreR z f (k + 1) s acc = .ok (acc, s) := by
 unfold moreR; rw [if_neg (by rw [h]; decide)]
theorem moreR_err {α : Type} {z : Wz} {f : Ps → PR α} {k : Nat} {s : Ps} {acc : List α} {y : Int × Int} (h : isW z s.p [44] = true) (hf : f ⟨s.p + 1, s.o⟩ = .error y) : moreR z f (k + 1) s acc = .error y := by
 unfold moreR; rw [if_pos h, hf]
theorem moreR_ok {α : Type} {z : Wz} {f : Ps → PR α} {k : Nat} {s s' : Ps} {acc : List α} {x : α} (h : isW z s.p [44] = true) (hf : f ⟨s.p + 1, s.o⟩ = .ok (x, s')) : moreR z f (k + 1) s acc = moreR z f k s' (acc ++ [x]) := by
 conv => lhs; unfold moreR
 rw [if_pos h, hf]
theorem names_any (w : World) (r : Nat) (q : Option Addr) (c : Nat) (z : Wz) (s : Ps) (h : RdAt w r q c z s) :
  Calls Tryz.prog 229 #[.pointer (some ⟨r, 0, none⟩)] w (RdR (EncT w) w r q c z (commaR z (nameR z) s)) := by
 obtain ⟨res, hres⟩ : ∃ res, commaR z (nameR z) s = res := ⟨_, rfl⟩
 rw [hres]
 unfold commaR at hres
 have cN := name_any' w r q c z s h
 have H0 := Lib.hid (St.start h)
 cases hx : nameR z s with
 | error y =>
  rw [hx] at hres cN
  have HR := Lib.hid hres
  clear hres hx h
  go_enter Tryz.func229, Tryz.ntmps229
  go_wp2_with fail
  refine cN.mono ?_
  intro e w1 hE
  obtain ⟨rfl, o1⟩ := hE.no rfl
  go_wp2_with fail
  exact ⟨rfl, .mk0 HR.out.symm o1⟩
 | ok y =>
  obtain ⟨x, s1⟩ := y
  have hgt := nameR_gt hx
  rw [hx] at hres cN
  have HR := Lib.hid (show moreR z (nameR z) (z.ws.length + 1) s1 [x] = res from hres)
  clear hres hx h
  go_enter Tryz.func229, Tryz.ntmps229
  go_wp2_with fail
  refine cN.mono ?_
  intro e w1 hE
  obtain ⟨v, rfl, rfl, r1, o1⟩ := hE.yes rfl
  have S1 := Lib.hid ((H0.out.call o1 r1).tone x)
  have h1 : 1 ≤ s1.p := by have := hgt.1; omega
  clear hE r1 o1 cN H0 hgt
  go_wp2_with fail
  generalize w1.alloc (.cells #[.string x] 9) = W at *
  go_loopw [3] (fun s3 wr => ∃ (k : Nat) (s' : Ps) (acc : List ByteArray), Hid (St w wr r q c z s' [] [] (.slice none 0 0) [] s3 acc) ∧ Hid (moreR z (nameR z) k s' acc = res) ∧ z.ws.length - s'.p < k ∧ acc.length ≤ s'.p) (fun _ wr => z.ws.length - nxt wr r)
  case atStart => exact ⟨_, s1, [x], S1, HR, by omega, by simpa using h1⟩
  case round =>
   obtain ⟨k, s', acc, ST, SP, hk, hacc⟩ := hrel
   obtain ⟨k, rfl⟩ : ∃ k', k = k' + 1 := ⟨k - 1, by omega⟩
   have cT := take_any wr r q c z s' [44] ST.out.rd
   have hle := ST.out.rd.le
   have hlen := ST.out.rd.len
   have hnx := ST.out.nxt
   cases hb : isW z s'.p [44] with
   | false =>
    rw [hb, skipP_no hb] at cT
    have HR2 := Lib.hid (show res = .ok (acc, s') by rw [← SP.out, moreR_no hb])
    clear hb
    go_wp2_with fail
    refine cT.mono ?_
    rintro e w2 ⟨rfl, r2, o2⟩
    have S2 := Lib.hid (ST.out.call o2 r2)
    go_wp2_with fail
    go_ret
    exact .mk1 HR2.out S2.out.only S2.out.txts S2.out.rd
   | true =>
    rw [hb, skipP_yes hb] at cT
    have hlt := isW_lt hb
    cases hx : nameR z ⟨s'.p + 1, s'.o⟩ with
    | error y =>
     have HR2 := Lib.hid (show res = .error y by rw [← SP.out, moreR_err hb hx])
     have HX := Lib.hid hx
     clear hb hx
     go_wp2_with fail
     refine cT.mono ?_
     rintro e w2 ⟨rfl, r2, o2⟩
     have S2 := Lib.hid (ST.out.call o2 r2)
     go_wp2_with fail
     refine (name_any' w2 r q c z _ S2.out.rd).mono ?_
     intro e w3 hE
     obtain ⟨rfl, o3⟩ := hE.no HX.out
     go_wp2_with fail
     exact ⟨rfl, S2.out.giv HR2.out o3⟩
    | ok y =>
     obtain ⟨x, s2⟩ := y
     have hgt := nameR_gt hx
     have HR2 := Lib.hid (show moreR z (nameR z) k s2 (acc ++ [x]) = res by rw [← SP.out, moreR_ok hb hx])
     have HX := Lib.hid hx
     have g1 := hgt.1
     have g2 := hgt.2.1
     simp only at g1
     clear hb hx hgt
     go_wp2_with fail
     refine cT.mono ?_
     rintro e w2 ⟨rfl, r2, o2⟩
     have S2 := Lib.hid (ST.out.call o2 r2)
     go_wp2_with fail
     refine (name_any' w2 r q c z _ S2.out.rd).mono ?_
     intro e w3 hE
     obtain ⟨v, rfl, rfl, r3, o3⟩ := hE.yes HX.out
     have S3 := Lib.hid (S2.out.call o3 r3)
     obtain ⟨v', W', hrun, S4⟩ := S3.out.tpush x (by omega) 25
     have S5 := Lib.hid S4
     have HRUN := Lib.hid hrun
     have hnx2 := S4.nxt
     clear hE r3 o3 r2 o2 S4 hrun
     go_wp2_with (at_builtin; refine wpList_append_runs rfl _ _ 25 rfl _ _ _ _ rfl rfl HRUN.out ?_)
     go_roundw
     case rel => exact ⟨k, s2, acc ++ [x], S5, HR2, by omega, by rw [List.length_append]; simp; omega⟩
     case measure => rw [hnx, hnx2]; omega
end Go.Proofs.YtkbcnacjaakleaaGreatDoor
namespace Go.Proofs.YtkbcnacjaakleaaGreatDoor
open Go.RowKit

structure Con (f : Nat) : Prop where
 st : ∀ (w : World) (r : Nat) (q : Option Addr) (c : Nat) (z : Wz) (s : Ps), RdAt w r q c z s → 10 * (z.ws.length - s.p) + 9 ≤ f → Calls Tryz.prog 91 #[.pointer (some ⟨r, 0, none⟩)] w (RdR (EncN w) w r q c z ((pz z f).st s))
 ex : ∀ (w : World) (r : Nat) (q : Option Addr) (c : Nat) (z : Wz) (s : Ps) (lv : Nat), RdAt w r q c z s → lv ≤ 6 → 10 * (z.ws.length - s.p) + 8 - lv ≤ f → Calls Tryz.prog 178 #[.pointer (some ⟨r, 0, none⟩), .int .i64 lv] w (RdR (EncN w) w r q c z ((pz z f).ex lv s))
 be : ∀ (w : World) (r : Nat) (q : Option Addr) (c : Nat) (z : Wz) (s : Ps), RdAt w r q c z s → 10 * (z.ws.length - s.p) + 1 ≤ f → Calls Tryz.prog 181 #[.pointer (some ⟨r, 0, none⟩)] w (RdR (EncN w) w r q c z ((pz z f).be s))
theorem Con.ex0 {f : Nat} (hC : Con f) (w : World) (r : Nat) (q : Option Addr) (c : Nat) (z : Wz) (s : Ps) (h : RdAt w r q c z s) (hf : 10 * (z.ws.length - s.p) + 8 ≤ f) :
  Calls Tryz.prog 178 #[.pointer (some ⟨r, 0, none⟩), .int .i64 0] w (RdR (EncN w) w r q c z ((pz z f).ex 0 s)) := hC.ex w r q c z s 0 h (by omega) hf
theorem pz_ex_gt {z : Wz} {f lv : Nat} {s s' : Ps} {x : Nd} (h : (pz z f).ex lv s = .ok (x, s')) : Gt z s s' := (pz_adv z f).ex lv s x s' h
theorem pz_st_gt {z : Wz} {f : Nat} {s s' : Ps} {x : Nd} (h : (pz z f).st s = .ok (x, s')) : Gt z s s' := (pz_adv z f).st s x s' h
theorem pz_be_gt {z : Wz} {f : Nat} {s s' : Ps} {x : Nd} (h : (pz z f).be s = .ok (x, s')) : Gt z s s' := (pz_adv z f).be s x s' h
theorem list_any {f : Nat} (hC : Con f) (w : World) (r : Nat) (q : Option Addr) (c : Nat) (z : Wz) (s : Ps) (h : RdAt w r q c z s) (hf : 10 * (z.ws.length - s.p) + 8 ≤ f) :
  Calls Tryz.prog 230 #[.pointer (some ⟨r, 0, none⟩)] w (RdR (EncK w) w r q c z (commaR z ((pz z f).ex 0) s)) := by
 obtain ⟨res, hres⟩ : ∃ res, commaR z ((pz z f).ex 0) s = res := ⟨_, rfl⟩
 rw [hres]
 unfold commaR at hres
 have cN := hC.ex0 w r q c z s h hf
 have HC := Lib.hid hC
 have H0 := Lib.hid (St.start h)
 cases hx : (pz z f).ex 0 s with
 | error y =>
  rw [hx] at hres cN
  have HR := Lib.hid hres
  clear hres hx h hC
  go_enter Tryz.func230, Tryz.ntmps230
  go_wp2_with fail
  refine cN.mono ?_
  intro e w1 hE
  obtain ⟨rfl, o1⟩ := hE.no rfl
  go_wp2_with fail
  exact ⟨rfl, .mk0 HR.out.symm o1⟩
 | ok y =>
  obtain ⟨x, s1⟩ := y
  have hgt := pz_ex_gt hx
  rw [hx] at hres cN
  have HR := Lib.hid (show moreR z ((pz z f).ex 0) (z.ws.length + 1) s1 [x] = res from hres)
  clear hres hx h hC
  go_enter Tryz.func230, Tryz.ntmps230
  go_wp2_with fail
  refine cN.mono ?_
  intro e w1 hE
  obtain ⟨v, rfl, hv, r1, o1⟩ := hE.yes rfl
  obtain ⟨qn, mn, ql, ml, rfl⟩ := EncN.open hv
  have S1 := Lib.hid ((H0.out.got o1 r1 hv).kone (List.mem_cons_self ..))
  have h1 : 1 ≤ s1.p := by have := hgt.1; omega
  have hf1 : 10 * (z.ws.length - s1.p) + 8 ≤ f := by have := hgt.1; omega
  clear hE r1 o1 cN H0 hgt hv hf
  go_wp2_with fail
  generalize w1.alloc (.cells #[.int .i64 x.k, .string x.name, .string x.text, .int .i64 x.n, .slice qn x.names.length mn, .slice ql x.kids.length ml] 28) = W at *
  have S2 := Lib.hid (S1.out.sub (N' := []) (fun p hp => by cases hp))
  clear S1
  go_loopw [3] (fun s3 wr => ∃ (k : Nat) (s' : Ps) (acc : List Nd), Hid (St w wr r q c z s' [] [] s3 acc (.slice none 0 0) []) ∧ Hid (moreR z ((pz z f).ex 0) k s' acc = res) ∧ z.ws.length - s'.p < k ∧ acc.length ≤ s'.p ∧ 10 * (z.ws.length - s'.p) + 8 ≤ f) (fun _ wr => z.ws.length - nxt wr r)
  case atStart => exact ⟨_, s1, [x], S2, HR, by omega, by simpa using h1, hf1⟩
  case round =>
   obtain ⟨k, s', acc, ST, SP, hk, hacc, hfk⟩ := hrel
   obtain ⟨k, rfl⟩ : ∃ k', k = k' + 1 := ⟨k - 1, by omega⟩
   have cT := take_any wr r q c z s' [44] ST.out.rd
   have hle := ST.out.rd.le
   have hlen := ST.out.rd.len
   have hnx := ST.out.nxt
   cases hb : isW z s'.p [44] with
   | false =>
    rw [hb, skipP_no hb] at cT
    have HR2 := Lib.hid (show res = .ok (acc, s') by rw [← SP.out, moreR_no hb])
    clear hb
    go_wp2_with fail
    refine cT.mono ?_
    rintro e w2 ⟨rfl, r2, o2⟩
    have S2 := Lib.hid (ST.out.call o2 r2)
    go_wp2_with fail
    go_ret
    exact .mk1 HR2.out S2.out.only S2.out.kidsd S2.out.rd
   | true =>
    rw [hb, skipP_yes hb] at cT
    have hlt := isW_lt hb
    cases hx : (pz z f).ex 0 ⟨s'.p + 1, s'.o⟩ with
    | error y =>
     have HR2 := Lib.hid (show res = .error y by rw [← SP.out, moreR_err hb hx])
     have HX := Lib.hid hx
     clear hb hx
     go_wp2_with fail
     refine cT.mono ?_
     rintro e w2 ⟨rfl, r2, o2⟩
     have S2 := Lib.hid (ST.out.call o2 r2)
     go_wp2_with fail
     refine (HC.out.ex0 w2 r q c z ⟨s'.p + 1, s'.o⟩ S2.out.rd (by simp only; omega)).mono ?_
     intro e w3 hE
     obtain ⟨rfl, o3⟩ := hE.no HX.out
     go_wp2_with fail
     exact ⟨rfl, S2.out.giv HR2.out o3⟩
    | ok y =>
     obtain ⟨x, s2⟩ := y
     have hgt := pz_ex_gt hx
     have HR2 := Lib.hid (show moreR z ((pz z f).ex 0) k s2 (acc ++ [x]) = res by rw [← SP.out, moreR_ok hb hx])
     have HX := Lib.hid hx
     have g1 := hgt.1
     have g2 := hgt.2.1
     simp only at g1
     clear hb hx hgt
     go_wp2_with fail
     refine cT.mono ?_
     rintro e w2 ⟨rfl, r2, o2⟩
     have S2 := Lib.hid (ST.out.call o2 r2)
     go_wp2_with fail
     refine (HC.out.ex0 w2 r q c z ⟨s'.p + 1, s'.o⟩ S2.out.rd (by simp only; omega)).mono ?_
     intro e w3 hE
     obtain ⟨v, rfl, hv, r3, o3⟩ := hE.yes HX.out
     obtain ⟨qn, mn, ql, ml, rfl⟩ := EncN.open hv
     have S3 := Lib.hid (S2.out.got o3 r3 hv)
     obtain ⟨v', W', hrun, S4⟩ := S3.out.push (List.mem_cons_self ..) (by omega) 26
     have S5 := Lib.hid (S4.sub (N' := []) (fun p hp => by cases hp))
     have HRUN := Lib.hid hrun
     have hnx2 := S4.nxt
     clear hE r3 o3 r2 o2 S4 hrun hv
     go_wp2_with (at_builtin; refine wpList_append_runs rfl _ _ 26 rfl _ _ _ _ rfl rfl HRUN.out ?_)
     go_roundw
     case rel => exact ⟨k, s2, acc ++ [x], S5, HR2, by omega, by rw [List.length_append]; simp; omega, by omega⟩
     case measure => rw [hnx, hnx2]; omega
theorem RdAt.more {w : World} {r : Nat} {q : Option Addr} {c : Nat} {z : Wz} {s : Ps} (h : RdAt w r q c z s) : w.cell? ⟨r, 3, none⟩ = some (.int .i64 (s.o : Int)) ∧ w.frozen? ⟨r, 3, none⟩ = false := ⟨h.blk.cell 3, h.blk.frozen 3⟩
def CloR {α : Type} (G : α → Ps → World → Prop) (w : World) (r : Nat) (res : PR α) (e : Ending) (w' : World) : Prop :=
 match res with
 | .ok (x, s') => e = .returned (.tuple #[]) ∧ G x s' w'
 | .error y => Stops y e ∧ Only r w w'
section
variable {α : Type} {G : α → Ps → World → Prop} {w w' : World} {r : Nat} {res : PR α} {e : Ending} {x : α} {s' : Ps} {y : Int × Int}
theorem CloR.mk1 (hr : res = .ok (x, s')) (hg : G x s' w') : CloR G w r res (.returned (.tuple #[])) w' := by subst hr; exact ⟨rfl, hg⟩
theorem CloR.mk0 (hr : res = .error y) (ho : Only r w w') : CloR G w r res (.panicked [{ v := stopV y, recovered := false }]) w' := by subst hr; exact ⟨rfl, ho⟩
theorem CloR.yes (h : CloR G w r res e w') (hr : res = .ok (x, s')) : e = .returned (.tuple #[]) ∧ G x s' w' := by subst hr; exact h
theorem CloR.no (h : CloR G w r res e w') (hr : res = .error y) : e = .panicked [{ v := stopV y, recovered := false }] ∧ Only r w w' := by subst hr; exact h
end
theorem St.opn {w W : World} {r : Nat} {q : Option Addr} {c : Nat} {z : Wz} {s : Ps} {K : List (Nat × Obj)} {N : List Pt} {lv tv : Value} {l : List Nd} {tl : List ByteArray} (h : St w W r q c z s K N lv l tv tl) (o' : Nat) (ho : o' ≤ 100) :
  St w (W.setCell ⟨r, 3, none⟩ (.int .i64 (o' : Int))) r q c z ⟨s.p, o'⟩ K N lv l tv tl := h.call ((Only.refl r W).set 3 _) (h.rd.opn o' ho)
theorem withinR_deep {α : Type} {z : Wz} {g : Ps → PR α} {s : Ps} (h : 100 < s.o + 1) : withinR z g s = .error (atW z (s.p - 1), 221) := by unfold withinR; rw [if_pos h]
theorem withinR_err {α : Type} {z : Wz} {g : Ps → PR α} {s : Ps} {y : Int × Int} (h : ¬ 100 < s.o + 1) (hg : g ⟨s.p, s.o + 1⟩ = .error y) : withinR z g s = .error y := by unfold withinR; rw [if_neg h, hg]
theorem withinR_ok {α : Type} {z : Wz} {g : Ps → PR α} {s s' : Ps} {x : α} (h : ¬ 100 < s.o + 1) (hg : g ⟨s.p, s.o + 1⟩ = .ok (x, s')) : withinR z g s = .ok (x, ⟨s'.p, s'.o - 1⟩) := by unfold withinR; rw [if_neg h, hg]
theorem within_any {α : Type} {G : α → Ps → World → Prop} {w W : World} {r : Nat} {q : Option Addr} {c : Nat} {z : Wz} {s : Ps} {K : List (Nat × Obj)} {N : List Pt} {lv tv : Value} {l : List Nd} {tl : List ByteArray} (S : St w W r q c z s K N lv l tv tl) (F : Nat) (caps : Array Value)
  (hF : ∀ (args : Array Value) (w : World), (callFunc F args).run Tryz.prog w = .ok (.enter F args) w) (g : Ps → PR α) (hp : 1 ≤ s.p)
  (hcl : ∀ W', St w W' r q c z ⟨s.p, s.o + 1⟩ K N lv l tv tl → Calls Tryz.prog F caps W' (CloR G w r (g ⟨s.p, s.o + 1⟩)))
  (hgo : ∀ x s', g ⟨s.p, s.o + 1⟩ = .ok (x, s') → s'.o = s.o + 1)
  (hG : ∀ x s' W', G x s' W' → RdAt W' r q c z s' ∧ G x ⟨s'.p, s.o⟩ (W'.setCell ⟨r, 3, none⟩ (.int .i64 (s.o : Int)))) :
  Calls Tryz.prog 271 #[.pointer (some ⟨r, 0, none⟩), .func (.func F) #[] caps] W (CloR G w r (withinR z g s)) := by
 obtain ⟨res, hres⟩ : ∃ res, withinR z g s = res := ⟨_, rfl⟩
 rw [hres]
 obtain ⟨m3, f3⟩ := S.rd.more
 have hop := S.rd.op
 have hle := S.rd.le
 have hlen := S.rd.len
 have hlr := S.rd.lt
 have HS := Lib.hid S
 have HG := Lib.hid hG
 have HCL := Lib.hid hcl
 have hwr : IntKind.i64.wrap ((s.o : Int) + 1) = (s.o : Int) + 1 := IntWalk.i64_in _ (by omega)
 by_cases hd : 100 < s.o + 1
 ·have HR := Lib.hid (show res = .error (atW z (s.p - 1), 221) by rw [← hres, withinR_deep hd])
  have ht : decide ((100 : Int) < (s.o : Int) + 1) = true := decide_eq_true (by omega)
  have hd' : (100 : Int) < (s.o : Int) + 1 := by omega
  have hO := Lib.hid ((Only.refl r W).set 3 (.int .i64 ((s.o : Int) + 1)))
  have hB := Lib.hid (S.rd.blk.set_ 3 (.int .i64 ((s.o : Int) + 1)))
  have hlt : s.p - 1 < z.ws.length := by omega
  obtain ⟨b, o2, hq, hbr, x0, x1, x2, x3⟩ := S.rd.words (s.p - 1) hlt
  have y3 := Lib.hid (hO.out.cell hbr x3)
  have ha : atW z (s.p - 1) = z.ws[s.p - 1].a := by unfold atW; rw [List.getElem?_eq_getElem hlt]
  rw [ha] at HR
  subst hq
  have Y3 := y3.out
  generalize z.ws[s.p - 1] = xw at *
  obtain ⟨xk, xt, xn, xa⟩ := xw
  simp only at Y3 HR
  clear hres hcl hG hgo S x0 x1 x2 x3 y3 ha hd
  obtain ⟨m, hm⟩ : ∃ m, z.ws.length = m := ⟨_, rfl⟩
  rw [hm] at hlt hle hlen hB
  have HM := Lib.hid hm
  clear hm
  obtain ⟨p', hp'⟩ : ∃ p', s.p = p' + 1 := ⟨s.p - 1, by omega⟩
  rw [hp'] at hlt hle hp hB Y3
  have HP := Lib.hid hp'
  clear hp'
  have hwp : IntKind.i64.wrap (((p' + 1 : Nat) : Int) - 1) = (p' : Int) := by rw [IntWalk.i64_in _ (by omega)]; omega
  have hwq : IntKind.i64.wrap (p' : Int) = (p' : Int) := IntWalk.i64_in _ (by omega)
  have hpI : (p' : Int) < (m : Int) := by omega
  have hp0 : (0 : Int) ≤ (p' : Int) := by omega
  have hpN : p' < m := by omega
  simp only [Nat.add_sub_cancel] at Y3 hlt
  go_enter Tryz.func271, Tryz.ntmps271
  go_wp2_with fail
  generalize hW1 : W.setCell ⟨r, 3, none⟩ (.int .i64 ((s.o : Int) + 1)) = W1 at *
  have c0 := hB.out.cell 0
  have c1 := hB.out.cell 1
  have c3 := hB.out.cell 3
  simp only [List.getElem?_toArray, List.setIfInBounds_toArray, List.set_cons_zero, List.set_cons_succ, List.getElem?_cons_zero, List.getElem?_cons_succ] at c0 c1 c3
  go_wp2_with fail
  refine wp_region_held_drew (S := fun w' => w'.cell? ⟨r, 0, none⟩ = some (.slice (some ⟨b, o2, none⟩) m c) ∧ w'.cell? ⟨r, 1, none⟩ = some (.int .i64 ((p' + 1 : Nat) : Int)) ∧ w'.cell? ⟨b, o2 + p' * 4 + 3, none⟩ = some (.int .i64 xa)) (by kernel_rfl) ⟨c0, c1, Y3⟩ (fun hHeld => ?_)
  refine tkH (i := 0) (v := ?_) ?_
  (try simp only [Act.put, List.setIfInBounds_toArray, List.set_cons_zero, List.set_cons_succ])
  refine tkH (i := 1) (v := ?_) ?_
  (try simp only [Act.put, List.setIfInBounds_toArray, List.set_cons_zero, List.set_cons_succ])
  refine tkH (i := 2) (v := ?_) ?_
  (try simp only [Act.put, List.setIfInBounds_toArray, List.set_cons_zero, List.set_cons_succ])
  refine tkH (i := 3) (v := ?_) ?_
  (try simp only [Act.put, List.setIfInBounds_toArray, List.set_cons_zero, List.set_cons_succ])
  refine tkH (i := 4) (v := ?_) ?_
  (try simp only [Act.put, List.setIfInBounds_toArray, List.set_cons_zero, List.set_cons_succ])
  refine tkH (i := 5) (v := ?_) ?_
  (try simp only [Act.put, List.setIfInBounds_toArray, List.set_cons_zero, List.set_cons_succ])
  refine tkH (i := 6) (v := ?_) ?_
  (try simp only [Act.put, List.setIfInBounds_toArray, List.set_cons_zero, List.set_cons_succ])
  refine tkH (i := 7) (v := ?_) ?_
  (try simp only [Act.put, List.setIfInBounds_toArray, List.set_cons_zero, List.set_cons_succ])
  refine tkH (i := 8) (v := ?_) ?_
  (try simp only [Act.put, List.setIfInBounds_toArray, List.set_cons_zero, List.set_cons_succ])
  refine tkH (i := 9) (v := ?_) ?_
  (try simp only [Act.put, List.setIfInBounds_toArray, List.set_cons_zero, List.set_cons_succ])
  refine tkH (i := 10) (v := ?_) ?_
  (try simp only [Act.put, List.setIfInBounds_toArray, List.set_cons_zero, List.set_cons_succ])
  refine tkH (i := 11) (v := ?_) ?_
  (try simp only [Act.put, List.setIfInBounds_toArray, List.set_cons_zero, List.set_cons_succ])
  refine tkH (i := 12) (v := ?_) ?_
  (try simp only [Act.put, List.setIfInBounds_toArray, List.set_cons_zero, List.set_cons_succ])
  refine tkH (i := 13) (v := ?_) ?_
  (try simp only [Act.put, List.setIfInBounds_toArray, List.set_cons_zero, List.set_cons_succ])
  refine wpAnyH_ready (rs := [14]) (by kernel_rfl) (by simp) ?_
  refine AllReadyH.cons rfl (fun K hK => ?_) AllReadyH.nil
  go_simp
  exact ⟨rfl, .mk0 HR.out (HS.out.only.trans hO.out.drew)⟩
 ·have ht : decide ((100 : Int) < (s.o : Int) + 1) = false := decide_eq_false (by omega)
  have hd' : ¬ (100 : Int) < (s.o : Int) + 1 := by omega
  have S1 := Lib.hid (S.opn (s.o + 1) (by omega))
  have hcast : ((s.o + 1 : Nat) : Int) = (s.o : Int) + 1 := by omega
  have c3 := S1.out.rd.more.1
  rw [hcast] at S1
  rw [hcast] at c3
  have hD := Lib.hid hd
  have HRES := Lib.hid hres
  have HGO := Lib.hid hgo
  clear hres hcl hG hgo S hd
  go_enter Tryz.func271, Tryz.ntmps271
  go_wp2_with fail
  generalize W.setCell ⟨r, 3, none⟩ (.int .i64 ((s.o : Int) + 1)) = W1 at *
  go_wp2_with fail
  refine (HCL.out W1 S1.out).mono ?_
  intro e w2 hE
  cases hx : g ⟨s.p, s.o + 1⟩ with
  | error y =>
   obtain ⟨rfl, o2⟩ := hE.no hx
   have HR := Lib.hid (show res = .error y by rw [← HRES.out, withinR_err hD.out hx])
   clear hx hE
   go_wp2_with fail
   exact ⟨rfl, .mk0 HR.out o2⟩
  | ok y =>
   obtain ⟨x, s'⟩ := y
   obtain ⟨rfl, g2⟩ := hE.yes hx
   have ho := HGO.out x s' hx
   have HR := Lib.hid (show res = .ok (x, ⟨s'.p, s.o⟩) by rw [← HRES.out, withinR_ok hD.out hx, ho, Nat.add_sub_cancel])
   obtain ⟨r3, g3⟩ := HG.out x s' w2 g2
   have G3 := Lib.hid g3
   obtain ⟨n3, k3⟩ := r3.more
   rw [ho, hcast] at n3
   have hl2 := r3.lt
   have hwr2 : IntKind.i64.wrap ((s.o : Int) + 1 - 1) = (s.o : Int) := by rw [IntWalk.i64_in _ (by omega)]; omega
   clear hx hE g2 g3 r3 ho m3 f3
   go_wp2_with fail
   go_end0
   exact .mk1 HR.out G3.out
end Go.Proofs.YtkbcnacjaakleaaGreatDoor
namespace Go.Proofs.YtkbcnacjaakleaaGreatDoor
open Go.RowKit

abbrev ndBx (x0 x1 x2 x3 x4 x5 : Value) : Obj := .cells #[x0, x1, x2, x3, x4, x5] 28
abbrev ndZ : Obj := ndBx (.int .i64 0) (.string ⟨#[]⟩) (.string ⟨#[]⟩) (.int .i64 0) (.slice none 0 0) (.slice none 0 0)
section
variable {w W W' : World} {r : Nat} {q : Option Addr} {c : Nat} {z : Wz} {s s' : Ps} {K K' : List (Nat × Obj)} {N N' : List Pt} {lv tv : Value} {l : List Nd} {tl : List ByteArray}
theorem okO.perm {B : Nat} {X Y : List Nat} {v t : Value} {b : Nat} (h : okO B X v t b) (hX : ∀ y ∈ Y, y ∈ X) : okO B Y v t b := ⟨h.lo, fun hm => h.box (hX b hm), h.row, h.txt⟩
theorem St.perm (h : St w W r q c z s K N lv l tv tl) (h1 : ∀ p ∈ K', p ∈ K) (h2 : ∀ p ∈ K, p ∈ K') : St w W r q c z s K' N lv l tv tl := by
 have hX : ∀ y, y ∈ K'.map (·.1) → y ∈ K.map (·.1) := fun y hy => by
  obtain ⟨p, hp, rfl⟩ := List.mem_map.1 hy
  exact List.mem_map.2 ⟨p, h1 p hp, rfl⟩
 have ok : ∀ b, okS w K lv tv b → okS w K' lv tv b := fun b hb => hb.perm hX
 obtain ⟨d, rows, e1, e2, e3⟩ := h.row.ex
 exact ⟨h.rd, h.rd0, h.only, fun p hp => h.box p (h1 p hp), fun p hp => (h.pts p hp).imp (fun b _ hb => ok b hb), ⟨⟨d, rows, e1, e2, fun x hx => ⟨(e3 x hx).1.imp (fun b _ hb => ok b hb), (e3 x hx).2.imp (fun b _ hb => ok b hb)⟩⟩, fun y hy hm => h.row.box y hy (hX y hm)⟩, h.txt, fun y hy hm => h.tbox y hy (hX y hm)⟩
theorem St.swap {a b : Nat × Obj} (h : St w W r q c z s (a :: b :: K) N lv l tv tl) : St w W r q c z s (b :: a :: K) N lv l tv tl :=
 h.perm (fun p hp => by simp only [List.mem_cons] at hp ⊢; rcases hp with h | h | h <;> simp [h]) (fun p hp => by simp only [List.mem_cons] at hp ⊢; rcases hp with h | h | h <;> simp [h])
theorem St.fst (h : St w W r q c z s K N lv l tv tl) {b : Nat} {o : Obj} (hm : (b, o) ∈ K) : w.heap.size ≤ b ∧ b < W.heap.size := by
 obtain ⟨h1, h2⟩ := h.box _ hm
 exact ⟨h1, (Array.getElem?_eq_some_iff.1 h2).1⟩
theorem St.six {b : Nat} {x0 x1 x2 x3 x4 x5 : Value} (h : St w W r q c z s ((b, ndBx x0 x1 x2 x3 x4 x5) :: K) N lv l tv tl) :
  W.cell? ⟨b, 0, none⟩ = some x0 ∧ W.cell? ⟨b, 1, none⟩ = some x1 ∧ W.cell? ⟨b, 2, none⟩ = some x2 ∧ W.cell? ⟨b, 3, none⟩ = some x3 ∧ W.cell? ⟨b, 4, none⟩ = some x4 ∧ W.cell? ⟨b, 5, none⟩ = some x5 ∧
   W.frozen? ⟨b, 0, none⟩ = false ∧ W.frozen? ⟨b, 1, none⟩ = false ∧ W.frozen? ⟨b, 2, none⟩ = false ∧ W.frozen? ⟨b, 3, none⟩ = false ∧ W.frozen? ⟨b, 4, none⟩ = false ∧ W.frozen? ⟨b, 5, none⟩ = false := six_blk (h.blk (List.mem_cons_self ..))
theorem St.set5 {b : Nat} {x0 x1 x2 x3 x4 x5 : Value} (h : St w W r q c z s ((b, ndBx x0 x1 x2 x3 x4 x5) :: K) N lv l tv tl) (hne : ∀ p ∈ K, p.1 ≠ b) (u : Value) : St w (W.setCell ⟨b, 5, none⟩ u) r q c z s ((b, ndBx x0 x1 x2 x3 x4 u) :: K) N lv l tv tl := by
 have h' := h.set1 hne 5 u
 simpa using h'
theorem St.set4 {b : Nat} {x0 x1 x2 x3 x4 x5 : Value} (h : St w W r q c z s ((b, ndBx x0 x1 x2 x3 x4 x5) :: K) N lv l tv tl) (hne : ∀ p ∈ K, p.1 ≠ b) (u : Value) : St w (W.setCell ⟨b, 4, none⟩ u) r q c z s ((b, ndBx x0 x1 x2 x3 u x5) :: K) N lv l tv tl := by
 have h' := h.set1 hne 4 u
 simpa using h'
theorem RdAt.isin (h : RdAt w r q c z s) (t : List UInt8) {b : Bool} (hb : isW z s.p t = b) : ∀ W, Ext w W → Calls Tryz.prog 90 #[.pointer (some ⟨r, 0, none⟩), strV t] W fun e w' => e = .returned (.bool b) ∧ Ext w w' := fun W hW => by
 subst hb
 exact Calls.ext_of hW (is_any W r q c z s t (h.ext hW))
end
def blkFin (x : PR (List Nd)) : PR Nd := match x with | .error e => .error e | .ok (l, s') => .ok (ndK 0 l, s')
theorem blockR_fin {z : Wz} {f : Ps → PR Nd} {s : Ps} : blockR z f s = blkFin (blockL z f (z.ws.length + 1) s []) := by
 unfold blockR blkFin
 rfl
theorem blockL_end {z : Wz} {f : Ps → PR Nd} {k : Nat} {s : Ps} {acc : List Nd} (h : endsW z s.p = true) : blockL z f (k + 1) s acc = .ok (acc, s) := by unfold blockL; rw [if_pos h]
theorem blockL_err {z : Wz} {f : Ps → PR Nd} {k : Nat} {s : Ps} {acc : List Nd} {y : Int × Int} (h : endsW z s.p = false) (hf : f s = .error y) : blockL z f (k + 1) s acc = .error y := by unfold blockL; rw [if_neg (by rw [h]; decide), hf]
theorem blockL_last {z : Wz} {f : Ps → PR Nd} {k : Nat} {s s' : Ps} {acc : List Nd} {x : Nd} (h : endsW z s.p = false) (hf : f s = .ok (x, s')) (hx : x.k = 7 ∨ x.k = 8) : blockL z f (k + 1) s acc = .ok (acc ++ [x], skipP z s' [59]) := by
 unfold blockL; rw [if_neg (by rw [h]; decide), hf]; simp only; rw [if_pos hx]
theorem blockL_more {z : Wz} {f : Ps → PR Nd} {k : Nat} {s s' : Ps} {acc : List Nd} {x : Nd} (h : endsW z s.p = false) (hf : f s = .ok (x, s')) (hx : ¬ (x.k = 7 ∨ x.k = 8)) : blockL z f (k + 1) s acc = blockL z f k (skipP z s' [59]) (acc ++ [x]) := by
 conv => lhs; unfold blockL
 rw [if_neg (by rw [h]; decide), hf]; simp only; rw [if_neg hx]
end Go.Proofs.YtkbcnacjaakleaaGreatDoor
