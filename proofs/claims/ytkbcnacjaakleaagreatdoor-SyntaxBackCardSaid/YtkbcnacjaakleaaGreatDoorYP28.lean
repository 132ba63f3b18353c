/- slices.Backward over a row of kinds. unary: the row of kinds ahead of an operand. What is kept where blocks that are no cells change. unary: what stands ahead of an operand. The parser's functions, all of them, by fuel. What is told is read: words in a row, lists, blocks. -/
import Derived.Test.YtkbcnacjaakleaaGreatDoorYP08
import Derived.Test.YtkbcnacjaakleaaGreatDoorYP27
import Derived.Test.YtkbcnacjaakleaaGreatDoorYSy4
import Derived.Test.YtkbcnacjaakleaaGreatDoorYP22
import Derived.Test.YtkbcnacjaakleaaGreatDoorYP04
set_option maxRecDepth 100000
set_option maxHeartbeats 32000000
set_option linter.unusedVariables false
set_option linter.unusedSimpArgs false
namespace Go.Proofs.YtkbcnacjaakleaaGreatDoor
open Go.RowKit Go.Shelf
attribute [local go_sem] Oper.semAt_some

def KdRow (w : World) (g : Nat) (sv : Value) (xs : List Int) : Prop :=
 (sv = .slice none 0 0 ∧ xs = []) ∨ ∃ cap, sv = .slice (some ⟨g, 0, none⟩) xs.length cap ∧ ∀ j x, xs[j]? = some x → w.cell? ⟨g, j, none⟩ = some (.int .i64 x)
theorem KdRow.same {w w' : World} {g : Nat} {sv : Value} {xs : List Int} (h : KdRow w g sv xs) (he : w'.heap[g]? = w.heap[g]?) : KdRow w' g sv xs := by
 rcases h with h | ⟨cap, h1, h2⟩
 ·exact .inl h
 ·exact .inr ⟨cap, h1, fun j x hx => by have := h2 j x hx; unfold World.cell? at this ⊢; simp only at this ⊢; rw [he]; exact this⟩
def KpR (b g : Nat) (W W' : World) : Prop := W'.heap[b]? = W.heap[b]? ∧ W'.heap[g]? = W.heap[g]?
theorem KpR.t {b g : Nat} {X Y Z : World} (h : KpR b g X Y) (k : KpR b g Y Z) : KpR b g X Z := ⟨k.1.trans h.1, k.2.trans h.2⟩
theorem KpR.b {b g : Nat} {w : World} (hb : b < w.heap.size) (hg : g < w.heap.size) (W : World) (l : Nat) (o o' : Obj) (hl : w.heap.size ≤ l) (h : W.heap[l]? = some o) (h1 : o.isCells = false) (h2 : o.isWalk = false) : KpR b g W (W.putObj l o') :=
 ⟨World.putObj_heap_other (by omega), World.putObj_heap_other (by omega)⟩
theorem back_in (n : Nat) (q : Option Addr) (m c : Nat) (w : World) :
  CallsIn Fence.wide n Tryz.prog 273 #[.slice q m c] w fun e w' => e = .returned (.func (.func 307) #[] #[.pointer (some ⟨w.heap.size, 0, none⟩)]) ∧ w.alloc (.cells #[.slice q m c] 269) = w' := by
 refine callsIn_of_wp Tryz.func273 rfl trivial ?_ rfl
 simp only [Tryz.ntmps273, List.size_toArray, List.length_cons, List.length_nil, Nat.reduceAdd, Nat.reduceSub, Array.replicate_succ, Array.replicate_zero, List.push_toArray, List.append_toArray, List.nil_append, List.cons_append]
 gi_wp2
 go_ret
 exact ⟨rfl, rfl⟩
def RBk (xs : List Int) (pre : List (Nat × Int)) (x : Nat × Int) : Prop := xs[x.1]? = some x.2 ∧ pre.length + x.1 + 1 = xs.length ∧ pre.map Prod.snd = (xs.drop (x.1 + 1)).reverse
theorem bk_step {xs : List Int} {pre : List (Nat × Int)} {j : Nat} {x : Int} (h : xs[j]? = some x) (hp : pre.map Prod.snd = (xs.drop (j + 1)).reverse) : (pre ++ [(j, x)]).map Prod.snd = (xs.drop j).reverse := by
 obtain ⟨hj, rfl⟩ := List.getElem?_eq_some_iff.1 h
 rw [List.drop_eq_getElem_cons hj, List.reverse_cons, List.map_append, hp]
 rfl
theorem backs_in (n : Nat) (hn : 1 ≤ n) (b g : Nat) (sv : Value) (xs : List Int) (hx : xs.length ≤ 1048577) (w : World) (hb : b < w.heap.size) (hg : g < w.heap.size) (hbs : Blk w b 269 #[sv]) (hr : KdRow w g sv xs) :
  SeqR Fence.wide n Tryz.prog 307 #[.pointer (some ⟨b, 0, none⟩)] (fun x : Nat × Int => #[.int .i64 x.1, .int .i64 x.2]) (KpR b g) (RBk xs) (fun _ => True) (fun ys => ys.map Prod.snd = xs.reverse) (fun _ => True) w := fun l J Jx W hW hJ hJx hY h0 => by
 have hbW := Lib.hid (show Blk W b 269 #[sv] from (hW.block b hb).trans hbs)
 have hrW := Lib.hid (hr.same (hW.block g hg))
 obtain ⟨qv, cv, rfl⟩ : ∃ q c, sv = .slice q xs.length c := by
  rcases hr with ⟨h1, h2⟩ | ⟨cap, h1, _⟩
  ·exact ⟨none, 0, by rw [h1, h2]; rfl⟩
  ·exact ⟨_, cap, h1⟩
 clear hbs hr
 obtain ⟨m, hm⟩ : ∃ m, xs.length = m := ⟨_, rfl⟩
 rw [hm] at hbW hrW hx
 have HM := Lib.hid hm
 have c0 : W.cell? ⟨b, 0, none⟩ = some (.slice qv m cv) := hbW.out.cell 0
 have hw1 : IntKind.i64.wrap ((m : Int) - 1) = (m : Int) - 1 := IntWalk.i64_in _ (by omega)
 refine callsIn_of_wp Tryz.func307 rfl trivial ?_ rfl
 simp only [Tryz.ntmps307, List.size_toArray, List.length_cons, List.length_nil, Nat.reduceAdd, Nat.reduceSub, Array.replicate_succ, Array.replicate_zero, List.push_toArray, List.append_toArray, List.nil_append, List.cons_append]
 gi_wp2
 clear c0
 gi_loopw [3] (fun v3 wr => ∃ (j : Nat) (pre : List (Nat × Int)), j ≤ m ∧ v3 = .int .i64 ((j : Int) - 1) ∧ Hid (pre.length + j = m) ∧ Hid (pre.map Prod.snd = (xs.drop j).reverse) ∧ Hid (Blk wr b 269 #[.slice qv m cv]) ∧ Hid (KdRow wr g (.slice qv m cv) xs) ∧ Hid (J pre wr)) (fun v3 _ => (intOf v3 + 1).toNat)
 case atStart => exact ⟨m, [], Nat.le_refl _, rfl, Lib.hid (by simp), Lib.hid (by simp [← hm]), hbW, hrW, Lib.hid h0⟩
 case round =>
  obtain ⟨j, pre, hj, rfl, HL, HP, HB, HR, HJ⟩ := hrel
  by_cases hj0 : j = 0
  ·subst hj0
   have HE := Lib.hid (show pre.map Prod.snd = xs.reverse by rw [HP.out]; rfl)
   have d1 : decide ((0 : Int) ≤ ((0 : Nat) : Int) - 1) = false := by decide
   clear HP HL
   gi_wp2
   go_end0
   exact ⟨⟨_, rfl⟩, .inl ⟨_, HE.out, HJ.out⟩⟩
  ·obtain ⟨j, rfl⟩ : ∃ j', j = j' + 1 := ⟨j - 1, by omega⟩
   have hji : (((j + 1 : Nat) : Int) - 1) = (j : Int) := by omega
   rw [hji]
   obtain ⟨x, hxj⟩ : ∃ x, xs[j]? = some x := ⟨_, List.getElem?_eq_getElem (show j < xs.length by rw [HM.out]; omega)⟩
   obtain ⟨fn, tmps, assign, body, hy, hR⟩ := hY pre (j, x) wr HJ.out ⟨hxj, by simp only; have := HL.out; have := HM.out; omega, HP.out⟩
   have HS := Lib.hid (bk_step hxj HP.out)
   have HS2 := Lib.hid (show (pre ++ [(j, x)]).length + j = m by have := HL.out; simp only [List.length_append, List.length_singleton]; omega)
   have c0 : wr.cell? ⟨b, 0, none⟩ = some (.slice qv m cv) := HB.out.cell 0
   obtain ⟨rfl, c1⟩ : qv = some ⟨g, 0, none⟩ ∧ wr.cell? ⟨g, j, none⟩ = some (.int .i64 x) := by
    rcases HR.out with ⟨_, h2⟩ | ⟨cap, h1, h2⟩
    ·rw [h2] at hxj; simp at hxj
    ·simp only [Value.slice.injEq] at h1; exact ⟨h1.1, h2 j x hxj⟩
   have d1 : decide ((0 : Int) ≤ (j : Int)) = true := decide_eq_true (by omega)
   have hjm : (j : Int) < (m : Int) := by omega
   have hjN : j < m := by omega
   have hjI : (0 : Int) ≤ (j : Int) := by omega
   have hjw : IntKind.i64.wrap ((j : Int) - 1) = (j : Int) - 1 := IntWalk.i64_in _ (by omega)
   clear hxj HP HL hj0 hji
   gi_wp2
   refine hR.mono ?_
   rintro e W3 (⟨rfl, _, hJ3, hk3⟩ | ⟨rfl, hJx3⟩)
   ·have HB3 := Lib.hid (show Blk W3 b 269 #[.slice (some ⟨g, 0, none⟩) m cv] from hk3.1.trans HB.out)
    have HR3 := Lib.hid (HR.out.same hk3.2)
    have HJ3 := Lib.hid hJ3
    clear hJ3 hk3
    gi_wp2
    go_roundw
    case rel => exact ⟨j, _, by omega, rfl, HS2, HS, HB3, HR3, HJ3⟩
    case measure => simp [intOf]
   ·gi_wp2
    refine bodyPost_ret (results_none rfl _ _ _) rfl ?_
    exact ⟨⟨_, rfl⟩, .inr ⟨_, trivial, hJx3⟩⟩
end Go.Proofs.YtkbcnacjaakleaaGreatDoor
namespace Go.Proofs.YtkbcnacjaakleaaGreatDoor
open Go.RowKit Go.Shelf

abbrev kdV (ks : List Int) : List Value := ks.map (Value.int .i64)
structure KSt (w W : World) (r : Nat) (q : Option Addr) (c : Nat) (z : Wz) (s : Ps) (v : Value) (ks : List Int) : Prop where
 st : St w W r q c z s [(w.heap.size, ndZ)] [] (.slice none 0 0) [] (.slice none 0 0) []
 own : W.ownsRow (w.heap.size + 1) 24 1 v ks.length (kdV ks)
theorem infoKd : (Tryz.prog.info? 24).map (fun i => (i.zero, i.size, i.bytes)) = some (some (.int .i64 0), 1, 8) := by kernel_rfl
section
variable {w W W' : World} {r : Nat} {q : Option Addr} {c : Nat} {z : Wz} {s s' : Ps} {v : Value} {ks : List Int}
theorem KSt.sort (h : KSt w W r q c z s v ks) : ∀ y, v.ownBlock = some y → w.heap.size + 1 ≤ y ∧ y < W.heap.size := fun y hy => by
 rcases h.own.2 with ⟨h1, h2⟩ | ⟨gb, cap, cur, e1, hB, hc, _⟩
 ·rw [h1] at hy; simp [Value.ownBlock] at hy
 ·rw [e1] at hy
  obtain rfl := Option.some.inj hy
  exact ⟨hB, (Array.getElem?_eq_some_iff.1 hc).1⟩
theorem KSt.call (h : KSt w W r q c z s v ks) (ho : Only r W W') (hr : RdAt W' r q c z s') : KSt w W' r q c z s' v ks :=
 ⟨h.st.call ho hr, own_blk h.own (fun g hg hl => ho.block g hl (fun e => by have := h.sort g hg; have := h.st.low; cases e; omega))⟩
theorem KSt.slice (h : KSt w W r q c z s v ks) : ∃ q c, v = .slice q ks.length c := by
 rcases h.own.2 with ⟨rfl, h0⟩ | ⟨g, cap, cur, rfl, _⟩
 ·exact ⟨none, 0, by rw [h0]⟩
 ·exact ⟨_, _, rfl⟩
theorem KSt.row (h : KSt w W r q c z s v ks) : ∃ g, g < W.heap.size ∧ w.heap.size ≤ g ∧ KdRow W g v ks := by
 have hlt := h.st.fst (List.mem_cons_self ..)
 rcases h.own.2 with ⟨h1, h2⟩ | ⟨g, cap, cur, e1, hB, hc, h2, h3, h4, h5⟩
 ·exact ⟨w.heap.size, hlt.2, Nat.le_refl _, .inl ⟨h1, List.length_eq_zero_iff.1 h2⟩⟩
 ·refine ⟨g, (Array.getElem?_eq_some_iff.1 hc).1, by omega, .inr ⟨cap, e1, fun j x hx => ?_⟩⟩
  rw [cell_of_row W g _ cur _ (0, 0) hc]
  have : (kdV ks)[j]? = some (.int .i64 x) := by simp [hx]
  have hj : j < ks.length := (List.getElem?_eq_some_iff.1 hx).1
  rw [← h5, List.getElem?_take, if_pos (by omega)] at this
  simpa using this
theorem KSt.push (h : KSt w W r q c z s v ks) (x : Int) (hlen : ks.length ≤ 2000000) (ty : TypeId) :
  ∃ q' n' c' W', AppRuns Tryz.prog 269 ty v (.slice (some ⟨W.heap.size, 0, none⟩) 1 1) (W.alloc (.cells #[.int .i64 x] 24)) (.slice q' n' c') W' ∧ KSt w W' r q c z s (.slice q' n' c') (ks ++ [x]) := by
 have h1 := h.call (.of_ext ((Ext.refl W).alloc (.cells #[.int .i64 x] 24))) (h.st.ext ((Ext.refl W).alloc (.cells #[.int .i64 x] 24))).rd
 have hb := Blk.new W 24 #[.int .i64 x]
 have hsz : (W.alloc (.cells #[.int .i64 x] 24)).heap.size = W.heap.size + 1 := size_alloc _ _
 generalize W.alloc (.cells #[.int .i64 x] 24) = W1 at *
 obtain ⟨i0, hi, hz0, hz1, hz2⟩ := info_parts infoKd
 have hle := h.st.le
 have hbx := (h.st.fst (List.mem_cons_self ..)).2
 obtain ⟨v', W', a1, a2, a3, _, a4⟩ := run_append_own_at (P := Tryz.prog) (w := W1) (w.heap.size + 1) 269 ty 24 i0 _ 1 8 Tryz.underlying269 hi hz0 hz1 hz2 rfl (by omega) v ks.length (kdV ks) h1.own ⟨W.heap.size, 0, none⟩ 1 1
  [.int .i64 x] rfl (fun j u hu => by
   have hadd : (⟨W.heap.size, 0, none⟩ : Addr).add j = ⟨W.heap.size, 0 + j, none⟩ := by unfold Addr.add; split <;> simp_all
   rw [hadd, hb.cell, Nat.zero_add]
   simpa using hu) (by intro u hu; simp at hu; rcases hu with rfl; rfl) (by unfold maxLen; omega) (by omega) (by omega)
 have hrow := h1.sort
 have blk' : ∀ k, k < w.heap.size + 1 → W'.heap[k]? = W1.heap[k]? := fun k hk => a3.block k (by omega) (fun e => by have := (hrow k e.symm).1; omega)
 obtain ⟨s0, h0⟩ := h.st.rd0
 have hK : KSt w W' r q c z s v' (ks ++ [x]) := by
  refine ⟨⟨h0.keep h1.st.rd (fun k hk => blk' k (by omega)), h.st.rd0, ⟨a3.os.trans h1.st.only.os, a3.tape.trans h1.st.only.tape, a3.output.trans h1.st.only.output, Nat.le_trans h1.st.only.size a3.size, fun k hk hn => (blk' k (by omega)).trans (h1.st.only.block k hk hn)⟩, fun p hp => ?_, fun p hp => (List.not_mem_nil hp).elim, .nil _ _ _ _, .nil _ _, fun y hy => by simp [Value.ownBlock] at hy⟩, ?_⟩
  ·obtain ⟨b1, b3⟩ := h1.st.box p hp
   simp only [List.mem_singleton] at hp
   subst hp
   exact ⟨b1, (blk' _ (by simp only; omega)).trans b3⟩
  ·show W'.ownsRow (w.heap.size + 1) 24 1 v' (ks ++ [x]).length (kdV (ks ++ [x]))
   unfold kdV
   rw [List.map_append, List.length_append]
   simpa using a2
 obtain ⟨q', c', rfl⟩ := hK.slice
 exact ⟨q', _, c', W', ⟨a1⟩, hK⟩
theorem KSt.start (h : RdAt w r q c z s) : KSt w (w.alloc ndZ) r q c z s (.slice none 0 0) [] := ⟨(St.start h).newK ndZ, World.ownsRow_nil _ _ _ _⟩
end
end Go.Proofs.YtkbcnacjaakleaaGreatDoor
namespace Go.Proofs.YtkbcnacjaakleaaGreatDoor
open Go.RowKit
theorem cell_cells {W : World} {b o : Nat} {x : Value} {ob : Obj} (hc : W.cell? ⟨b, o, none⟩ = some x) (hh : W.heap[b]? = some ob) : ob.isCells = true := by
 unfold World.cell? at hc
 simp only [hh] at hc
 cases ob <;> first | rfl | simp at hc
theorem St.loose {w W W' : World} {r : Nat} {q : Option Addr} {c : Nat} {z : Wz} {s : Ps} {K : List (Nat × Obj)} {N : List Pt} (h : St w W r q c z s K N (.slice none 0 0) [] (.slice none 0 0) []) {row : Option Nat} (hg : W.grownBy W' row)
  (hr : ∀ y, row = some y → w.heap.size ≤ y ∧ ∃ o : Obj, W.heap[y]? = some o ∧ o.isCells = false) (hK : ∀ p ∈ K, p.2.isCells = true) : St w W' r q c z s K N (.slice none 0 0) [] (.slice none 0 0) [] := by
 have hle := h.le
 have blk' : ∀ k, k < w.heap.size → W'.heap[k]? = W.heap[k]? := fun k hk => hg.block k (by omega) (fun e => by have := (hr k e.symm).1; omega)
 obtain ⟨s0, h0⟩ := h.rd0
 refine ⟨h0.keep h.rd (fun k hk => blk' k (by omega)), h.rd0, ⟨hg.os.trans h.only.os, hg.tape.trans h.only.tape, hg.output.trans h.only.output, Nat.le_trans h.only.size hg.size, fun k hk hn => (blk' k (by omega)).trans (h.only.block k hk hn)⟩, fun p hp => ?_, fun p hp => ?_, .nil _ _ _ _, .nil _ _, h.tbox⟩
 ·obtain ⟨b1, b3⟩ := h.box p hp
  refine ⟨b1, (hg.block p.1 (Array.getElem?_eq_some_iff.1 b3).1 (fun e => ?_)).trans b3⟩
  obtain ⟨_, o, ho, hn⟩ := hr p.1 e.symm
  rw [b3] at ho
  obtain rfl := Option.some.inj ho
  rw [hK p hp] at hn
  cases hn
 ·refine (h.pts p hp).keep (fun b o x hb hc => (hg.cell_far ⟨b, o, none⟩ (cell_lt hc) (fun e => ?_)).trans hc) (fun _ _ hb => hb)
  obtain ⟨_, ob, ho, hn⟩ := hr b e.symm
  rw [cell_cells hc ho] at hn
  cases hn
end Go.Proofs.YtkbcnacjaakleaaGreatDoor
namespace Go.Proofs.YtkbcnacjaakleaaGreatDoor
open Go.RowKit Go.Shelf
attribute [local go_sem] Oper.semAt_some

theorem skip_yes {z : Wz} {s : Ps} {t : List UInt8} (h : isW z s.p t = true) : skipP z s t = ⟨s.p + 1, s.o⟩ := by unfold skipP; rw [if_pos h]
theorem skip_no {z : Wz} {s : Ps} {t : List UInt8} (h : isW z s.p t = false) : skipP z s t = s := by unfold skipP; rw [h]; rfl
theorem ahead_1 {z : Wz} {k p : Nat} {acc : List Int} (h : isW z p tNot = true) : aheadL z (k + 1) p acc = aheadL z k (p + 1) (acc ++ [22]) := by rw [aheadL, if_pos h]
theorem ahead_2 {z : Wz} {k p : Nat} {acc : List Int} (h : isW z p tNot = false) (h2 : isW z p [45] = true) : aheadL z (k + 1) p acc = aheadL z k (p + 1) (acc ++ [23]) := by rw [aheadL, h, h2]; rfl
theorem ahead_3 {z : Wz} {k p : Nat} {acc : List Int} (h : isW z p tNot = false) (h2 : isW z p [45] = false) (h3 : isW z p [35] = true) : aheadL z (k + 1) p acc = aheadL z k (p + 1) (acc ++ [24]) := by rw [aheadL, h, h2, h3]; rfl
theorem ahead_4 {z : Wz} {k p : Nat} {acc : List Int} (h : isW z p tNot = false) (h2 : isW z p [45] = false) (h3 : isW z p [35] = false) : aheadL z (k + 1) p acc = (p, acc) := by rw [aheadL, h, h2, h3]; rfl
theorem unary_any {f : Nat} (hC : Con f) (w : World) (r : Nat) (q : Option Addr) (c : Nat) (z : Wz) (s : Ps) (h : RdAt w r q c z s) (hf : 10 * (z.ws.length - s.p) + 1 ≤ f) :
  Calls Tryz.prog 232 #[.pointer (some ⟨r, 0, none⟩)] w (RdR (EncN w) w r q c z (unaryR z (pz z f) s)) := by
 obtain ⟨res, hres⟩ : ∃ res, unaryR z (pz z f) s = res := ⟨_, rfl⟩
 rw [hres]
 have HC := Lib.hid hC
 have H0 := Lib.hid (KSt.start h)
 have hle := h.le
 have hlen := h.len
 have hlow := h.lt
 have HR := Lib.hid hres
 clear hres h hC
 refine (callsIn_wide (n := 4)).1 ?_
 refine callsIn_of_wp_marks Tryz.func232 rfl trivial ?_ rfl
 simp only [Tryz.ntmps232, List.size_toArray, List.length_cons, List.length_nil, Nat.reduceAdd, Nat.reduceSub, Array.replicate_succ, Array.replicate_zero, List.push_toArray, List.append_toArray, List.nil_append, List.cons_append]
 gi_wp2
 refine wpIn_wide.2 ?_
 refine wp_scope_straight ?_
 generalize w.alloc (.cells #[.int .i64 0, .string ⟨#[]⟩, .string ⟨#[]⟩, .int .i64 0, .slice none 0 0, .slice none 0 0] 28) = W0 at *
 go_wp2_with fail
 refine wp_label ?_
 go_wp2_with fail
 go_loopw [3] (fun s3 wr => ∃ (k p : Nat) (acc : List Int), Hid (KSt w wr r q c z ⟨p, s.o⟩ s3 acc) ∧ Hid (aheadL z k p acc = aheadL z (z.ws.length + 1) s.p []) ∧ z.ws.length - p < k ∧ acc.length ≤ p ∧ s.p ≤ p) (fun _ wr => z.ws.length - nxt wr r)
 case atStart => exact ⟨_, s.p, [], H0, Lib.hid rfl, by omega, Nat.zero_le _, Nat.le_refl _⟩
 case round =>
  clear H0
  obtain ⟨k, p, acc, ST, SP, hk, hacc, hsp⟩ := hrel
  obtain ⟨k, rfl⟩ : ∃ k', k = k' + 1 := ⟨k - 1, by omega⟩
  have hle := ST.out.st.rd.le
  have hnx := ST.out.st.nxt
  simp only at hle hnx
  go_wp2_with fail
  refine (take_any wr r q c z ⟨p, s.o⟩ [110, 111, 116] ST.out.st.rd).mono ?_
  rintro e w1 ⟨he, r1, o1⟩
  cases h1 : isW z p [110, 111, 116] with
  | true =>
   obtain rfl := he.trans (congrArg (fun b => Ending.returned (Value.bool b)) h1)
   rw [skip_yes (s := ⟨p, s.o⟩) h1] at r1
   have S1 := Lib.hid (ST.out.call o1 r1)
   clear he r1 o1
   have hlt : p < z.ws.length := isW_lt h1
   have SP2 := Lib.hid (show aheadL z k (p + 1) (acc ++ [22]) = aheadL z (z.ws.length + 1) s.p [] by rw [← SP.out, ahead_1 h1])
   obtain ⟨q2, n2, c2, W2, hrun, S2⟩ := S1.out.push 22 (by omega) 269
   have HRUN := Lib.hid hrun
   have S3 := Lib.hid S2
   have hnx2 := S2.st.nxt
   simp only at hnx2
   clear hrun S2
   go_wp2_with (at_builtin; refine wpList_append_runs rfl _ _ 269 rfl _ _ _ _ rfl rfl HRUN.out ?_)
   go_roundw
   case rel => exact ⟨k, p + 1, _, S3, SP2, by omega, by rw [List.length_append]; simp; omega, by omega⟩
   case measure => rw [hnx, hnx2]; omega
  | false =>
   obtain rfl := he.trans (congrArg (fun b => Ending.returned (Value.bool b)) h1)
   rw [skip_no (s := ⟨p, s.o⟩) h1] at r1
   have S1 := Lib.hid (ST.out.call o1 r1)
   clear he r1 o1
   go_wp2_with fail
   refine (take_any w1 r q c z ⟨p, s.o⟩ [45] S1.out.st.rd).mono ?_
   rintro e w2 ⟨he, r1, o1⟩
   cases h2 : isW z p [45] with
   | true =>
    obtain rfl := he.trans (congrArg (fun b => Ending.returned (Value.bool b)) h2)
    rw [skip_yes (s := ⟨p, s.o⟩) h2] at r1
    have Sb := Lib.hid (S1.out.call o1 r1)
    clear he r1 o1
    have hlt : p < z.ws.length := isW_lt h2
    have SP2 := Lib.hid (show aheadL z k (p + 1) (acc ++ [23]) = aheadL z (z.ws.length + 1) s.p [] by rw [← SP.out, ahead_2 h1 h2])
    obtain ⟨q2, n2, c2, W2, hrun, S2⟩ := Sb.out.push 23 (by omega) 269
    have HRUN := Lib.hid hrun
    have S3 := Lib.hid S2
    have hnx2 := S2.st.nxt
    simp only at hnx2
    clear hrun S2
    go_wp2_with (at_builtin; refine wpList_append_runs rfl _ _ 269 rfl _ _ _ _ rfl rfl HRUN.out ?_)
    go_roundw
    case rel => exact ⟨k, p + 1, _, S3, SP2, by omega, by rw [List.length_append]; simp; omega, by omega⟩
    case measure => rw [hnx, hnx2]; omega
   | false =>
    obtain rfl := he.trans (congrArg (fun b => Ending.returned (Value.bool b)) h2)
    rw [skip_no (s := ⟨p, s.o⟩) h2] at r1
    have Sb := Lib.hid (S1.out.call o1 r1)
    clear he r1 o1
    go_wp2_with fail
    refine (take_any w2 r q c z ⟨p, s.o⟩ [35] Sb.out.st.rd).mono ?_
    rintro e w3 ⟨he, r1, o1⟩
    cases h3 : isW z p [35] with
    | true =>
     obtain rfl := he.trans (congrArg (fun b => Ending.returned (Value.bool b)) h3)
     rw [skip_yes (s := ⟨p, s.o⟩) h3] at r1
     have Sc := Lib.hid (Sb.out.call o1 r1)
     clear he r1 o1
     have hlt : p < z.ws.length := isW_lt h3
     have SP2 := Lib.hid (show aheadL z k (p + 1) (acc ++ [24]) = aheadL z (z.ws.length + 1) s.p [] by rw [← SP.out, ahead_3 h1 h2 h3])
     obtain ⟨q2, n2, c2, W2, hrun, S2⟩ := Sc.out.push 24 (by omega) 269
     have HRUN := Lib.hid hrun
     have S3 := Lib.hid S2
     have hnx2 := S2.st.nxt
     simp only at hnx2
     clear hrun S2
     go_wp2_with (at_builtin; refine wpList_append_runs rfl _ _ 269 rfl _ _ _ _ rfl rfl HRUN.out ?_)
     go_roundw
     case rel => exact ⟨k, p + 1, _, S3, SP2, by omega, by rw [List.length_append]; simp; omega, by omega⟩
     case measure => rw [hnx, hnx2]; omega
    | false =>
     obtain rfl := he.trans (congrArg (fun b => Ending.returned (Value.bool b)) h3)
     rw [skip_no (s := ⟨p, s.o⟩) h3] at r1
     have Sc := Lib.hid (Sb.out.call o1 r1)
     clear he r1 o1
     go_wp2_with fail
     have HA := Lib.hid (show aheadL z (z.ws.length + 1) s.p [] = (p, acc) by rw [← SP.out, ahead_4 h1 h2 h3])
     obtain ⟨q3, c3, rfl⟩ := Sc.out.slice
     clear SP h1 h2 h3 ST S1 Sb
     refine (HC.out.be w3 r q c z ⟨p, s.o⟩ Sc.out.st.rd (by simp only; omega)).mono ?_
     intro e w4 hE
     cases hx : (pz z f).be ⟨p, s.o⟩ with
     | error y =>
      obtain ⟨rfl, o4⟩ := hE.no hx
      have HRE := Lib.hid (show res = .error y by rw [← HR.out]; unfold unaryR; rw [HA.out]; simp only; rw [hx])
      clear hE hx
      go_wp2_with fail
      exact Sc.out.st.giv HRE.out o4
     | ok y =>
      obtain ⟨x, s1⟩ := y
      obtain ⟨v, rfl, hv, r4, o4⟩ := hE.yes hx
      obtain ⟨qn, mn, ql, ml, rfl⟩ := EncN.open hv
      have HRF := Lib.hid (show res = .ok (acc.foldr (fun k n => ndK k [n]) x, s1) by rw [← HR.out]; unfold unaryR; rw [HA.out]; simp only; rw [hx])
      have HK := Lib.hid (Sc.out.call o4 r4)
      have HS := Lib.hid (Sc.out.st.got o4 r4 hv)
      clear hE hx o4 r4 hv HR HA
      obtain ⟨nl, hnl⟩ : ∃ n, x.names.length = n := ⟨_, rfl⟩
      obtain ⟨kl, hkl⟩ : ∃ n, x.kids.length = n := ⟨_, rfl⟩
      rw [hnl, hkl] at HS ⊢
      have SN := Lib.hid (HS.out.newK (ndBx (.int .i64 x.k) (.string x.name) (.string x.text) (.int .i64 x.n) (.slice qn nl mn) (.slice ql kl ml)))
      obtain ⟨g, hg, hwg, hrow⟩ := HK.out.row
      have hwN := (HS.out.fst (List.mem_cons_self ..)).2
      have hsz : (w4.alloc (ndBx (.int .i64 x.k) (.string x.name) (.string x.text) (.int .i64 x.n) (.slice qn nl mn) (.slice ql kl ml))).heap.size = w4.heap.size + 1 := size_alloc _ _
      have hrown := hrow.same (((Ext.refl w4).alloc (ndBx (.int .i64 x.k) (.string x.name) (.string x.text) (.int .i64 x.n) (.slice qn nl mn) (.slice ql kl ml))).block g hg)
      have hn4 : Blk (w4.alloc (ndBx (.int .i64 x.k) (.string x.name) (.string x.text) (.int .i64 x.n) (.slice qn nl mn) (.slice ql kl ml))) w4.heap.size 28 #[.int .i64 x.k, .string x.name, .string x.text, .int .i64 x.n, .slice qn nl mn, .slice ql kl ml] := Blk.new _ _ _
      have hal : acc.length ≤ 1048577 := by omega
      clear hrow HS
      go_wp2_with fail
      generalize w4.alloc (.cells #[.int .i64 x.k, .string x.name, .string x.text, .int .i64 x.n, .slice qn nl mn, .slice ql kl ml] 28) = Wn at *
      refine (callsIn_wide.1 (back_in 4 q3 acc.length c3 _)).mono ?_
      rintro e w5 ⟨rfl, hw5⟩
      have h5 : w5.heap.size = w4.heap.size + 2 := by rw [← hw5, size_alloc, hsz]
      have E5 := (Ext.refl Wn).alloc (.cells #[.slice q3 acc.length c3] 269)
      have B5 := Blk.new Wn 269 #[.slice q3 acc.length c3]
      rw [hw5] at E5 B5
      rw [hsz] at B5
      have SR := Lib.hid (SN.out.ext E5)
      have hr5 := hrown.same (E5.block g (by omega))
      clear hw5 SN hrown E5
      go_wp2_with fail
      refine (wpIn_wide (n := 4)).1 ?_
      refine wpIn_rangeFunc_R rfl (by omega) (gf := 307) (lb := #[.pointer (some ⟨w4.heap.size + 1, 0, none⟩)]) rfl trivial (enters_of Tryz.func307 (by kernel_rfl) rfl)
       (backs_in 3 (by omega) (w4.heap.size + 1) g (.slice q3 acc.length c3) acc hal w5 (by omega) (by omega) B5 hr5)
       KpR.t (KpR.b (by omega) (by omega)) (Below.refl _ _) (fun _ => rfl)
       (fun pre W => ∃ (cu : Nd) (qc qd : Option Addr) (nc mc nd md : Nat), w5.heap.size ≤ W.heap.size ∧ cu = (pre.map Prod.snd).foldl (fun n k => ndK k [n]) x ∧ St w W r q c z s1 [(w4.heap.size, ndBx (.int .i64 cu.k) (.string cu.name) (.string cu.text) (.int .i64 cu.n) (.slice qc nc mc) (.slice qd nd md)), (w.heap.size, ndZ)] [.nd (ndV cu (.slice qc nc mc) (.slice qd nd md)) cu] (.slice none 0 0) [] (.slice none 0 0) [])
       (fun _ _ _ => False) ?own (fun _ _ _ _ _ hs _ _ => hs) ⟨x, qn, ql, nl, mn, kl, ml, Nat.le_refl _, rfl, SR.out⟩
       (fun y a' _ => a' = { tmps := #[.pointer (some ⟨r, 0, none⟩), undef, .pointer (some ⟨w.heap.size, 0, none⟩), .slice q3 acc.length c3, .pointer (some ⟨w4.heap.size, 0, none⟩), undef, .int .i64 y.2, .bool false, .pointer (some ⟨r, 0, none⟩), .bool false, u10, u11, u12, .bool false, .pointer (some ⟨r, 0, none⟩), .bool false, u16, u17, u18, .bool false, .pointer (some ⟨r, 0, none⟩), .bool false, u22, u23, u24, .pointer (some ⟨r, 0, none⟩), ndV x (.slice qn nl mn) (.slice ql kl ml), .slice q3 acc.length c3, .func (.func 307) #[] #[.pointer (some ⟨w4.heap.size + 1, 0, none⟩)], .int .i64 y.1, .int .i64 y.2, undef, undef, undef, undef, undef], defers := [] })
       (fun _ _ _ _ _ hs _ _ => hs) ?assign ?body ?done ?stop
      case own =>
       rintro ys X Y row ⟨cu, qc, qd, nc, mc, nd, md, e0, e1, e2⟩ hg hr
       exact ⟨cu, qc, qd, nc, mc, nd, md, Nat.le_trans e0 hg.size, e1, e2.loose hg (fun y e => ⟨by have := (hr y e).1; omega, (hr y e).2⟩) (by intro p hp; simp only [List.mem_cons, List.not_mem_nil, or_false] at hp; rcases hp with rfl | rfl <;> rfl)⟩
      case assign =>
       intro l pre y W K hI hR hK
       gi_wp2
       exact hK _ _ (KeepsFrom.refl _ _) ⟨rfl, rfl⟩ hI rfl
      case body =>
       rintro l pre y a' W ⟨cu, qc, qd, nc, mc, nd, md, hW5, hcu, S⟩ hR rfl
       obtain ⟨k0, k1, k2, k3, k4, k5, _⟩ := S.six
       have S2 := S.one (x := cu) (List.mem_cons_self ..)
       obtain ⟨_, _, _, _, _, _, f0, f1, f2, f3, f4, f5⟩ := S2.six
       have l5 := (S.fst (List.mem_cons_self ..)).2
       have hwn := (S.fst (b := w.heap.size) (o := ndZ) (by simp)).2
       have HR := Lib.hid hR
       obtain ⟨n', hn'⟩ : ∃ n', ndK y.2 [cu] = n' := ⟨_, rfl⟩
       have HN := Lib.hid hn'
       have S6 := S2.set6 (by intro p hp; simp at hp; rw [hp]; simp only; omega) (.int .i64 y.2) (.string ⟨#[]⟩) (.string ⟨#[]⟩) (.int .i64 0) (.slice none 0 0) (.slice (some ⟨W.heap.size, 0, none⟩) 1 1)
       have S7 := Lib.hid ((S6.add (PtAt.mk _ _ y.2 0 _ _ (PtAt.tx0 _ _) (S6.pts _ (List.mem_cons_self ..)))).sub (N' := [.nd (ndV (ndK y.2 [cu]) (.slice none 0 0) (.slice (some ⟨W.heap.size, 0, none⟩) 1 1)) (ndK y.2 [cu])]) (fun p hp => by simp only [List.mem_singleton] at hp; subst hp; exact List.mem_cons_self ..))
       have HK1 := Lib.hid (show KpR (w4.heap.size + 1) g W (put6 (W.alloc (.cells #[.int .i64 cu.k, .string cu.name, .string cu.text, .int .i64 cu.n, .slice qc nc mc, .slice qd nd md] 28)) w4.heap.size (.int .i64 y.2) (.string ⟨#[]⟩) (.string ⟨#[]⟩) (.int .i64 0) (.slice none 0 0) (.slice (some ⟨W.heap.size, 0, none⟩) 1 1)) from ⟨(put6_far _ _ _ _ _ _ _ _ _ (by omega)).trans (((Ext.refl W).alloc _).block _ (by omega)), (put6_far _ _ _ _ _ _ _ _ _ (by omega)).trans (((Ext.refl W).alloc _).block _ (by omega))⟩)
       have HK2 := Lib.hid (show KeepsFrom w5.heap.size W (put6 (W.alloc (.cells #[.int .i64 cu.k, .string cu.name, .string cu.text, .int .i64 cu.n, .slice qc nc mc, .slice qd nd md] 28)) w4.heap.size (.int .i64 y.2) (.string ⟨#[]⟩) (.string ⟨#[]⟩) (.int .i64 0) (.slice none 0 0) (.slice (some ⟨W.heap.size, 0, none⟩) 1 1)) from ⟨by simp [World.setCell], fun k o hB ho hc => (put6_far _ _ _ _ _ _ _ _ _ (by omega)).trans ((((Ext.refl W).alloc _).block _ (Array.getElem?_eq_some_iff.1 ho).1).trans ho)⟩)
       have e6 : put6 (W.alloc (.cells #[.int .i64 cu.k, .string cu.name, .string cu.text, .int .i64 cu.n, .slice qc nc mc, .slice qd nd md] 28)) w4.heap.size (.int .i64 y.2) (.string ⟨#[]⟩) (.string ⟨#[]⟩) (.int .i64 0) (.slice none 0 0) (.slice (some ⟨W.heap.size, 0, none⟩) 1 1) = (put6 W w4.heap.size (.int .i64 y.2) (.string ⟨#[]⟩) (.string ⟨#[]⟩) (.int .i64 0) (.slice none 0 0) (.slice (some ⟨W.heap.size, 0, none⟩) 1 1)).alloc (.cells #[.int .i64 cu.k, .string cu.name, .string cu.text, .int .i64 cu.n, .slice qc nc mc, .slice qd nd md] 28) := by unfold put6; rw [World.setCell_alloc_past _ _ _ _ l5]; iterate 5 rw [World.setCell_alloc_past _ _ _ _ (by simpa [World.setCell] using l5)]
       rw [e6] at HK1 HK2 S7
       have HW5 := Lib.hid hW5
       have HCU := Lib.hid hcu
       clear S S2 S6 hR hW5 hcu e6
       gi_wp2
       exact ⟨HK2.out, HK1.out, trivial, ndK y.2 [cu], none, some ⟨W.heap.size, 0, none⟩, 0, 0, 1, 1, Nat.le_trans HW5.out HK2.out.size, by rw [List.map_append, List.foldl_append, ← HCU.out]; rfl, S7.out⟩
      case done =>
       rintro D ys W hD hys ⟨cu, qc, qd, nc, mc, nd, md, hW5, hcu, S⟩ hK
       obtain ⟨k0, k1, k2, k3, k4, k5, _⟩ := S.six
       obtain ⟨_, _, _, _, _, _, f0, f1, f2, f3, f4, f5⟩ := S.swap.six
       have hltX := (S.fst (b := w.heap.size) (o := ndZ) (by simp)).2
       have hltY := (S.fst (List.mem_cons_self ..)).2
       have HRG := Lib.hid (show res = .ok (cu, s1) by rw [HRF.out, hcu, hys, List.foldl_reverse])
       have S8 := S.swap.set6 (by intro p hp; simp at hp; rw [hp]; simp only; omega) (.int .i64 cu.k) (.string cu.name) (.string cu.text) (.int .i64 cu.n) (.slice qc nc mc) (.slice qd nd md)
       have hK2 := (put6_far W w.heap.size (.int .i64 cu.k) (.string cu.name) (.string cu.text) (.int .i64 cu.n) (.slice qc nc mc) (.slice qd nd md) D (by omega)).trans hK
       have HK2 := Lib.hid hK2
       have HS8 := Lib.hid S8
       clear hcu S hK hK2 S8 hW5 hys hwg
       go_wp2_with fail
       refine ⟨by simp, .inl ⟨D, _, rfl, run_takeDeferred HK2.out, ?_⟩⟩
       have S9 := HS8.out.loose (grownBy_putObj' _ D (.deferred none)) (fun y e => by cases e; exact ⟨by omega, _, HK2.out, rfl⟩) (by intro p hp; simp only [List.mem_cons, List.not_mem_nil, or_false] at hp; rcases hp with rfl | rfl <;> rfl)
       obtain ⟨z0, z1, z2, z3, z4, z5, _⟩ := S9.six
       have HS9 := Lib.hid (S9.ret HRG.out (S9.pt (List.mem_cons_self ..)))
       clear k0 k1 k2 k3 k4 k5 f0 f1 f2 f3 f4 f5
       exact ⟨ndV cu (.slice qc nc mc) (.slice qd nd md), by simp [results, Tryz.results232, go_sem, z0, z1, z2, z3, z4, z5], HS9.out⟩
      case stop =>
       rintro D c pre W _ _ h _
       exact h.elim
end Go.Proofs.YtkbcnacjaakleaaGreatDoor
namespace Go.Proofs.YtkbcnacjaakleaaGreatDoor
open Go.RowKit
theorem expr_6 {f : Nat} (hC : Con f) (w : World) (r : Nat) (q : Option Addr) (c : Nat) (z : Wz) (s : Ps) (h : RdAt w r q c z s) (hf : 10 * (z.ws.length - s.p) + 1 ≤ f) :
  Calls Tryz.prog 178 #[.pointer (some ⟨r, 0, none⟩), .int .i64 6] w (RdR (EncN w) w r q c z (unaryR z (pz z f) s)) := by
 obtain ⟨res, hres⟩ : ∃ res, unaryR z (pz z f) s = res := ⟨_, rfl⟩
 have H0 := Lib.hid ((St.start h).newK ndZ)
 have HC := Lib.hid hC
 have hlow := h.lt
 rw [hres]
 have HR := Lib.hid hres
 clear hres h hC
 go_enter Tryz.func178, Tryz.ntmps178
 go_wp2_with fail
 refine (bonds_any _).mono ?_
 rintro e w1 ⟨bb, rfl, hbb, e1, _⟩
 have S1 := Lib.hid (H0.out.ext e1)
 clear e1 H0 hbb
 go_wp2_with fail
 refine (unary_any HC.out w1 r q c z s S1.out.rd hf).mono ?_
 intro e w2 hE
 rw [HR.out] at hE
 cases hx : res with
 | error y =>
  obtain ⟨rfl, o2⟩ := hE.no hx
  have HRE := Lib.hid hx
  subst hx
  clear hE HR
  go_wp2_with fail
  exact ⟨rfl, S1.out.giv rfl o2⟩
 | ok y =>
  obtain ⟨x, s1⟩ := y
  have HX := Lib.hid hx
  obtain ⟨v, rfl, hv, r2, o2⟩ := hE.yes hx
  obtain ⟨qn, mn, ql, ml, rfl⟩ := EncN.open hv
  obtain ⟨nl, hnl⟩ : ∃ n, x.names.length = n := ⟨_, rfl⟩
  obtain ⟨kl, hkl⟩ : ∃ n, x.kids.length = n := ⟨_, rfl⟩
  have S2 := S1.out.got o2 r2 hv
  rw [hnl, hkl] at S2 ⊢
  have HS2 := Lib.hid S2
  obtain ⟨_, _, _, _, _, _, f0, f1, f2, f3, f4, f5⟩ := S2.six
  have hltX := (S2.fst (b := w.heap.size) (o := ndZ) (by simp)).2
  clear hE hx r2 o2 hv hnl hkl S2 HR
  go_wp2_with fail
  exact bodyPost_ret (v := ndV x (.slice qn nl mn) (.slice ql kl ml)) (by simp [results, Tryz.results178, go_sem, *]) rfl (HS2.out.fin (fun p hp => (List.not_mem_nil hp).elim) (x := x) _ _ HX.out fun W' hW' => hW'.pt (List.mem_cons_self ..))
theorem con_all : ∀ f, Con f
 | 0 => ⟨fun w r q c z s h hf => by omega, fun w r q c z s lv h hlv hf => by omega, fun w r q c z s h hf => by omega⟩
 | f + 1 => by
  have hC := con_all f
  refine ⟨fun w r q c z s h hf => statement_any hC w r q c z s h hf, fun w r q c z s lv h hlv hf => ?_, fun w r q c z s h hf => behind_any hC w r q c z s h (by omega)⟩
  show Calls _ _ _ _ (RdR (EncN w) w r q c z (if lv = 6 then unaryR z (pz z f) s else exprR z (pz z f) lv s))
  by_cases h6 : lv = 6
  ·subst h6
   rw [if_pos rfl]
   exact expr_6 hC w r q c z s h (by omega)
  ·rw [if_neg h6]
   exact expr_lv hC w r q c z s lv h (by omega) hf
end Go.Proofs.YtkbcnacjaakleaaGreatDoor
namespace Go.Proofs.YtkbcnacjaakleaaGreatDoor

def Hd (z : Wz) (p : Nat) (x : Wd) : Prop := ∃ w, z.ws[p]? = some w ∧ w.k = x.k ∧ w.t = x.t ∧ w.n = x.n
def Ws (z : Wz) (p : Nat) (l : List Wd) : Prop := ∀ i (h : i < l.length), Hd z (p + i) l[i]
section
variable {z : Wz} {p : Nat} {x y : Wd}
theorem Ws.cons {l : List Wd} (h : Ws z p (x :: l)) : Hd z p x ∧ Ws z (p + 1) l :=
 ⟨by have := h 0 (by simp); simpa using this, fun i hi => by
  have := h (i + 1) (by simp only [List.length_cons]; omega)
  rw [show p + 1 + i = p + (i + 1) by omega]
  simpa using this⟩
theorem Ws.app {a b : List Wd} (h : Ws z p (a ++ b)) : Ws z p a ∧ Ws z (p + a.length) b :=
 ⟨fun i hi => by
  have := h i (by rw [List.length_append]; omega)
  rwa [List.getElem_append_left hi] at this, fun i hi => by
  have := h (a.length + i) (by rw [List.length_append]; omega)
  rw [List.getElem_append_right (by omega)] at this
  rw [show p + a.length + i = p + (a.length + i) by omega]
  simpa using this⟩
theorem Hd.lt (h : Hd z p x) : p < z.ws.length := by
 obtain ⟨w, h, _⟩ := h
 exact (List.getElem?_eq_some_iff.1 h).1
theorem Ws.le {l : List Wd} (h : Ws z p l) (hl : 0 < l.length) : p + l.length ≤ z.ws.length := by
 have := (h (l.length - 1) (by omega)).lt
 omega
theorem Hd.is (h : Hd z p x) (t : List UInt8) : isW z p t = (x.t == t && (x.k == 4 || x.k == 1)) := by
 obtain ⟨w, h, h1, h2, h3⟩ := h
 unfold isW
 rw [h]
 simp only [h1, h2]
theorem Hd.kind_no (h : Hd z p x) {k : Int} (hk : x.k ≠ k) : kindW z p k = none := by
 obtain ⟨w, h, h1, h2, h3⟩ := h
 unfold kindW
 rw [h]
 simp only
 rw [if_neg (by rw [h1]; exact hk)]
theorem Hd.kind (h : Hd z p x) {k : Int} (hk : x.k = k) : ∃ w, kindW z p k = some w ∧ w.t = x.t ∧ w.n = x.n := by
 obtain ⟨w, h, h1, h2, h3⟩ := h
 refine ⟨w, ?_, h2, h3⟩
 unfold kindW
 rw [h]
 simp only
 rw [if_pos (by rw [h1]; exact hk)]
theorem Hd.oper (h : Hd z p x) (lv : Nat) : operW z p lv = if (x.k == 4 || x.k == 1) && (bondL.getD lv []).contains x.t then some x.t else none := by
 obtain ⟨w, h, h1, h2, h3⟩ := h
 unfold operW
 rw [h]
 simp only [h1, h2]
def folB (y : Wd) (lv : Nat) : Bool := !((y.t == [40] || y.t == [91] || y.t == [46]) && (y.k == 4 || y.k == 1)) && (List.range 6).all fun m => decide (m < lv) || !((y.k == 4 || y.k == 1) && (bondL.getD m []).contains y.t)
structure Fol (z : Wz) (p lv : Nat) : Prop where
 call : isW z p [40] = false
 br : isW z p [91] = false
 dot : isW z p [46] = false
 op : ∀ m, lv ≤ m → m < 6 → operW z p m = none
theorem Hd.fol (h : Hd z p y) {lv : Nat} (hy : folB y lv = true) : Fol z p lv := by
 unfold folB at hy
 rw [Bool.and_eq_true, Bool.not_eq_true', List.all_eq_true] at hy
 obtain ⟨h1, h2⟩ := hy
 refine ⟨?_, ?_, ?_, fun m hl hm => ?_⟩
 ·rw [h.is]
  cases hk : (y.k == 4 || y.k == 1) <;> simp_all
 ·rw [h.is]
  cases hk : (y.k == 4 || y.k == 1) <;> simp_all
 ·rw [h.is]
  cases hk : (y.k == 4 || y.k == 1) <;> simp_all
 ·have h3 := h2 m (List.mem_range.2 hm)
  rw [decide_eq_false (by omega), Bool.false_or, Bool.not_eq_true'] at h3
  rw [h.oper, h3]
  simp
theorem Fol.mono {lv lv' : Nat} (h : Fol z p lv) (hl : lv ≤ lv') : Fol z p lv' := ⟨h.call, h.br, h.dot, fun m h1 h2 => h.op m (by omega) h2⟩
theorem ex_up {f m : Nat} {s s1 : Ps} {n : Nd} (hm : m < 6) (h : (pz z f).ex (m + 1) s = .ok (n, s1)) (ho : operW z s1.p m = none) : (pz z (f + 1)).ex m s = .ok (n, s1) := by
 show (if m = 6 then _ else exprR z (pz z f) m s) = _
 rw [if_neg (by omega)]
 unfold exprR
 rw [h]
 simp only [operL, ho]
 split <;> rfl
theorem ex_ups : ∀ (j m f : Nat) (s s1 : Ps) (n : Nd), m + j = 6 → (pz z f).ex 6 s = .ok (n, s1) → (∀ m', m ≤ m' → m' < 6 → operW z s1.p m' = none) → (pz z (f + j)).ex m s = .ok (n, s1)
 | 0, m, f, s, s1, n, hm, h, ho => by
  obtain rfl : m = 6 := by omega
  exact h
 | j + 1, m, f, s, s1, n, hm, h, ho => ex_up (f := f + j) (by omega) (ex_ups j (m + 1) f s s1 n (by omega) h fun m' h1 h2 => ho m' (by omega) h2) (ho m (Nat.le_refl _) (by omega))
def hdB (w : Wd) : Bool := w.k == 0 || w.k == 2 || w.k == 3 || (w.k == 1 && (w.t == tNil || w.t == tTrue || w.t == tFalse)) || (w.k == 4 && (w.t == [40] || w.t == [123]))
def hdE (w : Wd) : Bool := hdB w || (w.k == 1 && w.t == tNot) || (w.k == 4 && (w.t == [45] || w.t == [35]))
theorem hdB_cases {w : Wd} (h : hdB w = true) : w.k = 0 ∨ w.k = 2 ∨ w.k = 3 ∨ (w.k = 1 ∧ (w.t = tNil ∨ w.t = tTrue ∨ w.t = tFalse)) ∨ (w.k = 4 ∧ (w.t = [40] ∨ w.t = [123])) := by
 simp only [hdB, Bool.or_eq_true, Bool.and_eq_true, beq_iff_eq] at h
 rcases h with (((h | h) | h) | ⟨h, h'⟩) | h
 ·exact .inl h
 ·exact .inr (.inl h)
 ·exact .inr (.inr (.inl h))
 ·exact .inr (.inr (.inr (.inl ⟨h, by rcases h' with (h' | h') | h' <;> simp [h']⟩)))
 ·exact .inr (.inr (.inr (.inr h)))
theorem hdE_cases {w : Wd} (h : hdE w = true) : hdB w = true ∨ (w.k = 1 ∧ w.t = tNot) ∨ (w.k = 4 ∧ (w.t = [45] ∨ w.t = [35])) := by
 simp only [hdE, Bool.or_eq_true, Bool.and_eq_true, beq_iff_eq] at h
 rcases h with (h | h) | h
 ·exact .inl h
 ·exact .inr (.inl h)
 ·exact .inr (.inr h)
def noB (t : List UInt8) : Bool := !([tNil, tTrue, tFalse, [40], [123], tNot, [45], [35]].contains t)
theorem Hd.noE (h : Hd z p x) (hx : hdE x = true) {t : List UInt8} (ht : noB t = true) : isW z p t = false := by
 rw [h.is]
 have hne : ∀ u ∈ [tNil, tTrue, tFalse, [40], [123], tNot, [45], [35]], (u == t) = false := by
  intro u hu
  rw [beq_eq_false_iff_ne]
  rintro rfl
  unfold noB at ht
  rw [Bool.not_eq_true', List.contains_eq_mem, decide_eq_false_iff_not] at ht
  exact ht hu
 rcases hdE_cases hx with hx | ⟨h1, h2⟩ | ⟨h1, h2⟩
 ·rcases hdB_cases hx with h1 | h1 | h1 | ⟨h1, h2⟩ | ⟨h1, h2⟩
  ·simp [h1]
  ·simp [h1]
  ·simp [h1]
  ·rcases h2 with h2 | h2 | h2 <;> rw [h2, hne _ (by simp)] <;> rfl
  ·rcases h2 with h2 | h2 <;> rw [h2, hne _ (by simp)] <;> rfl
 ·rw [h2, hne _ (by simp)]; rfl
 ·rcases h2 with h2 | h2 <;> rw [h2, hne _ (by simp)] <;> rfl
theorem Hd.noB (h : Hd z p x) (hx : hdB x = true) {t : List UInt8} (ht : ([tNil, tTrue, tFalse, [40], [123]].contains t) = false) : isW z p t = false := by
 rw [h.is]
 have hne : ∀ u ∈ [tNil, tTrue, tFalse, [40], [123]], (u == t) = false := by
  intro u hu
  rw [beq_eq_false_iff_ne]
  rintro rfl
  rw [List.contains_eq_mem] at ht
  exact (of_decide_eq_false ht) hu
 rcases hdB_cases hx with h1 | h1 | h1 | ⟨h1, h2⟩ | ⟨h1, h2⟩
 ·simp [h1]
 ·simp [h1]
 ·simp [h1]
 ·rcases h2 with h2 | h2 | h2 <;> rw [h2, hne _ (by simp)] <;> rfl
 ·rcases h2 with h2 | h2 <;> rw [h2, hne _ (by simp)] <;> rfl
theorem ahead_0 {o : Nat} (h : Hd z p x) (hx : hdB x = true) (k : Nat) (acc : List Int) : aheadL z (k + 1) p acc = (p, acc) := by
 unfold aheadL
 rw [h.noB hx (by decide), h.noB hx (by decide), h.noB hx (by decide)]
 simp
theorem ex6_be {f o : Nat} {n : Nd} {s1 : Ps} (h : Hd z p x) (hx : hdB x = true) (hb : (pz z f).be ⟨p, o⟩ = .ok (n, s1)) : (pz z (f + 1)).ex 6 ⟨p, o⟩ = .ok (n, s1) := by
 show unaryR z (pz z f) ⟨p, o⟩ = _
 unfold unaryR
 rw [ahead_0 (o := o) h hx]
 simp only [hb]
 rfl
def Spine (z : Wz) (r : Pz) (o p q : Nat) (x : Nd) : Prop := ∃ n0 p0 mv, operandR z r ⟨p, o⟩ = .ok ((n0, mv), ⟨p0, o⟩) ∧
 ((mv = false ∧ n0 = x ∧ p0 = q) ∨ (mv = true ∧ ∃ j, p0 + j ≤ q ∧ ∀ k, indexL z r (k + j) ⟨p0, o⟩ n0 = indexL z r k ⟨q, o⟩ x))
def SpineT (z : Wz) (r : Pz) (o p q : Nat) (x : Nd) : Prop := ∃ n0 p0, operandR z r ⟨p, o⟩ = .ok ((n0, true), ⟨p0, o⟩) ∧ ∃ j, p0 + j ≤ q ∧ ∀ k, indexL z r (k + j) ⟨p0, o⟩ n0 = indexL z r k ⟨q, o⟩ x
theorem SpineT.sp {r : Pz} {o q : Nat} {n : Nd} (h : SpineT z r o p q n) : Spine z r o p q n := by
 obtain ⟨n0, p0, h1, j, h2, h3⟩ := h
 exact ⟨n0, p0, true, h1, .inr ⟨rfl, j, h2, h3⟩⟩
theorem Spine.be {f o q : Nat} {n : Nd} (h : Spine z (pz z f) o p q n) (hq : q ≤ z.ws.length) (hb : isW z q [91] = false) (hd : isW z q [46] = false) : (pz z (f + 1)).be ⟨p, o⟩ = .ok (n, ⟨q, o⟩) := by
 obtain ⟨n0, p0, mv, h1, h2⟩ := h
 show behindR z (pz z f) ⟨p, o⟩ = _
 unfold behindR
 rw [h1]
 rcases h2 with ⟨rfl, rfl, rfl⟩ | ⟨rfl, j, hj, hk⟩
 ·rfl
 ·simp only [if_true]
  rw [show z.ws.length + 1 = (z.ws.length - j) + 1 + j by omega, hk]
  simp [indexL, hb, hd]
theorem want_rt {o : Nat} {t : List UInt8} (h : isW z p t = true) : wantP z ⟨p, o⟩ t = .ok ((), ⟨p + 1, o⟩) := by unfold wantP; rw [if_pos h]
theorem within_rt {α : Type} {f : Ps → PR α} {o q : Nat} {a : α} (ho : o < 100) (h : f ⟨p, o + 1⟩ = .ok (a, ⟨q, o + 1⟩)) : withinR z f ⟨p, o⟩ = .ok (a, ⟨q, o⟩) := by
 unfold withinR
 rw [if_neg (by simp only; omega)]
 simp only [h]
 rfl
theorem bracket_rt {r : Pz} {c : List UInt8} {o q : Nat} {n : Nd} (ho : o < 100) (h : r.ex 0 ⟨p, o + 1⟩ = .ok (n, ⟨q, o + 1⟩)) (hc : isW z q c = true) : bracketR z r c ⟨p, o⟩ = .ok (n, ⟨q + 1, o⟩) := by
 unfold bracketR
 rw [within_rt ho h]
 simp only [want_rt hc]
theorem more_rt {α : Type} {f : Ps → PR α} {tell : α → List Wd} {o : Nat} {End : Nat → Prop} (hc : ∀ q, Hd z q (sgW [44]) → End q) : ∀ (xs : List α) (k p : Nat) (acc : List α), Ws z p (xs.flatMap fun y => sgW [44] :: tell y) →
  End (p + (xs.flatMap fun y => sgW [44] :: tell y).length) → isW z (p + (xs.flatMap fun y => sgW [44] :: tell y).length) [44] = false →
  (∀ x ∈ xs, ∀ q, p ≤ q → Ws z q (tell x) → End (q + (tell x).length) → f ⟨q, o⟩ = .ok (x, ⟨q + (tell x).length, o⟩)) → xs.length < k → moreR z f k ⟨p, o⟩ acc = .ok (acc ++ xs, ⟨p + (xs.flatMap fun y => sgW [44] :: tell y).length, o⟩)
 | [], k + 1, p, acc, hw, hE, hn, hf, hk => by
  simp only [List.flatMap_nil, List.length_nil, Nat.add_zero] at hn ⊢
  unfold moreR
  rw [if_neg (by rw [hn]; decide), List.append_nil]
 | x :: xs, k + 1, p, acc, hw, hE, hn, hf, hk => by
  simp only [List.flatMap_cons, List.cons_append, List.length_cons, List.length_append] at hw hE hn hf hk ⊢
  obtain ⟨h1, h2⟩ := hw.cons
  obtain ⟨h2, h3⟩ := h2.app
  have hi : isW z p [44] = true := by rw [h1.is]; decide
  have hEx : End (p + 1 + (tell x).length) := by
   cases xs with
   | nil => simpa [Nat.add_assoc, Nat.add_comm 1] using hE
   | cons y ys =>
    simp only [List.flatMap_cons, List.cons_append] at h3
    exact hc _ h3.cons.1
  have e1 : p + ((tell x).length + (xs.flatMap fun y => sgW [44] :: tell y).length + 1) = p + 1 + (tell x).length + (xs.flatMap fun y => sgW [44] :: tell y).length := by omega
  rw [e1] at hE hn ⊢
  unfold moreR
  rw [if_pos hi]
  simp only [hf x (List.mem_cons_self ..) (p + 1) (by omega) h2 hEx]
  rw [more_rt hc xs k _ (acc ++ [x]) h3 hE hn (fun y hy q hq h4 h5 => hf y (List.mem_cons_of_mem _ hy) q (by omega) h4 h5) (by omega)]
  simp
theorem flat_lenS {α : Type} (tell : α → List Wd) : ∀ xs : List α, xs.length ≤ (xs.flatMap fun y => sgW [44] :: tell y).length
 | [] => by simp
 | x :: xs => by have := flat_lenS tell xs; simp only [List.flatMap_cons, List.length_append, List.length_cons]; omega
theorem comma_map {α : Type} (tell : α → List Wd) (x : α) (xs : List α) : commaT ((x :: xs).map tell) = tell x ++ xs.flatMap fun y => sgW [44] :: tell y := by
 simp only [List.map_cons, commaT, List.flatMap_map]
theorem comma_rt {α : Type} {f : Ps → PR α} {tell : α → List Wd} {o : Nat} {End : Nat → Prop} (hc : ∀ q, Hd z q (sgW [44]) → End q) {xs : List α} (h0 : 0 < xs.length) (hw : Ws z p (commaT (xs.map tell)))
  (hE : End (p + (commaT (xs.map tell)).length)) (hn : isW z (p + (commaT (xs.map tell)).length) [44] = false)
  (hf : ∀ x ∈ xs, ∀ q, p ≤ q → Ws z q (tell x) → End (q + (tell x).length) → f ⟨q, o⟩ = .ok (x, ⟨q + (tell x).length, o⟩)) : commaR z f ⟨p, o⟩ = .ok (xs, ⟨p + (commaT (xs.map tell)).length, o⟩) := by
 cases xs with
 | nil => simp at h0
 | cons x xs =>
  rw [comma_map] at hw hE hn ⊢
  rw [List.length_append, ← Nat.add_assoc] at hE hn ⊢
  obtain ⟨h2, h3⟩ := hw.app
  have hEx : End (p + (tell x).length) := by
   cases xs with
   | nil => simpa using hE
   | cons y ys =>
    simp only [List.flatMap_cons, List.cons_append] at h3
    exact hc _ h3.cons.1
  have hl := flat_lenS tell xs
  have hle : xs.length < z.ws.length + 1 := by
   rcases Nat.eq_zero_or_pos xs.length with h | h
   ·omega
   ·have := h3.le (by omega); omega
  unfold commaR
  simp only [hf x (List.mem_cons_self ..) p (Nat.le_refl _) h2 hEx]
  rw [more_rt hc xs _ _ [x] h3 hE hn (fun y hy q hq h4 h5 => hf y (List.mem_cons_of_mem _ hy) q (by omega) h4 h5) hle]
  rfl
theorem block_rt {st : Ps → PR Nd} {o : Nat} : ∀ (l : List Nd) (k p : Nat) (acc : List Nd), Ws z p (l.flatMap fun x => tellN x ++ [sgW [59]]) → endsW z (p + (l.flatMap fun x => tellN x ++ [sgW [59]]).length) = true → blockFrom l = true →
  (∀ x ∈ l, ∀ q, p ≤ q → Ws z q (tellN x) → Hd z (q + (tellN x).length) (sgW [59]) → st ⟨q, o⟩ = .ok (x, ⟨q + (tellN x).length, o⟩) ∧ endsW z q = false) → l.length < k →
  blockL z st k ⟨p, o⟩ acc = .ok (acc ++ l, ⟨p + (l.flatMap fun x => tellN x ++ [sgW [59]]).length, o⟩)
 | [], k + 1, p, acc, hw, hE, hb, hf, hk => by
  simp only [List.flatMap_nil, List.length_nil, Nat.add_zero] at hE ⊢
  unfold blockL
  rw [if_pos hE, List.append_nil]
 | x :: l, k + 1, p, acc, hw, hE, hb, hf, hk => by
  simp only [List.flatMap_cons, List.append_assoc, List.length_append, List.length_cons, List.singleton_append, blockFrom, Bool.and_eq_true, Bool.or_eq_true, Bool.not_eq_true', Bool.or_eq_false_iff, beq_eq_false_iff_ne, ne_eq] at hw hE hb hf hk ⊢
  obtain ⟨h1, h2⟩ := hw.app
  obtain ⟨h2, h3⟩ := h2.cons
  obtain ⟨⟨hs, hlast⟩, hb⟩ := hb
  obtain ⟨g1, g2⟩ := hf x (List.mem_cons_self ..) p (Nat.le_refl _) h1 h2
  have hi : isW z (p + (tellN x).length) [59] = true := by rw [h2.is]; decide
  have hsk : skipP z ⟨p + (tellN x).length, o⟩ [59] = ⟨p + (tellN x).length + 1, o⟩ := by unfold skipP; rw [if_pos hi]
  have e1 : p + ((tellN x).length + ((l.flatMap fun x => tellN x ++ [sgW [59]]).length + 1)) = p + (tellN x).length + 1 + (l.flatMap fun x => tellN x ++ [sgW [59]]).length := by omega
  rw [e1] at hE ⊢
  unfold blockL
  rw [if_neg (by rw [g2]; decide)]
  simp only [g1, hsk]
  by_cases hr : x.k = 7 ∨ x.k = 8
  ·rw [if_pos hr]
   have : l = [] := by
    rcases hlast with h | h
    ·simpa using h
    ·rcases hr with hr | hr
     ·exact absurd hr h.1
     ·exact absurd hr h.2
   subst this
   simp
  ·rw [if_neg hr]
   rw [block_rt l k _ (acc ++ [x]) h3 hE hb (fun y hy q hq h4 h5 => hf y (List.mem_cons_of_mem _ hy) q (by omega) h4 h5) (by omega)]
   simp
end
end Go.Proofs.YtkbcnacjaakleaaGreatDoor
