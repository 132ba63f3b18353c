/- tabor.tree.Parse. taborlaw12.known: the parser knows a text. tabor.tree.All: a tree's nodes one by one. -/
import Derived.Test.YtkbcnacjaakleaaGreatDoorYP33
import Derived.OrdersHeld
import Derived.Test.YtkbcnacjaakleaaGreatDoorYP11
import Derived.Test.YtkbcnacjaakleaaGreatDoorYP01
import Derived.Test.YtkbcnacjaakleaaGreatDoorYP07
set_option maxRecDepth 100000
set_option maxHeartbeats 32000000
set_option linter.unusedVariables false
set_option linter.unusedSimpArgs false
namespace Go.Proofs.YtkbcnacjaakleaaGreatDoor
open Go.RowKit

def lexQ (l : List UInt8) : Except (Int × Int) (List Wd) := if 1048576 < l.length then .error (0, 3) else match lexS l with
 | .error p => .error ((p : Nat), 210)
 | .ok ws => .ok ws
theorem lexQ_bad {l : List UInt8} {y : Int × Int} (h : lexQ l = .error y) : parseR l = .error y ∧ ¬ y.2 = 0 := by
 unfold lexQ at h
 unfold parseR
 split
 ·rename_i h1; rw [if_pos h1] at h; cases h; exact ⟨rfl, by show ¬ (3 : Int) = 0; decide⟩
 ·rename_i h1
  rw [if_neg h1] at h
  split at h
  ·rename_i p hp; cases h; rw [hp]; exact ⟨rfl, by show ¬ (210 : Int) = 0; decide⟩
  ·cases h
theorem lexQ_ok {l : List UInt8} {ws : List Wd} (h : lexQ l = .ok ws) : l.length ≤ 1048576 ∧ lexS l = .ok ws ∧ parseR l = match treeR ⟨ws, (l.length : Nat)⟩ with
  | .error y => .error y
  | .ok x => if checkN x = true then .ok x else .error (0, 221) := by
 unfold lexQ at h
 unfold parseR
 split at h
 ·cases h
 ·rename_i h1
  rw [if_neg h1]
  split at h
  ·cases h
  ·rename_i m hm; cases h; rw [hm]; exact ⟨by omega, rfl, rfl⟩
def LexqE (w : World) (l : List UInt8) (e : Ending) (w' : World) : Prop := Ext w w' ∧ match lexQ l with
 | .error y => e = .returned (.tuple #[.slice none 0 0, .int .i64 y.1, .int .i64 y.2])
 | .ok ws => ∃ q c, e = .returned (.tuple #[.slice q ws.length c, .int .i64 0, .int .i64 0]) ∧ OwnW w' w.heap.size (.slice q ws.length c) ws
theorem lexq_any (w : World) (s : ByteArray) (hL : Laid w) : Calls Tryz.prog 51 #[.string s] w (LexqE w s.data.toList) := by
 have hs : s.data.toList.length = s.size := rfl
 unfold LexqE lexQ
 by_cases h : 1048576 < s.size
 ·rw [if_pos (by rw [hs]; exact h)]
  exact (lex_long w s h).mono fun e w' hh => ⟨hh.2, hh.1⟩
 ·rw [if_neg (by rw [hs]; exact h)]
  refine (lex_any w s (by omega) hL).mono ?_
  rintro e w' ⟨he, hm⟩
  refine ⟨he, ?_⟩
  cases hl : lexS s.data.toList with
  | error p => rw [hl] at hm; exact hm
  | ok ws =>
   rw [hl] at hm
   obtain ⟨v, rfl, ho⟩ := hm
   obtain ⟨q, c, rfl⟩ := ho.slice
   exact ⟨q, c, rfl, ho⟩
theorem rd_start {W W5 : World} {B : Nat} {q : Option Addr} {c : Nat} {ws : List Wd} (h : OwnW W B (.slice q ws.length c) ws) (hk : ∀ b, B ≤ b → W5.heap[b]? = W.heap[b]?) (hsz : W5.heap.size = W.heap.size) (long : Int) (hlen : ws.length ≤ 1048576) :
  RdAt (W5.alloc (.cells #[.slice q ws.length c, .int .i64 0, .int .i64 long, .int .i64 0] 88)) W5.heap.size q c ⟨ws, long⟩ ⟨0, 0⟩ := by
 refine ⟨Blk.new W5 _ _, fun i hi => ?_, hlen, Nat.zero_le _, by decide⟩
 obtain ⟨q', c', e, hc⟩ := h.cells
 have hi' : i < ws.length := hi
 obtain ⟨g, rfl, hB, hg⟩ := hc (by omega)
 injection e with e1 e2 e3
 obtain ⟨g0, g1, g2, g3⟩ := hg i hi'
 have hlt := cell_lt g0
 have E := (Ext.refl W5).alloc (.cells #[.slice q ws.length c, .int .i64 0, .int .i64 long, .int .i64 0] 88)
 have mv : ∀ {o : Nat} {x : Value}, W.cell? ⟨g, o, none⟩ = some x → (W5.alloc (.cells #[.slice q ws.length c, .int .i64 0, .int .i64 long, .int .i64 0] 88)).cell? ⟨g, o, none⟩ = some x := fun hx => E.cell ((World.cell?_of_block (hk g hB)).trans hx)
 refine ⟨g, 0, e1, by simp only at hlt; omega, ?_, ?_, ?_, ?_⟩
 ·rw [Nat.zero_add]; exact mv g0
 ·rw [Nat.zero_add]; exact mv g1
 ·rw [Nat.zero_add]; exact mv g2
 ·rw [Nat.zero_add]; exact mv g3
theorem RdAt.far {w w' : World} {r : Nat} {q : Option Addr} {c : Nat} {z : Wz} {s : Ps} (h : RdAt w r q c z s) {V : Nat} (hV : ¬ r = V) (hq : 0 < z.ws.length → ∃ g, q = some ⟨g, 0, none⟩ ∧ V + 1 + 1 < g) (hh : ∀ b, b ≠ V → w'.heap[b]? = w.heap[b]?) : RdAt w' r q c z s :=
 ⟨(hh r hV).trans h.blk, fun i hi => by
  obtain ⟨b, o, e, n, c0, c1, c2, c3⟩ := h.words i hi
  obtain ⟨g, e2, hg⟩ := hq (by omega)
  have hb : b ≠ V := by rw [e] at e2; injection e2 with e3; injection e3 with e4; omega
  have mv : ∀ {o : Nat} {x : Value}, w.cell? ⟨b, o, none⟩ = some x → w'.cell? ⟨b, o, none⟩ = some x := fun hx => (World.cell?_of_block (hh b hb)).trans hx
  exact ⟨b, o, e, n, mv c0, mv c1, mv c2, mv c3⟩, h.len, h.le, h.op⟩
theorem NodeAt.past {B C V d : Nat} {W W' : World} {v : Value} {x : Nd} (h : NodeAt (B ≤ ·) W d v x) (hV : V < B) (hC : C ≤ B) (hh : ∀ b, b ≠ V → W'.heap[b]? = W.heap[b]?) : NodeAt (C ≤ ·) W' d v x :=
 h.keep (fun b o u hb hc => by
  have hb' : B ≤ b := hb
  exact (World.cell?_of_block (hh b (by omega))).trans hc) (fun b _ hb => Nat.le_trans hC hb)
theorem NodeAt.fin {W : World} {C V d : Nat} {v : Value} {x : Nd} (h : NodeAt (V + 3 ≤ ·) W d v x) (hC : C ≤ V) (u0 u1 u2 u3 u4 u5 y z : Value) : NodeAt (C ≤ ·) (((put6 W V u0 u1 u2 u3 u4 u5).setCell ⟨V + 1, 0, none⟩ y).setCell ⟨V + 1 + 1, 0, none⟩ z) d v x :=
 h.keep (fun b o u hb hc => by
  have hb' : V + 3 ≤ b := hb
  have e0 := put6_far W V u0 u1 u2 u3 u4 u5 b (by omega)
  generalize put6 W V u0 u1 u2 u3 u4 u5 = W0 at *
  have e1 := Below.heap_setCell W0 ⟨V + 1, 0, none⟩ y b (by show b ≠ V + 1; omega)
  generalize W0.setCell ⟨V + 1, 0, none⟩ y = W1 at *
  have e2 := Below.heap_setCell W1 ⟨V + 1 + 1, 0, none⟩ z b (by show b ≠ V + 1 + 1; omega)
  generalize W1.setCell ⟨V + 1 + 1, 0, none⟩ z = W2 at *
  exact (World.cell?_of_block (e2.trans (e1.trans e0))).trans hc) (fun b _ hb => by have hb' : V + 3 ≤ b := hb; show C ≤ b; omega)
theorem leaves_of_results {P : Program} {fn : Func} {t t' : Array Value} {R : Ending → World → Prop} (h : results fn t = results fn t') : ∀ (ds : List Deferred) (u : FrameMode) (w : World), Leaves P fn t R ds u w → Leaves P fn t' R ds u w
 | [], .returning, w, hh => by unfold Leaves at hh ⊢; rw [← h]; exact hh
 | [], .panicking _, w, hh => hh
 | [], .run, w, hh => hh
 | d :: ds, u, w, hh => by
  unfold Leaves at hh ⊢
  obtain ⟨hu, fv, cap, f, args, h1, h2, h3⟩ := hh
  refine ⟨hu, fv, cap, f, args, h1, h2, h3.mono fun e u' w' he => ?_⟩
  cases e with
  | returned _ => exact leaves_of_results h ds _ _ he
  | panicked _ => exact leaves_of_results h ds _ _ he
  | outgrown => exact he
theorem pq_put {R : Ending → World → Prop} {k : Nat} {v : Value} {a : Act} {w : World} {c : List PanicEntry} (hk : 5 ≤ k) (h : bodyPostD Tryz.prog Tryz.f26 R (.panic c) (a.put (some k) v) w) : bodyPostD Tryz.prog Tryz.f26 R (.panic c) a w := by
 have g : ∀ i, i < 5 → (a.put (some k) v).tmps[i]?.getD undef = a.tmps[i]?.getD undef := fun i hi => by
  simp only [Act.put, Array.getElem?_setIfInBounds]
  rw [if_neg (by omega)]
 refine leaves_of_results (t := (a.put (some k) v).tmps) ?_ _ _ _ h
 have r : Tryz.f26.results = #[.cell 2 28, .cell 3 3, .cell 4 37] := rfl
 unfold results
 rw [r]
 simp [g 2 (by omega), g 3 (by omega), g 4 (by omega)]
structure Bx3 (W : World) (V : Nat) (u0 u1 u2 u3 u4 u5 u6 u7 : Value) : Prop where
 nd : Blk W V 28 #[u0, u1, u2, u3, u4, u5]
 at_ : Blk W (V + 1) 3 #[u6]
 er : Blk W (V + 1 + 1) 37 #[u7]
section
variable {W W' : World} {V R : Nat} {u0 u1 u2 u3 u4 u5 u6 u7 : Value}
theorem Bx3.ext (h : Bx3 W V u0 u1 u2 u3 u4 u5 u6 u7) (e : Ext W W') : Bx3 W' V u0 u1 u2 u3 u4 u5 u6 u7 := ⟨h.nd.ext e, h.at_.ext e, h.er.ext e⟩
theorem Bx3.only (h : Bx3 W V u0 u1 u2 u3 u4 u5 u6 u7) (e : Only R W W') (hR : V + 1 + 1 < R) : Bx3 W' V u0 u1 u2 u3 u4 u5 u6 u7 :=
 ⟨(e.block V h.nd.lt (fun a => by have := Option.some.inj a; omega)).trans h.nd, (e.block _ h.at_.lt (fun a => by have := Option.some.inj a; omega)).trans h.at_, (e.block _ h.er.lt (fun a => by have := Option.some.inj a; omega)).trans h.er⟩
theorem Bx3.setA (h : Bx3 W V u0 u1 u2 u3 u4 u5 u6 u7) (x : Value) : Bx3 (W.setCell ⟨V + 1, 0, none⟩ x) V u0 u1 u2 u3 u4 u5 x u7 :=
 ⟨h.nd.far (p := ⟨V + 1, 0, none⟩) (by show ¬ V = V + 1; omega) _, by simpa using h.at_.set_ 0 x, h.er.far (p := ⟨V + 1, 0, none⟩) (by show ¬ V + 1 + 1 = V + 1; omega) _⟩
theorem Bx3.setE (h : Bx3 W V u0 u1 u2 u3 u4 u5 u6 u7) (x : Value) : Bx3 (W.setCell ⟨V + 1 + 1, 0, none⟩ x) V u0 u1 u2 u3 u4 u5 u6 x :=
 ⟨h.nd.far (p := ⟨V + 1 + 1, 0, none⟩) (by show ¬ V = V + 1 + 1; omega) _, h.at_.far (p := ⟨V + 1 + 1, 0, none⟩) (by show ¬ V + 1 = V + 1 + 1; omega) _, by simpa using h.er.set_ 0 x⟩
theorem Bx3.put (h : Bx3 W V u0 u1 u2 u3 u4 u5 u6 u7) (v0 v1 v2 v3 v4 v5 : Value) : Bx3 (put6 W V v0 v1 v2 v3 v4 v5) V v0 v1 v2 v3 v4 v5 u6 u7 :=
 ⟨h.nd.put6 _ _ _ _ _ _, (put6_far W V _ _ _ _ _ _ _ (by omega)).trans h.at_, (put6_far W V _ _ _ _ _ _ _ (by omega)).trans h.er⟩
theorem Bx3.cells (h : Bx3 W V u0 u1 u2 u3 u4 u5 u6 u7) : W.cell? ⟨V, 0, none⟩ = some u0 ∧ W.cell? ⟨V, 1, none⟩ = some u1 ∧ W.cell? ⟨V, 2, none⟩ = some u2 ∧ W.cell? ⟨V, 3, none⟩ = some u3 ∧ W.cell? ⟨V, 4, none⟩ = some u4 ∧ W.cell? ⟨V, 5, none⟩ = some u5 ∧ W.cell? ⟨V + 1, 0, none⟩ = some u6 ∧ W.cell? ⟨V + 1 + 1, 0, none⟩ = some u7 := by
 have a0 := h.nd.cell 0
 have a1 := h.nd.cell 1
 have a2 := h.nd.cell 2
 have a3 := h.nd.cell 3
 have a4 := h.nd.cell 4
 have a5 := h.nd.cell 5
 have a6 := h.at_.cell 0
 have a7 := h.er.cell 0
 simp only [List.getElem?_toArray, List.getElem?_cons_zero, List.getElem?_cons_succ] at a0 a1 a2 a3 a4 a5 a6 a7
 exact ⟨a0, a1, a2, a3, a4, a5, a6, a7⟩
theorem Bx3.fz (h : Bx3 W V u0 u1 u2 u3 u4 u5 u6 u7) : W.frozen? ⟨V, 0, none⟩ = false ∧ W.frozen? ⟨V, 1, none⟩ = false ∧ W.frozen? ⟨V, 2, none⟩ = false ∧ W.frozen? ⟨V, 3, none⟩ = false ∧ W.frozen? ⟨V, 4, none⟩ = false ∧ W.frozen? ⟨V, 5, none⟩ = false ∧ W.frozen? ⟨V + 1, 0, none⟩ = false ∧ W.frozen? ⟨V + 1 + 1, 0, none⟩ = false :=
 ⟨h.nd.frozen 0, h.nd.frozen 1, h.nd.frozen 2, h.nd.frozen 3, h.nd.frozen 4, h.nd.frozen 5, h.at_.frozen 0, h.er.frozen 0⟩
theorem Bx3.lts (h : Bx3 W V u0 u1 u2 u3 u4 u5 u6 u7) : V < W.heap.size ∧ V + 1 < W.heap.size ∧ V + 1 + 1 < W.heap.size := ⟨h.nd.lt, h.at_.lt, h.er.lt⟩
end
theorem ext_setV {B W : World} (h : Ext B W) {b : Nat} (hb : B.heap.size ≤ b) (o : Nat) (x : Value) : Ext B (W.setCell ⟨b, o, none⟩ x) := h.setCell hb x
theorem ext_put6 {B W : World} (h : Ext B W) {b : Nat} (hb : B.heap.size ≤ b) (v0 v1 v2 v3 v4 v5 : Value) : Ext B (put6 W b v0 v1 v2 v3 v4 v5) := ext_setV (ext_setV (ext_setV (ext_setV (ext_setV (ext_setV h hb _ _) hb _ _) hb _ _) hb _ _) hb _ _) hb _ _
theorem parse_any (w : World) (s : ByteArray) (hL : Laid w) : Calls Tryz.prog 26 #[.string s] w (ParseE w s.data.toList) := by
 have hmf : ∀ (fn : Fn) (first cap : Array Value) (w : World), (Instr.makeFunc fn first cap).run Tryz.prog w = .ok (.func fn first cap) w := fun _ _ _ _ => rfl
 have HE := Lib.hid ((((Ext.refl w).alloc (.cells #[.int .i64 0, .string ⟨#[]⟩, .string ⟨#[]⟩, .int .i64 0, .slice none 0 0, .slice none 0 0] 28)).alloc (.cells #[.int .i64 0] 3)).alloc (.cells #[.int .i64 0] 37))
 have B0 : Hid (Blk (((w.alloc (.cells #[.int .i64 0, .string ⟨#[]⟩, .string ⟨#[]⟩, .int .i64 0, .slice none 0 0, .slice none 0 0] 28)).alloc (.cells #[.int .i64 0] 3)).alloc (.cells #[.int .i64 0] 37)) w.heap.size 28 #[.int .i64 0, .string ⟨#[]⟩, .string ⟨#[]⟩, .int .i64 0, .slice none 0 0, .slice none 0 0]) := Lib.hid (((Blk.new w _ _).alloc _).alloc _)
 have B1 : Hid (Blk (((w.alloc (.cells #[.int .i64 0, .string ⟨#[]⟩, .string ⟨#[]⟩, .int .i64 0, .slice none 0 0, .slice none 0 0] 28)).alloc (.cells #[.int .i64 0] 3)).alloc (.cells #[.int .i64 0] 37)) (w.heap.size + 1) 3 #[.int .i64 0]) := Lib.hid (by
  have := Blk.new (w.alloc (.cells #[.int .i64 0, .string ⟨#[]⟩, .string ⟨#[]⟩, .int .i64 0, .slice none 0 0, .slice none 0 0] 28)) 3 #[.int .i64 0]
  rw [size_alloc] at this
  exact this.alloc _)
 have B2 : Hid (Blk (((w.alloc (.cells #[.int .i64 0, .string ⟨#[]⟩, .string ⟨#[]⟩, .int .i64 0, .slice none 0 0, .slice none 0 0] 28)).alloc (.cells #[.int .i64 0] 3)).alloc (.cells #[.int .i64 0] 37)) (w.heap.size + 1 + 1) 37 #[.int .i64 0]) := Lib.hid (by
  have := Blk.new ((w.alloc (.cells #[.int .i64 0, .string ⟨#[]⟩, .string ⟨#[]⟩, .int .i64 0, .slice none 0 0, .slice none 0 0] 28)).alloc (.cells #[.int .i64 0] 3)) 37 #[.int .i64 0]
  rwa [size_alloc, size_alloc] at this)
 have HL := Lib.hid hL
 clear hL
 go_enter_defers Tryz.func26, Tryz.ntmps26
 go_wp2_with fail
 generalize ((w.alloc (.cells #[.int .i64 0, .string ⟨#[]⟩, .string ⟨#[]⟩, .int .i64 0, .slice none 0 0, .slice none 0 0] 28)).alloc (.cells #[.int .i64 0] 3)).alloc (.cells #[.int .i64 0] 37) = W at *
 refine (lexq_any W s (HL.out.ext HE.out)).mono ?_
 rintro e W4 ⟨E4, hm⟩
 have hsl : s.data.toList.length = s.size := rfl
 obtain ⟨l, hl⟩ : ∃ l, s.data.toList = l := ⟨_, rfl⟩
 rw [hl] at hm hsl ⊢
 have X4 : Bx3 W4 w.heap.size (.int .i64 0) (.string ⟨#[]⟩) (.string ⟨#[]⟩) (.int .i64 0) (.slice none 0 0) (.slice none 0 0) (.int .i64 0) (.int .i64 0) := ⟨B0.out.ext E4, B1.out.ext E4, B2.out.ext E4⟩
 have E0 := Lib.hid (HE.out.trans E4)
 obtain ⟨V, hV⟩ : ∃ V, w.heap.size = V := ⟨_, rfl⟩
 have HV := Lib.hid hV
 rw [hV] at X4 ⊢
 have hWV : V + 1 + 1 < W.heap.size := by have := B2.out.lt; rw [hV] at this; exact this
 have hW4 := E4.le
 have HLL := Lib.hid hl
 clear hV B0 B1 B2 HE hl E4
 obtain ⟨l0, l1, l2⟩ := X4.lts
 have HX := Lib.hid X4
 clear X4
 cases hq : lexQ l with
 | error y =>
  rw [hq] at hm
  obtain ⟨y1, y2⟩ := y
  obtain ⟨hp, hy⟩ := lexQ_bad hq
  dsimp only at hm hy
  subst hm
  have d1 : decide (y2 = 0) = false := decide_eq_false hy
  obtain ⟨a0, a1, a2, a3, a4, a5, a6, a7⟩ := HX.out.cells
  obtain ⟨f0, f1, f2, f3, f4, f5, f6, f7⟩ := HX.out.fz
  go_wp2_with fail
  go_region
  all_goals go_wp2_with fail
  have X := ((((HX.out.setA (.int .i64 y1)).setE (.int .i64 y2)).put (.int .i64 0) (.string ⟨#[]⟩) (.string ⟨#[]⟩) (.int .i64 0) (.slice none 0 0) (.slice none 0 0)).setA (.int .i64 y1)).setE (.int .i64 y2)
  have X' := X.ext (Ext.refl _).drew
  have hV := HV.out
  refine pface_ret _ V _ _ _ _ _ _ _ _ X'.nd X'.at_ X'.er _ ?_ _ _ _ _ _ _ _ _ _ _ _ _ _ _ _ _ _ _ _ _ _ _ _ _ _ _ _ _ _ _ _ _ _ _ _ _ _ _ _ _
  rw [HLL.out]
  refine ⟨?_, ?_⟩
  ·exact (ext_setV (ext_setV (ext_put6 (ext_setV (ext_setV E0.out (by omega) _ _) (by omega) _ _) (by omega) _ _ _ _ _ _) (by omega) _ _) (by omega) _ _).drew
  ·rw [hp]
 | ok ws =>
  rw [hq] at hm
  obtain ⟨q, c, rfl, ho⟩ := hm
  obtain ⟨hl64, hls, hp⟩ := lexQ_ok hq
  have HP := Lib.hid hp
  have HLS := Lib.hid hls
  have hwl := lexS_len hls
  have HQ : Hid (0 < ws.length → ∃ g, q = some ⟨g, 0, none⟩ ∧ V + 1 + 1 < g) := Lib.hid (fun h0 => by
   obtain ⟨q', c', e, hc⟩ := ho.cells
   obtain ⟨g, rfl, hB, _⟩ := hc h0
   injection e with e1 e2 e3
   exact ⟨g, e1, by omega⟩)
  have R5 := Lib.hid (rd_start (W5 := (W4.setCell ⟨V + 1, 0, none⟩ (.int .i64 0)).setCell ⟨V + 1 + 1, 0, none⟩ (.int .i64 0)) ho (fun b hb => (Below.heap_setCell _ _ _ b (by show b ≠ V + 1 + 1; omega)).trans (Below.heap_setCell _ _ _ b (by show b ≠ V + 1; omega))) (by simp [World.setCell]) (s.size : Int) (by omega))
  have X5 := Lib.hid ((HX.out.setA (.int .i64 0)).setE (.int .i64 0))
  have hV := HV.out
  have E5 := Lib.hid (ext_setV (ext_setV E0.out (b := V + 1) (by omega) 0 (.int .i64 0)) (b := V + 1 + 1) (by omega) 0 (.int .i64 0))
  obtain ⟨a0, a1, a2, a3, a4, a5, a6, a7⟩ := HX.out.cells
  obtain ⟨f0, f1, f2, f3, f4, f5, f6, f7⟩ := HX.out.fz
  clear ho hp hls hq
  go_wp2_with fail
  have hs5 : ((W4.setCell ⟨V + 1, 0, none⟩ (.int .i64 0)).setCell ⟨V + 1 + 1, 0, none⟩ (.int .i64 0)).heap.size = W4.heap.size := by simp [World.setCell]
  rw [hs5] at R5
  have hz5 : V + 1 + 1 < ((W4.setCell ⟨V + 1, 0, none⟩ (.int .i64 0)).setCell ⟨V + 1 + 1, 0, none⟩ (.int .i64 0)).heap.size := X5.out.lts.2.2
  clear a0 a1 a2 a3 a4 a5 a6 a7 f0 f1 f2 f3 f4 f5 f6 f7 HX E0 l0 l1 l2
  generalize (W4.setCell ⟨V + 1, 0, none⟩ (.int .i64 0)).setCell ⟨V + 1 + 1, 0, none⟩ (.int .i64 0) = W5 at *
  have X6 := Lib.hid (X5.out.ext ((Ext.refl W5).alloc (.cells #[.slice q ws.length c, .int .i64 0, .int .i64 (s.size : Int), .int .i64 0] 88)))
  have E6 := Lib.hid (E5.out.alloc (.cells #[.slice q ws.length c, .int .i64 0, .int .i64 (s.size : Int), .int .i64 0] 88))
  clear X5 E5
  rw [hs5] at hz5
  clear hs5
  generalize W5.alloc (.cells #[.slice q ws.length c, .int .i64 0, .int .i64 (s.size : Int), .int .i64 0] 88) = W6 at *
  obtain ⟨r, hr⟩ : ∃ r, W4.heap.size = r := ⟨_, rfl⟩
  rw [hr] at R5 hz5 hW4 ⊢
  clear hr
  have hrl := R5.out.lt
  rw [← hsl] at R5 ⊢
  refine (block_any (con_all (10 * ws.length + 10)) W6 r q c ⟨ws, (l.length : Int)⟩ ⟨0, 0⟩ R5.out (by simp only; omega)).mono ?_
  intro e W7 hE
  have htr : treeR ⟨ws, (l.length : Nat)⟩ = match blockR ⟨ws, (l.length : Int)⟩ (pz ⟨ws, (l.length : Int)⟩ (10 * ws.length + 10)).st ⟨0, 0⟩ with
   | .error e => .error e
   | .ok (n, s') => if s'.p = ws.length then .ok n else .error (atW ⟨ws, (l.length : Int)⟩ s'.p, 220) := rfl
  cases hx : blockR ⟨ws, (l.length : Int)⟩ (pz ⟨ws, (l.length : Int)⟩ (10 * ws.length + 10)).st ⟨0, 0⟩ with
  | error y =>
   obtain ⟨rfl, o7⟩ := hE.no hx
   have hp2 : parseR l = .error y := by rw [HP.out, htr, hx]
   have X7 := X6.out.only o7 (by omega)
   clear hE
   go_wp2_with fail
   refine pface_door W7 V y _ _ _ _ _ _ _ _ X7.nd X7.at_ X7.er _ ?_ _ _ _ _ _ _ _ _ _ _ _ _ _ _ _ _ _ _ _ _ _ _ _ _ _ _ _ _ _ _ _ _ _ _ _ _ _ _ _ _
   rw [HLL.out]
   refine ⟨pclose_ext (o7.to_ext E6.out (by omega)) V (by omega) y, ?_⟩
   rw [hp2]
  | ok y =>
   obtain ⟨x, s'⟩ := y
   obtain ⟨v, rfl, hv, r7, o7⟩ := hE.yes hx
   obtain ⟨qn, cn, ql, cl, rfl⟩ := EncN.open hv
   have htr2 : treeR ⟨ws, (l.length : Nat)⟩ = if s'.p = ws.length then .ok x else .error (atW ⟨ws, (l.length : Int)⟩ s'.p, 220) := by rw [htr, hx]
   have HTR := Lib.hid htr2
   have X7 := X6.out.only o7 (by omega)
   have E7 := o7.to_ext E6.out (by omega)
   obtain ⟨nl, hnl⟩ : ∃ n, x.names.length = n := ⟨_, rfl⟩
   obtain ⟨kl, hkl⟩ : ∃ n, x.kids.length = n := ⟨_, rfl⟩
   rw [hnl, hkl] at hv ⊢
   have X8 := Lib.hid (X7.put (.int .i64 x.k) (.string x.name) (.string x.text) (.int .i64 x.n) (.slice qn nl cn) (.slice ql kl cl))
   have E8 := Lib.hid (ext_put6 E7 (b := V) (by omega) (.int .i64 x.k) (.string x.name) (.string x.text) (.int .i64 x.n) (.slice qn nl cn) (.slice ql kl cl))
   have R8 := Lib.hid (r7.far (w' := put6 W7 V (.int .i64 x.k) (.string x.name) (.string x.text) (.int .i64 x.n) (.slice qn nl cn) (.slice ql kl cl)) (V := V) (by omega) HQ.out (fun b hb => put6_far W7 V _ _ _ _ _ _ b hb))
   obtain ⟨d, hv⟩ := hv
   have hV6 : V < W6.heap.size := by omega
   have hw6 : V + 3 ≤ W6.heap.size := by omega
   have N8 := Lib.hid (hv.past hV6 hw6 (fun b hb => put6_far W7 V (.int .i64 x.k) (.string x.name) (.string x.text) (.int .i64 x.n) (.slice qn nl cn) (.slice ql kl cl) b hb))
   obtain ⟨a0, a1, a2, a3, a4, a5, a6, a7⟩ := X7.cells
   obtain ⟨f0, f1, f2, f3, f4, f5, f6, f7⟩ := X7.fz
   obtain ⟨l0, l1, l2⟩ := X7.lts
   clear hE X6 E6 R5 o7 r7 hx hv X7 E7 htr htr2 HQ
   go_upto_region 7 with fail
   clear a0 a1 a2 a3 a4 a5 a6 a7 f0 f1 f2 f3 f4 f5 f6 f7 l0 l1 l2
   change Code.wp _ _ _ _ (put6 W7 V (.int .i64 x.k) (.string x.name) (.string x.text) (.int .i64 x.n) (.slice qn nl cn) (.slice ql kl cl))
   generalize put6 W7 V (.int .i64 x.k) (.string x.name) (.string x.text) (.int .i64 x.n) (.slice qn nl cn) (.slice ql kl cl) = W8 at *
   have c0 : W8.cell? ⟨r, 0, none⟩ = some (.slice q ws.length c) := by have := R8.out.blk.cell 0; simpa using this
   have c1 : W8.cell? ⟨r, 1, none⟩ = some (.int .i64 (s'.p : Int)) := by have := R8.out.blk.cell 1; simpa using this
   by_cases hend : s'.p = ws.length
   ·have hx2 : treeR ⟨ws, (l.length : Nat)⟩ = .ok x := by rw [HTR.out, if_pos hend]
    have SZ := Lib.hid (tree_sz hl64 HLS.out hx2).1
    have hp3 : parseR l = if checkN x = true then .ok x else .error (0, 221) := by rw [HP.out, hx2]
    have HP3 := Lib.hid hp3
    have d1 : ((s'.p : Int) == (ws.length : Int)) = true := by rw [hend]; simp
    have d2 : decide ((s'.p : Int) = (ws.length : Int)) = true := by rw [hend]; simp
    have d3 : decide (s'.p = ws.length) = true := by rw [hend]; simp
    clear hend hp3 hx2 HTR
    refine wp_region_held_drew (S := fun w' => w'.cell? ⟨r, 0, none⟩ = some (.slice q ws.length c) ∧ w'.cell? ⟨r, 1, none⟩ = some (.int .i64 (s'.p : Int))) (by kernel_rfl) (⟨c0, c1⟩) (fun hHeld => ?_)
    refine wpAnyH_take (i := 0) (v := ?_) rfl (by kernel_rfl) (by kernel_rfl) (by kernel_rfl) (fun _ _ _ h => pq_put (by decide) h) (Or.inl ⟨by rfl, (by intro w hSw; (try dsimp only at hSw); go_simp; first | done | with_reducible rfl)⟩) (by assumption) ?_
    try simp only [Act.put, pzz]
    refine wpAnyH_take (i := 1) (v := ?_) rfl (by kernel_rfl) (by kernel_rfl) (by kernel_rfl) (fun _ _ _ h => pq_put (by decide) h) (Or.inl ⟨by rfl, (by intro w hSw; (try dsimp only at hSw); go_simp; first | done | with_reducible rfl)⟩) (by assumption) ?_
    try simp only [Act.put, pzz]
    refine wpAnyH_take (i := 2) (v := ?_) rfl (by kernel_rfl) (by kernel_rfl) (by kernel_rfl) (fun _ _ _ h => pq_put (by decide) h) (Or.inl ⟨by rfl, (by intro w hSw; (try dsimp only at hSw); go_simp; first | done | with_reducible rfl)⟩) (by assumption) ?_
    try simp only [Act.put, pzz]
    refine wpAnyH_take (i := 3) (v := ?_) rfl (by kernel_rfl) (by kernel_rfl) (by kernel_rfl) (fun _ _ _ h => pq_put (by decide) h) (Or.inl ⟨by rfl, (by intro w hSw; (try dsimp only at hSw); go_simp; first | done | with_reducible rfl)⟩) (by assumption) ?_
    try simp only [Act.put, pzz]
    refine wpAnyH_take (i := 4) (v := ?_) rfl (by kernel_rfl) (by kernel_rfl) (by kernel_rfl) (fun _ _ _ h => pq_put (by decide) h) (Or.inl ⟨by rfl, (by intro w hSw; (try dsimp only at hSw); go_simp; first | done | with_reducible rfl)⟩) (by assumption) ?_
    try simp only [Act.put, pzz]
    refine wpAnyH_take (i := 5) (v := ?_) rfl (by kernel_rfl) (by kernel_rfl) (by kernel_rfl) (fun _ _ _ h => pq_put (by decide) h) (Or.inl ⟨by rfl, (by intro w hSw; (try dsimp only at hSw); go_simp; first | done | with_reducible rfl)⟩) (by assumption) ?_
    try simp only [Act.put, pzz]
    refine wpAnyH_take (i := 6) (v := ?_) rfl (by kernel_rfl) (by kernel_rfl) (by kernel_rfl) (fun _ _ _ h => pq_put (by decide) h) (Or.inl ⟨by rfl, (by intro w hSw; (try dsimp only at hSw); go_simp; first | done | with_reducible rfl)⟩) (by assumption) ?_
    try simp only [Act.put, pzz]
    refine wpAnyH_take (i := 7) (v := ?_) rfl (by kernel_rfl) (by kernel_rfl) (by kernel_rfl) (fun _ _ _ h => pq_put (by decide) h) (Or.inl ⟨by rfl, (by intro w hSw; (try dsimp only at hSw); go_simp; first | done | with_reducible rfl)⟩) (by assumption) ?_
    try simp only [Act.put, pzz]
    refine wpAnyH_take (i := 8) (v := ?_) rfl (by kernel_rfl) (by kernel_rfl) (by kernel_rfl) (fun _ _ _ h => pq_put (by decide) h) (Or.inl ⟨by rfl, (by intro w hSw; (try dsimp only at hSw); go_simp; first | done | with_reducible rfl)⟩) (by assumption) ?_
    try simp only [Act.put, pzz]
    refine wpAnyH_take (i := 9) (v := ?_) rfl (by kernel_rfl) (by kernel_rfl) (by kernel_rfl) (fun _ _ _ h => pq_put (by decide) h) (Or.inl ⟨by rfl, (by intro w hSw; (try dsimp only at hSw); go_simp; first | done | with_reducible rfl)⟩) (by assumption) ?_
    try simp only [Act.put, pzz]
    refine wpAnyH_take (i := 10) (v := ?_) rfl (by kernel_rfl) (by kernel_rfl) (by kernel_rfl) (fun _ _ _ h => pq_put (by decide) h) (Or.inl ⟨by rfl, (by intro w hSw; (try dsimp only at hSw); go_simp; first | done | with_reducible rfl)⟩) (by assumption) ?_
    try simp only [Act.put, pzz]
    refine wpAnyH_ready (rs := [11]) (by kernel_rfl) (by simp) ?_
    refine AllReadyH.cons rfl (fun K hK => ?_) AllReadyH.nil
    go_simp
    refine (must_yes _ r).mono ?_
    rintro e w1 ⟨rfl, rfl⟩
    clear hHeld
    refine hK.out _ _ (⟨c0, c1⟩) (fun hHeld => ?_)
    clear hK K
    try simp only [Act.put, pzz]
    refine wpAnyH_done (by kernel_rfl) ?_ _
    obtain ⟨a0, a1, a2, a3, a4, a5, a6, a7⟩ := X8.out.cells
    go_wp2_with fail
    refine (check_any d W8.drew (HL.out.ext E8.out.drew) _ _ x SZ.out (N8.out.ext (Ext.refl W8).drew)).mono ?_
    rintro e W9 ⟨rfl, E9⟩
    have X9 := Lib.hid ((X8.out.ext (Ext.refl W8).drew).ext E9)
    have E9' := Lib.hid (E8.out.drew.trans E9)
    have N9 := Lib.hid ((N8.out.ext (Ext.refl W8).drew).ext E9)
    clear a0 a1 a2 a3 a4 a5 a6 a7 c0 c1 d1 d2 d3 E9
    by_cases hc : checkN x = true
    ·skip
     rw [if_pos hc]
     obtain ⟨a0, a1, a2, a3, a4, a5, a6, a7⟩ := X9.out.cells
     obtain ⟨f0, f1, f2, f3, f4, f5, f6, f7⟩ := X9.out.fz
     obtain ⟨l0, l1, l2⟩ := X9.out.lts
     go_wp2_with fail
     have X := ((X9.out.put (.int .i64 x.k) (.string x.name) (.string x.text) (.int .i64 x.n) (.slice qn nl cn) (.slice ql kl cl)).setA (.int .i64 0)).setE (.int .i64 0)
     have E := ext_setV (ext_setV (ext_put6 E9'.out (b := V) (by omega) (.int .i64 x.k) (.string x.name) (.string x.text) (.int .i64 x.n) (.slice qn nl cn) (.slice ql kl cl)) (b := V + 1) (by omega) 0 (.int .i64 0)) (b := V + 1 + 1) (by omega) 0 (.int .i64 0)
     refine pface_done _ V _ _ _ _ _ _ _ _ X.nd X.at_ X.er _ ?_ _ _ _ _ _ _ _ _ _ _ _ _ _ _ _ _ _ _ _ _ _ _ _ _ _ _ _ _ _ _ _ _ _ _ _ _ _ _ _ _
     rw [HLL.out]
     refine ⟨E, ?_⟩
     rw [HP3.out]
     rw [if_pos hc]
     exact ⟨_, d, rfl, NodeAt.fin N9.out (by omega) _ _ _ _ _ _ _ _⟩
    ·skip
     rw [if_neg hc]
     obtain ⟨a0, a1, a2, a3, a4, a5, a6, a7⟩ := X9.out.cells
     obtain ⟨f0, f1, f2, f3, f4, f5, f6, f7⟩ := X9.out.fz
     obtain ⟨l0, l1, l2⟩ := X9.out.lts
     go_wp2_with fail
     have X := ((X9.out.put (.int .i64 0) (.string ⟨#[]⟩) (.string ⟨#[]⟩) (.int .i64 0) (.slice none 0 0) (.slice none 0 0)).setA (.int .i64 0)).setE (.int .i64 221)
     have E := ext_setV (ext_setV (ext_put6 E9'.out (b := V) (by omega) (.int .i64 0) (.string ⟨#[]⟩) (.string ⟨#[]⟩) (.int .i64 0) (.slice none 0 0) (.slice none 0 0)) (b := V + 1) (by omega) 0 (.int .i64 0)) (b := V + 1 + 1) (by omega) 0 (.int .i64 221)
     refine pface_done _ V _ _ _ _ _ _ _ _ X.nd X.at_ X.er _ ?_ _ _ _ _ _ _ _ _ _ _ _ _ _ _ _ _ _ _ _ _ _ _ _ _ _ _ _ _ _ _ _ _ _ _ _ _ _ _ _ _
     rw [HLL.out]
     refine ⟨E, ?_⟩
     rw [HP3.out]
     rw [if_neg hc]
   ·have hx2 : treeR ⟨ws, (l.length : Nat)⟩ = .error (atW ⟨ws, (l.length : Int)⟩ s'.p, 220) := by rw [HTR.out, if_neg hend]
    have HP3 := Lib.hid (show parseR l = .error (atW ⟨ws, (l.length : Int)⟩ s'.p, 220) by rw [HP.out, hx2])
    have d1 : ((s'.p : Int) == (ws.length : Int)) = false := by simp; omega
    have d2 : decide ((s'.p : Int) = (ws.length : Int)) = false := decide_eq_false (by omega)
    have d3 : decide (s'.p = ws.length) = false := decide_eq_false hend
    clear hx2 HTR
    refine wp_region_held_drew (S := fun w' => w'.cell? ⟨r, 0, none⟩ = some (.slice q ws.length c) ∧ w'.cell? ⟨r, 1, none⟩ = some (.int .i64 (s'.p : Int))) (by kernel_rfl) (⟨c0, c1⟩) (fun hHeld => ?_)
    refine wpAnyH_take (i := 0) (v := ?_) rfl (by kernel_rfl) (by kernel_rfl) (by kernel_rfl) (fun _ _ _ h => pq_put (by decide) h) (Or.inl ⟨by rfl, (by intro w hSw; (try dsimp only at hSw); go_simp; first | done | with_reducible rfl)⟩) (by assumption) ?_
    try simp only [Act.put, pzz]
    refine wpAnyH_take (i := 1) (v := ?_) rfl (by kernel_rfl) (by kernel_rfl) (by kernel_rfl) (fun _ _ _ h => pq_put (by decide) h) (Or.inl ⟨by rfl, (by intro w hSw; (try dsimp only at hSw); go_simp; first | done | with_reducible rfl)⟩) (by assumption) ?_
    try simp only [Act.put, pzz]
    refine wpAnyH_take (i := 2) (v := ?_) rfl (by kernel_rfl) (by kernel_rfl) (by kernel_rfl) (fun _ _ _ h => pq_put (by decide) h) (Or.inl ⟨by rfl, (by intro w hSw; (try dsimp only at hSw); go_simp; first | done | with_reducible rfl)⟩) (by assumption) ?_
    try simp only [Act.put, pzz]
    refine wpAnyH_take (i := 3) (v := ?_) rfl (by kernel_rfl) (by kernel_rfl) (by kernel_rfl) (fun _ _ _ h => pq_put (by decide) h) (Or.inl ⟨by rfl, (by intro w hSw; (try dsimp only at hSw); go_simp; first | done | with_reducible rfl)⟩) (by assumption) ?_
    try simp only [Act.put, pzz]
    refine wpAnyH_take (i := 4) (v := ?_) rfl (by kernel_rfl) (by kernel_rfl) (by kernel_rfl) (fun _ _ _ h => pq_put (by decide) h) (Or.inl ⟨by rfl, (by intro w hSw; (try dsimp only at hSw); go_simp; first | done | with_reducible rfl)⟩) (by assumption) ?_
    try simp only [Act.put, pzz]
    refine wpAnyH_take (i := 5) (v := ?_) rfl (by kernel_rfl) (by kernel_rfl) (by kernel_rfl) (fun _ _ _ h => pq_put (by decide) h) (Or.inl ⟨by rfl, (by intro w hSw; (try dsimp only at hSw); go_simp; first | done | with_reducible rfl)⟩) (by assumption) ?_
    try simp only [Act.put, pzz]
    refine wpAnyH_take (i := 6) (v := ?_) rfl (by kernel_rfl) (by kernel_rfl) (by kernel_rfl) (fun _ _ _ h => pq_put (by decide) h) (Or.inl ⟨by rfl, (by intro w hSw; (try dsimp only at hSw); go_simp; first | done | with_reducible rfl)⟩) (by assumption) ?_
    try simp only [Act.put, pzz]
    refine wpAnyH_take (i := 7) (v := ?_) rfl (by kernel_rfl) (by kernel_rfl) (by kernel_rfl) (fun _ _ _ h => pq_put (by decide) h) (Or.inl ⟨by rfl, (by intro w hSw; (try dsimp only at hSw); go_simp; first | done | with_reducible rfl)⟩) (by assumption) ?_
    try simp only [Act.put, pzz]
    refine wpAnyH_take (i := 8) (v := ?_) rfl (by kernel_rfl) (by kernel_rfl) (by kernel_rfl) (fun _ _ _ h => pq_put (by decide) h) (Or.inl ⟨by rfl, (by intro w hSw; (try dsimp only at hSw); go_simp; first | done | with_reducible rfl)⟩) (by assumption) ?_
    try simp only [Act.put, pzz]
    refine wpAnyH_take (i := 9) (v := ?_) rfl (by kernel_rfl) (by kernel_rfl) (by kernel_rfl) (fun _ _ _ h => pq_put (by decide) h) (Or.inl ⟨by rfl, (by intro w hSw; (try dsimp only at hSw); go_simp; first | done | with_reducible rfl)⟩) (by assumption) ?_
    try simp only [Act.put, pzz]
    refine wpAnyH_take (i := 10) (v := ?_) rfl (by kernel_rfl) (by kernel_rfl) (by kernel_rfl) (fun _ _ _ h => pq_put (by decide) h) (Or.inl ⟨by rfl, (by intro w hSw; (try dsimp only at hSw); go_simp; first | done | with_reducible rfl)⟩) (by assumption) ?_
    try simp only [Act.put, pzz]
    refine wpAnyH_ready (rs := [11]) (by kernel_rfl) (by simp) ?_
    refine AllReadyH.cons rfl (fun K hK => ?_) AllReadyH.nil
    go_simp
    refine (must_no _ r q c ⟨ws, (l.length : Int)⟩ s' (R8.out.ext (Ext.refl _).drew)).mono ?_
    rintro e w1 ⟨rfl, e1⟩
    have X := (X8.out.ext (Ext.refl W8).drew).ext e1
    refine pface_door w1 V (atW ⟨ws, (l.length : Int)⟩ s'.p, 220) _ _ _ _ _ _ _ _ X.nd X.at_ X.er _ ?_ _ _ _ _ _ _ _ _ _ _ _ _ _ _ _ _ _ _ _ _ _ _ _ _ _ _ _ _ _ _ _ _ _ _ _ _ _ _ _ _
    rw [HLL.out]
    refine ⟨pclose_ext (E8.out.drew.trans e1) V (by omega) _, ?_⟩
    rw [HP3.out]
end Go.Proofs.YtkbcnacjaakleaaGreatDoor
namespace Go.Proofs.YtkbcnacjaakleaaGreatDoor
open Go.RowKit

theorem known12_any (w : World) (hL : Laid w) : Calls Tryz.prog 16 #[] w fun e w' => e = .returned (.bool true) ∧ Ext w w' := by
 have HP := Lib.hid (parse_any w ⟨#[114, 101, 116, 117, 114, 110, 32, 49]⟩ hL)
 go_enter Tryz.func16, Tryz.ntmps16
 go_wp2_with fail
 refine HP.out.mono ?_
 rintro e w1 ⟨he, hm⟩
 have hpk : parseR (⟨#[114, 101, 116, 117, 114, 110, 32, 49]⟩ : ByteArray).data.toList = .ok nd1 := parseK1
 rw [hpk] at hm
 obtain ⟨v, d, rfl, nv, lv, rfl, ht, hk⟩ := hm
 obtain ⟨qn0, cn0, rfl⟩ := ht.slice
 obtain ⟨q, c, rfl⟩ := hk.slice
 obtain ⟨b, o, rfl, _, c0, _, _, _, qn, cn, ql, cl, _, c5, _, hk2⟩ := KidsAt.elem (l := [ndK 7 [ndI 1]]) hk (j := 0) (by decide)
 obtain ⟨b2, o2, rfl, _, _, _, _, d3, _⟩ := KidsAt.elem (l := [ndI 1]) hk2 (j := 0) (by decide)
 have c0' : w1.cell? ⟨b, o, none⟩ = some (.int .i64 7) := by rw [Nat.zero_mul, Nat.add_zero] at c0; exact c0
 have c5' : w1.cell? ⟨b, o + 5, none⟩ = some (.slice (some ⟨b2, o2, none⟩) 1 cl) := by rw [Nat.zero_mul, Nat.add_zero] at c5; exact c5
 have d3' : w1.cell? ⟨b2, o2 + 3, none⟩ = some (.int .i64 1) := by rw [Nat.zero_mul, Nat.add_zero] at d3; exact d3
 have l1 := cell_lt c0'
 have l2 := cell_lt d3'
 simp only at l1 l2
 clear c0 c5 d3 hk hk2 hpk HP
 have E1 := Lib.hid he
 have hv : (ndV nd1 (.slice qn0 nd1.names.length cn0) (.slice (some ⟨b, o, none⟩) nd1.kids.length c)) = .agg #[.int .i64 0, .string ⟨#[]⟩, .string ⟨#[]⟩, .int .i64 0, .slice qn0 0 cn0, .slice (some ⟨b, o, none⟩) 1 c] := rfl
 rw [hv]
 clear he hv ht
 go_wp2_with fail
 go_ret
 exact ⟨rfl, by first | exact E1.out.alloc _ | (refine Ext.setCell ?_ (by have := E1.out.le; simp; omega) _; exact E1.out.alloc _)⟩
end Go.Proofs.YtkbcnacjaakleaaGreatDoor
namespace Go.Proofs.YtkbcnacjaakleaaGreatDoor
open Go.RowKit Go.Shelf
attribute [local go_sem] Oper.semAt_some

mutual
def preN : Nd → List Nd
 | .mk k a t n ns ks => .mk k a t n ns ks :: preL ks
def preL : List Nd → List Nd
 | [] => []
 | x :: l => preN x ++ preL l
end
end Go.Proofs.YtkbcnacjaakleaaGreatDoor
