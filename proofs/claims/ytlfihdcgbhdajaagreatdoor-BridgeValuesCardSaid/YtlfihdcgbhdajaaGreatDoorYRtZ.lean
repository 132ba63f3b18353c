/- Replies among the arguments of a law: opened. Bytes that stand behind, and where a beginning is cut off: opened. -/
import Derived.Test.YtlfihdcgbhdajaaGreatDoorYRtU
namespace Go.Proofs.YtlfihdcgbhdajaaGreatDoor
open Go.ChangeShapes Go.WideShapes Go.ChangeAt Go.RowKit Go.Joins Go.Deep
set_option linter.unusedVariables false
set_option linter.unusedSimpArgs false
variable {H : Type} {enc : TypeId × Value → H} {w : World} {base : Nat} {sp : Nat → Bool} {hd : Bool}

theorem slice_fuel {P : Program} {t e : TypeId} {fuel : Nat} {cs : List Value} {x : DataW H × List MemPlace} (ht : P.underlying t = some (.slice e)) (h : DataW.trod enc P w base sp hd fuel t cs = some x) :
  cs = [.slice none 0 0] ∨ ∃ (a : Addr) (len cap n : Nat), fuel = n + 1 ∧ cs = [.slice (some a) len cap] ∧ len ≤ cap ∧ cap ≤ maxLen ∧
   ∀ i, i < len → ∃ cs' y, w.cells? base (a.add (i * P.cellsOf e)) (P.cellsOf e) = some cs' ∧ DataW.trod enc P w base sp hd n e cs' = some y := by
 rcases DataW.trod_slice ht h with h0 | ⟨a, len, cap, elems, rest, n, hf, rfl, rfl, hb, hl, hm, hlen, hel, hsp, hns⟩
 ·exact .inl h0.1
 ·refine .inr ⟨a, len, cap, n, hf, rfl, hl, hm, fun i hi => ?_⟩
  have key := hel i hi
  rw [List.getElem?_eq_getElem (by omega)] at key
  obtain ⟨cs', h1, h2⟩ := Option.bind_eq_some_iff.1 key
  exact ⟨cs', _, h1, h2⟩
theorem struct4_fuel {P : Program} {t : TypeId} {f0 f1 f2 f3 : Field} {fuel : Nat} {cs : List Value} {x : DataW H × List MemPlace} (ht : P.underlying t = some (.struct #[f0, f1, f2, f3])) (h : DataW.trod enc P w base sp hd fuel t cs = some x) :
  ∃ y0 y1 y2 y3 n, fuel = n + 1 ∧ cs.length = P.cellsOf t ∧ DataW.trod enc P w base sp hd n f0.type ((cs.drop f0.offset).take (P.cellsOf f0.type)) = some y0 ∧
   DataW.trod enc P w base sp hd n f1.type ((cs.drop f1.offset).take (P.cellsOf f1.type)) = some y1 ∧ DataW.trod enc P w base sp hd n f2.type ((cs.drop f2.offset).take (P.cellsOf f2.type)) = some y2 ∧
   DataW.trod enc P w base sp hd n f3.type ((cs.drop f3.offset).take (P.cellsOf f3.type)) = some y3 := by
 obtain ⟨xs, n, hn, rfl, hl, hlen, hf⟩ := DataW.trod_struct ht h
 match xs, hlen with
 | [y0, y1, y2, y3], _ => exact ⟨y0, y1, y2, y3, n, hn, hl, by simpa using hf 0 f0 rfl, by simpa using hf 1 f1 rfl, by simpa using hf 2 f2 rfl, by simpa using hf 3 f3 rfl⟩
theorem i64L_of : ∀ (l : List Rep), (∀ x ∈ l, i64R x) → i64L l
 | [], _ => trivial
 | x :: l, h => ⟨h x (by simp), i64L_of l (fun y hy => h y (by simp [hy]))⟩
set_option maxRecDepth 100000 in
theorem reps_open : ∀ (n : Nat) (cv : Value) (y : DataW H × List MemPlace), DataW.trod enc Tryz.prog w 0 (fun _ => true) true n 23 [cv] = some y →
  ∃ l : List Rep, ListAt (fun b => b < w.heap.size) w n cv l ∧ i64L l ∧ l.length ≤ maxLen := by
 intro n
 induction n using Nat.strongRecOn with
 | _ n ih =>
  intro cv y h
  rcases slice_fuel Tryz.underlying23 h with e | ⟨a, len, cap, m, hn, e, hlc, hcm, hx⟩
  ·cases e
   exact ⟨[], nil_list _ _ _, trivial, by decide⟩
  ·cases e
   rw [cell_reply] at hx
   subst hn
   have hone : ∀ i, i < len → ∃ z : Rep, i64R z ∧ a = ⟨a.block, a.off, none⟩ ∧ w.cell? ⟨a.block, a.off + i * 4, none⟩ = some (.int .i64 z.k) ∧ w.cell? ⟨a.block, a.off + i * 4 + 1, none⟩ = some (.int .i64 z.n) ∧ w.cell? ⟨a.block, a.off + i * 4 + 2, none⟩ = some (.string z.s) ∧ ∃ lv, w.cell? ⟨a.block, a.off + i * 4 + 3, none⟩ = some lv ∧ ListAt (fun b => b < w.heap.size) w m lv z.l := by
    intro i hi
    obtain ⟨cs0, _, h00, _⟩ := hx 0 (by omega)
    have hpl := head_plain h00 (by omega)
    obtain ⟨cs, y', hcs, ht⟩ := hx i (by omega)
    rw [hpl, add_at] at hcs
    obtain ⟨_, hl, hc⟩ := World.cells?_some hcs
    obtain ⟨y0, y1, y2, y3, k, hk, _, t0, t1, t2, t3⟩ := struct4_fuel Tryz.underlying25 ht
    match cs, hl with
    | [v0, v1, v2, v3], _ =>
     obtain ⟨x0, e0, _, w0⟩ := DataW.trod_int uKind t0
     obtain ⟨x1, e1, _, w1⟩ := DataW.trod_int uInt t1
     obtain ⟨s, e2, _, w2⟩ := DataW.trod_string uStr t2
     simp only [cell_kind, cell_int64, cell_text, cell_list, List.drop_zero, List.drop_succ_cons, List.take_succ_cons, List.take_zero, List.cons.injEq, and_true] at e0 e1 e2 t3
     subst e0 e1 e2
     obtain ⟨l, hl1, hl2, _⟩ := ih k (by omega) v3 y3 t3
     refine ⟨.mk x0 x1 s l, ⟨i64_wf w1, hl2⟩, hpl, ?_, ?_, ?_, v3, ?_, hl1.upto (by omega)⟩
     ·have := hc 0 (by omega); rw [add_at] at this; exact this
     ·have := hc 1 (by omega); rw [add_at] at this; exact this
     ·have := hc 2 (by omega); rw [add_at] at this; exact this
     ·have := hc 3 (by omega); rw [add_at] at this; exact this
   obtain ⟨z, hz⟩ := choose_lt hone
   refine ⟨(List.range len).map z, ⟨some a, cap, by simp, fun hl => ?_⟩, i64L_of _ ?_, by simp; omega⟩
   ·have h0 : 0 < len := by simpa using hl
    refine ⟨a.block, a.off, by rw [← (hz 0 h0).2.1], ?_, fun i hi => ?_⟩
    ·have := cell_lt (hz 0 h0).2.2.1
     exact this
    ·have hi' : i < len := by simpa using hi
     have := (hz i hi').2.2
     simpa using this
   ·intro x hx
    simp only [List.mem_map, List.mem_range] at hx
    obtain ⟨i, hi, rfl⟩ := hx
    exact (hz i hi).1
set_option maxRecDepth 100000 in
theorem reply_open {v : Value} {d : DataW H} {pl : List MemPlace} {r : Reach} {b0 : Nat} (hv : Value.okWide Tryz.prog w r b0 25 v) (h : DataW.Trod enc Tryz.prog w 0 (fun _ => true) true 25 v d pl) :
  ∃ (x : Rep) (q : Option Addr) (c D : Nat), v = .agg #[.int .i64 x.k, .int .i64 x.n, .string x.s, .slice q x.l.length c] ∧ ListAt (fun b => b < w.heap.size) w D (.slice q x.l.length c) x.l ∧ i64R x := by
 obtain ⟨cs, rfl, hsz⟩ := okWide_struct Tryz.underlying25 hv
 obtain ⟨c0, c1, c2, c3, rfl⟩ := array4 (hsz.trans cell_reply)
 obtain ⟨fuel, hf⟩ := h
 obtain ⟨y0, y1, y2, y3, m, _, _, t0, t1, t2, t3⟩ := struct4_fuel Tryz.underlying25 hf
 simp only [Value.cells, cell_kind, cell_int64, cell_text, cell_list, List.drop_zero, List.drop_succ_cons, List.take_succ_cons, List.take_zero] at t0 t1 t2 t3
 obtain ⟨x0, e0, _, w0⟩ := DataW.trod_int uKind t0
 obtain ⟨x1, e1, _, w1⟩ := DataW.trod_int uInt t1
 obtain ⟨s, e2, _, w2⟩ := DataW.trod_string uStr t2
 simp only [List.cons.injEq, and_true] at e0 e1 e2
 subst e0 e1 e2
 obtain ⟨l, hl1, hl2, _⟩ := reps_open _ _ _ t3
 obtain ⟨q, c, rfl⟩ := hl1.slice
 exact ⟨.mk x0 x1 s l, q, c, m, rfl, hl1, ⟨i64_wf w1, hl2⟩⟩
end Go.Proofs.YtlfihdcgbhdajaaGreatDoor
namespace Go.Proofs.YtlfihdcgbhdajaaGreatDoor
open Go.ChangeShapes Go.WideShapes Go.ChangeAt Go.RowKit Go.Joins Go.Deep
set_option linter.unusedVariables false
set_option linter.unusedSimpArgs false
variable {H : Type} {enc : TypeId × Value → H} {w : World} {base : Nat}
end Go.Proofs.YtlfihdcgbhdajaaGreatDoor
