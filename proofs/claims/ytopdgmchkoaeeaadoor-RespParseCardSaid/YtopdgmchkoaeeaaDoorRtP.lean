/- The reader of requests: made, fed. -/
import Derived.Test.YtopdgmchkoaeeaaDoorRtC
import Derived.Test.YtopdgmchkoaeeaaDoorRsH
import Derived.Laws.OwnMore
import Derived.OwnWalk
import Derived.Deep.LoopGhost
namespace Go.Proofs.YtopdgmchkoaeeaaDoor
open Go.RowKit
set_option linter.unusedVariables false
set_option linter.unusedSimpArgs false

theorem infoU8 : (Tryd.prog.info? 5).map (fun i => (i.zero, i.size, i.bytes)) = some (some (.int .u8 0), 1, 1) := by kernel_rfl
theorem bytes_news {w : World} {ad : Addr} {c : Nat} {l : List UInt8} (h : BytesAt w (some ad) c l) : ∀ j u, (Lib.byteCells l)[j]? = some u → w.cell? (ad.add j) = some u := by
  intro j u hu
  have hj : j < l.length := by
    have := (List.getElem?_eq_some_iff.1 hu).1
    simpa [Lib.byteCells] using this
  obtain ⟨b, o, e, hc⟩ := h.bytes j hj
  injection e with e
  subst e
  have hadd : (⟨b, o, none⟩ : Addr).add j = ⟨b, o + j, none⟩ := by unfold Addr.add; split <;> simp_all
  rw [hadd, hc, ← hu]
  simp [Lib.byteCells, List.getElem?_map, List.getElem?_eq_getElem hj]
theorem byte_one (l : List UInt8) : ∀ v ∈ Lib.byteCells l, v.oneCell' = true := by
  intro v hv
  simp only [Lib.byteCells, List.mem_map] at hv
  obtain ⟨b, _, rfl⟩ := hv
  rfl
theorem own_bytes {w : World} {base : Nat} {v : Value} {l : List UInt8} (h : w.ownsRow base 5 1 v l.length (Lib.byteCells l)) : ∃ q c, v = .slice q l.length c ∧ BytesAt w q c l ∧ (∀ b o, q = some ⟨b, o, none⟩ → base ≤ b) := by
  rcases h.2 with ⟨rfl, h0⟩ | ⟨g, cap, cur, rfl, hb, hh, hnc, hcap, hsz, htk⟩
  · have := List.eq_nil_of_length_eq_zero h0
    subst this
    exact ⟨none, 0, rfl, ⟨fun k hk => absurd hk (by simp), by simp, .inl ⟨rfl, rfl⟩, ⟨Nat.le_refl _, by omega⟩⟩, fun b o e => by cases e⟩
  · have hg : g < w.heap.size := by
      rcases Nat.lt_or_ge g w.heap.size with h | h
      · exact h
      · rw [Array.getElem?_eq_none h] at hh; cases hh
    unfold maxLen at hcap
    refine ⟨_, cap, rfl, ⟨fun k hk => ⟨g, 0, rfl, ?_⟩, by omega, .inr ⟨g, 0, rfl, hg⟩, ⟨hnc, by omega⟩⟩, fun b o e => by cases e; exact hb⟩
    have h1 := World.ownsRow.cells h (g := g) rfl k (.int .u8 (l[k].toNat : Int)) (by simp [Lib.byteCells, List.getElem?_map, List.getElem?_eq_getElem hk])
    have hadd : (⟨g, 0, none⟩ : Addr).add k = ⟨g, 0 + k, none⟩ := by unfold Addr.add; split <;> simp_all
    rwa [hadd] at h1
/-- The reader: its bytes in a row of its own, what it ended with. -/
structure RdAt (w : World) (base g : Nat) (l : List UInt8) (e : Int) : Prop where
  ex : ∃ v, Blk w g 95 #[v, .bool true, .int .i64 e] ∧ w.ownsRow base 5 1 v l.length (Lib.byteCells l)
  hg : g < base
  hb : base ≤ w.heap.size
theorem RdAt.ext {w w' : World} {base g : Nat} {l : List UInt8} {e : Int} (h : RdAt w base g l e) (he : Ext w w') : RdAt w' base g l e :=
  let ⟨v, hb, ho⟩ := h.ex; ⟨⟨v, hb.ext he, own_ext ho he⟩, h.hg, Nat.le_trans h.hb he.le⟩
theorem new_reader (w : World) : Calls Tryd.prog 23 #[] w fun e w' => e = .returned (.pointer (some ⟨w.heap.size, 0, none⟩)) ∧ RdAt w' (w.heap.size + 1) w.heap.size [] 0 ∧ Ext w w' := by
  go_enter Tryd.func23, Tryd.ntmps23
  go_wp2_with fail
  go_ret
  exact ⟨rfl, ⟨⟨_, Blk.new w _ _, ⟨rfl, .inl ⟨rfl, rfl⟩⟩⟩, by omega, by rw [size_alloc]; omega⟩, (Ext.refl w).alloc _⟩
/-- What Feed leaves: below the reader's row all but the reader is as it was. -/
def FeedE (w : World) (base g : Nat) (l m : List UInt8) (c : Int) (e : Ending) (w' : World) : Prop :=
  e = .returned (.int .i64 0) ∧ RdAt w' base g (l ++ m) c ∧ (∀ k, k < base → k ≠ g → w'.heap[k]? = w.heap[k]?) ∧ w'.os = w.os ∧ w'.tape = w.tape ∧ w'.output = w.output ∧ w.heap.size ≤ w'.heap.size
/-- An append whose run is known. -/
theorem wpList_append_run {P : Program} {w : World} {ops : Array Oper} {rest : List Oper} {o : Oper} {a : Act} {Q : Exit → Act → World → Prop} (hgd : o.guard = none) (s x : Operand) (t : TypeId)
    (ho : o.op = .call { callee := .builtin .append, args := #[s, x], argTypes := #[t, t] }) (v x' v' : Value) (w' : World) (hs : a.eval s = v) (hx : a.eval x = x')
    (hrun : (Builtin.append_ #[t, t] o.type #[v, x']).run P w = .ok v' w') (h : wpList P ops Q rest (a.put o.dst v') w') : wpList P ops Q (o :: rest) a w := by
  refine wpList_plain hgd fun K hK => ?_
  unfold Oper.wp execOp
  simp only [ho, resolve, invoke, builtin, Sem.run_bind, Sem.run_pure, Result.andThen_ok, List.map_toArray, List.map_cons, List.map_nil, hs, hx, hrun]
  exact hK _ _ h
/-- Bytes behind bytes of a row of the call's own. -/
theorem append_bytes (w : World) (ty : TypeId) (base : Nat) (v : Value) (l : List UInt8) (ho : w.ownsRow base 5 1 v l.length (Lib.byteCells l)) (q : Option Addr) (c : Nat) (m : List UInt8) (hm : BytesAt w q c m)
    (hlen : l.length + m.length ≤ 140737488355328) (hbase : base ≤ w.heap.size) :
    ∃ v' w', (Builtin.append_ #[25, 25] ty #[v, .slice q m.length c]).run Tryd.prog w = .ok v' w' ∧ w'.ownsRow base 5 1 v' (l ++ m).length (Lib.byteCells (l ++ m)) ∧ w.grownBy w' v.ownBlock := by
  obtain ⟨i0, hi, hz0, hz1, hz2⟩ := info_parts infoU8
  rcases hm.slot with ⟨rfl, rfl⟩ | ⟨b, o, rfl, hb⟩
  · have hr := hm.room.1
    obtain rfl : m = [] := List.eq_nil_of_length_eq_zero (by omega)
    refine ⟨v, w, run_append_owned_none (P := Tryd.prog) w base 25 ty 5 i0 1 Tryd.underlying25 hi v l.length _ ho, by simpa using ho, World.grownBy.refl w _⟩
  · obtain ⟨v', w', h1, h2, h3, _⟩ := run_append_own (P := Tryd.prog) w base 25 ty 5 i0 (.int .u8 0) 1 1 Tryd.underlying25 hi hz0 hz1 hz2 rfl (by omega) v l.length (Lib.byteCells l) ho ⟨b, o, none⟩ m.length c (Lib.byteCells m) (by rw [Lib.byteCells_length]; omega) (bytes_news hm) (byte_one m) (by unfold maxLen; omega) (by omega) hbase
    exact ⟨v', w', h1, by rw [Lib.byteCells_append, List.length_append]; exact h2, h3⟩
set_option maxRecDepth 100000 in
set_option maxHeartbeats 1000000 in
theorem feed_any (w : World) (base g : Nat) (l m : List UInt8) (c : Int) (q : Option Addr) (cp : Nat) (h : RdAt w base g l c) (hm : BytesAt w q cp m) (hlen : l.length + m.length ≤ 140737488355328) :
    Calls Tryd.prog 24 #[.pointer (some ⟨g, 0, none⟩), .slice q m.length cp] w (FeedE w base g l m c) := by
  obtain ⟨v, hb, ho⟩ := h.ex
  have H := Lib.hid h
  have HB := Lib.hid hb
  obtain ⟨v', w', hrun, hown, hgrow⟩ := append_bytes w 25 base v l ho q cp m hm hlen h.hb
  obtain ⟨q1, c1, hv1, _⟩ := own_bytes ho
  obtain ⟨q2, c2, hv2, _⟩ := own_bytes hown
  have hne : v.ownBlock ≠ some g := fun e => by have := (ho.lt g e).1; have := h.hg; omega
  have hrow := ho.lt
  subst hv1 hv2
  have b0 := hb.cell 0
  have b1 := hb.cell 1
  have b2 := hb.cell 2
  simp only [List.getElem?_toArray, List.getElem?_cons_zero, List.getElem?_cons_succ] at b0 b1 b2
  have B2 : Blk w' g 95 #[.slice q1 l.length c1, .bool true, .int .i64 c] := (hgrow.block g hb.lt (fun e => hne e.symm)).trans hb
  have y0 := B2.cell 0
  have z0 := B2.frozen 0
  simp only [List.getElem?_toArray, List.getElem?_cons_zero, List.getElem?_cons_succ] at y0
  have HR := Lib.hid hrun
  have HO2 := Lib.hid hown
  have HG := Lib.hid hgrow
  have HB2 := Lib.hid B2
  have HW := Lib.hid hrow
  clear h hb ho hm hrun hown hgrow B2 hrow hne
  go_enter Tryd.func24, Tryd.ntmps24
  go_wp2_with (at_builtin; refine wpList_append_run rfl _ _ 25 rfl _ _ _ _ rfl rfl HR.out ?_)
  go_wp2_with fail
  go_ret
  have hgb := H.out.hg
  have hbb := H.out.hb
  have hgs := HG.out.size
  refine ⟨rfl, ⟨⟨_, by simpa using HB2.out.set_ 0 (.slice q2 (l ++ m).length c2), own_set HO2.out hgb⟩, hgb, by rw [World.size_setCell]; omega⟩, fun k hk hn => ?_, HG.out.os, HG.out.tape, HG.out.output, by rw [World.size_setCell]; omega⟩
  rw [Below.heap_setCell w' ⟨g, 0, none⟩ _ k (by show k ≠ g; exact hn)]
  exact HG.out.block k (by omega) (fun e => by have := (HW.out k e.symm).1; omega)
theorem bytes_ext_at {w w' : World} {q : Option Addr} {c : Nat} {l : List UInt8} (h : BytesAt w q c l) (he : Ext w w') : BytesAt w' q c l := h.ext he
set_option maxRecDepth 100000 in
theorem clone_nil (w : World) : Calls Tryd.prog 52 #[.slice none 0 0] w fun e w' => e = .returned (.slice none 0 0) ∧ w = w' := by
  have he : (binOp .eql 25 (.slice none 0 0) (.slice none 0 0)).run Tryd.prog w = .ok (.bool true) w := Lib.run_eql_slice_nil (P := Tryd.prog) w 25 5 none 0 0 0 0 Tryd.underlying25
  go_enter Tryd.func52, Tryd.ntmps52
  go_wp2_with fail
  go_ret
  exact ⟨rfl, rfl⟩
/-- What Clone leaves. -/
def CloneE (w : World) (l : List UInt8) (e : Ending) (w' : World) : Prop := ∃ v, e = .returned v ∧ w'.ownsRow w.heap.size 5 1 v l.length (Lib.byteCells l) ∧ Ext w w'
set_option maxRecDepth 100000 in
set_option maxHeartbeats 1000000 in
theorem clone_some (w : World) (b o c : Nat) (l : List UInt8) (hm : BytesAt w (some ⟨b, o, none⟩) c l) (hlen : l.length ≤ 140737488355328) :
    Calls Tryd.prog 52 #[.slice (some ⟨b, o, none⟩) l.length c] w (CloneE w l) := by
  have ho : (w.alloc (.cells #[] 5)).ownsRow w.heap.size 5 1 (.slice (some ⟨w.heap.size, 0, none⟩) 0 0) ([] : List UInt8).length (Lib.byteCells []) := World.ownsRow_lit w #[] 0 (Nat.le_refl _) (by unfold maxLen; omega) rfl
  obtain ⟨v', w', hrun, hown, hgrow⟩ := append_bytes _ 25 w.heap.size _ [] ho (some ⟨b, o, none⟩) c l (hm.ext ((Ext.refl w).alloc _)) (by simpa using hlen) (by rw [size_alloc]; omega)
  have HR := Lib.hid hrun
  have HO := Lib.hid hown
  have HE := Lib.hid (Ext.grown ((Ext.refl w).alloc (.cells #[] 5)) hgrow (fun x hx => (ho.lt x hx).1))
  obtain ⟨q2, c2, hv2, _⟩ := own_bytes hown
  subst hv2
  clear hm ho hrun hown hgrow
  have he : (binOp .eql 25 (.slice (some ⟨b, o, none⟩) l.length c) (.slice none 0 0)).run Tryd.prog w = .ok (.bool false) w := Lib.run_eql_slice_nil (P := Tryd.prog) w 25 5 (some ⟨b, o, none⟩) l.length c 0 0 Tryd.underlying25
  go_enter Tryd.func52, Tryd.ntmps52
  go_wp2_with (at_builtin; refine wpList_append_run rfl _ _ 25 rfl _ _ _ _ rfl rfl HR.out ?_)
  go_wp2_with fail
  go_ret
  exact ⟨_, rfl, HO.out, HE.out⟩
end Go.Proofs.YtopdgmchkoaeeaaDoor
