/- The reader of requests: made, fed. The reader of requests: its next request. -/
import Derived.Test.YtopdgmchkoaeeaaDoorRtC
import Derived.Test.YtopdgmchkoaeeaaDoorRsH
import Derived.Laws.OwnMore
import Derived.OwnWalk
import Derived.Deep.LoopGhost
namespace Go.Proofs.YtopdgmchkoaeeaaDoor
open Go.RowKit
set_option linter.unusedVariables false
set_option linter.unusedSimpArgs false

theorem infoU8 : (Tryd.prog.info? 5).map (fun i => (i.zero, i.size, i.bytes)) = some (some (.int .u8 0), 1, 1) := by kernel_rfl
theorem bytes_news {w : World} {ad : Addr} {c : Nat} {l : List UInt8} (h : BytesAt w (some ad) c l) : ∀ j u, (Lib.byteCells l)[j]? = some u → w.cell? (ad.add j) = some u := by
  intro j u hu
  have hj : j < l.length := by
    have := (List.getElem?_eq_some_iff.1 hu).1
    simpa [Lib.byteCells] using this
  obtain ⟨b, o, e, hc⟩ := h.bytes j hj
  injection e with e
  subst e
  have hadd : (⟨b, o, none⟩ : Addr).add j = ⟨b, o + j, none⟩ := by unfold Addr.add; split <;> simp_all
  rw [hadd, hc, ← hu]
  simp [Lib.byteCells, List.getElem?_map, List.getElem?_eq_getElem hj]
theorem byte_one (l : List UInt8) : ∀ v ∈ Lib.byteCells l, v.oneCell' = true := by
  intro v hv
  simp only [Lib.byteCells, List.mem_map] at hv
  obtain ⟨b, _, rfl⟩ := hv
  rfl
theorem own_bytes {w : World} {base : Nat} {v : Value} {l : List UInt8} (h : w.ownsRow base 5 1 v l.length (Lib.byteCells l)) : ∃ q c, v = .slice q l.length c ∧ BytesAt w q c l ∧ (∀ b o, q = some ⟨b, o, none⟩ → base ≤ b) := by
  rcases h.2 with ⟨rfl, h0⟩ | ⟨g, cap, cur, rfl, hb, hh, hnc, hcap, hsz, htk⟩
  · have := List.eq_nil_of_length_eq_zero h0
    subst this
    exact ⟨none, 0, rfl, ⟨fun k hk => absurd hk (by simp), by simp, .inl ⟨rfl, rfl⟩, ⟨Nat.le_refl _, by omega⟩⟩, fun b o e => by cases e⟩
  · have hg : g < w.heap.size := by
      rcases Nat.lt_or_ge g w.heap.size with h | h
      · exact h
      · rw [Array.getElem?_eq_none h] at hh; cases hh
    unfold maxLen at hcap
    refine ⟨_, cap, rfl, ⟨fun k hk => ⟨g, 0, rfl, ?_⟩, by omega, .inr ⟨g, 0, rfl, hg⟩, ⟨hnc, by omega⟩⟩, fun b o e => by cases e; exact hb⟩
    have h1 := World.ownsRow.cells h (g := g) rfl k (.int .u8 (l[k].toNat : Int)) (by simp [Lib.byteCells, List.getElem?_map, List.getElem?_eq_getElem hk])
    have hadd : (⟨g, 0, none⟩ : Addr).add k = ⟨g, 0 + k, none⟩ := by unfold Addr.add; split <;> simp_all
    rwa [hadd] at h1
/-- The reader: its bytes in a row of its own, what it ended with. -/
structure RdAt (w : World) (base g : Nat) (l : List UInt8) (e : Int) : Prop where
  ex : ∃ v, Blk w g 95 #[v, .bool true, .int .i64 e] ∧ w.ownsRow base 5 1 v l.length (Lib.byteCells l)
  hg : g < base
  hb : base ≤ w.heap.size
theorem RdAt.ext {w w' : World} {base g : Nat} {l : List UInt8} {e : Int} (h : RdAt w base g l e) (he : Ext w w') : RdAt w' base g l e :=
  let ⟨v, hb, ho⟩ := h.ex; ⟨⟨v, hb.ext he, own_ext ho he⟩, h.hg, Nat.le_trans h.hb he.le⟩
theorem new_reader (w : World) : Calls Tryd.prog 23 #[] w fun e w' => e = .returned (.pointer (some ⟨w.heap.size, 0, none⟩)) ∧ RdAt w' (w.heap.size + 1) w.heap.size [] 0 ∧ Ext w w' := by
  go_enter Tryd.func23, Tryd.ntmps23
  go_wp2_with fail
  go_ret
  exact ⟨rfl, ⟨⟨_, Blk.new w _ _, ⟨rfl, .inl ⟨rfl, rfl⟩⟩⟩, by omega, by rw [size_alloc]; omega⟩, (Ext.refl w).alloc _⟩
/-- What Feed leaves: below the reader's row all but the reader is as it was. -/
def FeedE (w : World) (base g : Nat) (l m : List UInt8) (c : Int) (e : Ending) (w' : World) : Prop :=
  e = .returned (.int .i64 0) ∧ RdAt w' base g (l ++ m) c ∧ (∀ k, k < base → k ≠ g → w'.heap[k]? = w.heap[k]?) ∧ w'.os = w.os ∧ w'.tape = w.tape ∧ w'.output = w.output ∧ w.heap.size ≤ w'.heap.size
/-- An append whose run is known. -/
theorem wpList_append_run {P : Program} {w : World} {ops : Array Oper} {rest : List Oper} {o : Oper} {a : Act} {Q : Exit → Act → World → Prop} (hgd : o.guard = none) (s x : Operand) (t : TypeId)
    (ho : o.op = .call { callee := .builtin .append, args := #[s, x], argTypes := #[t, t] }) (v x' v' : Value) (w' : World) (hs : a.eval s = v) (hx : a.eval x = x')
    (hrun : (Builtin.append_ #[t, t] o.type #[v, x']).run P w = .ok v' w') (h : wpList P ops Q rest (a.put o.dst v') w') : wpList P ops Q (o :: rest) a w := by
  refine wpList_plain hgd fun K hK => ?_
  unfold Oper.wp execOp
  simp only [ho, resolve, invoke, builtin, Sem.run_bind, Sem.run_pure, Result.andThen_ok, List.map_toArray, List.map_cons, List.map_nil, hs, hx, hrun]
  exact hK _ _ h
/-- Bytes behind bytes of a row of the call's own. -/
theorem append_bytes (w : World) (ty : TypeId) (base : Nat) (v : Value) (l : List UInt8) (ho : w.ownsRow base 5 1 v l.length (Lib.byteCells l)) (q : Option Addr) (c : Nat) (m : List UInt8) (hm : BytesAt w q c m)
    (hlen : l.length + m.length ≤ 140737488355328) (hbase : base ≤ w.heap.size) :
    ∃ v' w', (Builtin.append_ #[25, 25] ty #[v, .slice q m.length c]).run Tryd.prog w = .ok v' w' ∧ w'.ownsRow base 5 1 v' (l ++ m).length (Lib.byteCells (l ++ m)) ∧ w.grownBy w' v.ownBlock := by
  obtain ⟨i0, hi, hz0, hz1, hz2⟩ := info_parts infoU8
  rcases hm.slot with ⟨rfl, rfl⟩ | ⟨b, o, rfl, hb⟩
  · have hr := hm.room.1
    obtain rfl : m = [] := List.eq_nil_of_length_eq_zero (by omega)
    refine ⟨v, w, run_append_owned_none (P := Tryd.prog) w base 25 ty 5 i0 1 Tryd.underlying25 hi v l.length _ ho, by simpa using ho, World.grownBy.refl w _⟩
  · obtain ⟨v', w', h1, h2, h3, _⟩ := run_append_own (P := Tryd.prog) w base 25 ty 5 i0 (.int .u8 0) 1 1 Tryd.underlying25 hi hz0 hz1 hz2 rfl (by omega) v l.length (Lib.byteCells l) ho ⟨b, o, none⟩ m.length c (Lib.byteCells m) (by rw [Lib.byteCells_length]; omega) (bytes_news hm) (byte_one m) (by unfold maxLen; omega) (by omega) hbase
    exact ⟨v', w', h1, by rw [Lib.byteCells_append, List.length_append]; exact h2, h3⟩
set_option maxRecDepth 100000 in
set_option maxHeartbeats 1000000 in
theorem feed_any (w : World) (base g : Nat) (l m : List UInt8) (c : Int) (q : Option Addr) (cp : Nat) (h : RdAt w base g l c) (hm : BytesAt w q cp m) (hlen : l.length + m.length ≤ 140737488355328) :
    Calls Tryd.prog 24 #[.pointer (some ⟨g, 0, none⟩), .slice q m.length cp] w (FeedE w base g l m c) := by
  obtain ⟨v, hb, ho⟩ := h.ex
  have H := Lib.hid h
  have HB := Lib.hid hb
  obtain ⟨v', w', hrun, hown, hgrow⟩ := append_bytes w 25 base v l ho q cp m hm hlen h.hb
  obtain ⟨q1, c1, hv1, _⟩ := own_bytes ho
  obtain ⟨q2, c2, hv2, _⟩ := own_bytes hown
  have hne : v.ownBlock ≠ some g := fun e => by have := (ho.lt g e).1; have := h.hg; omega
  have hrow := ho.lt
  subst hv1 hv2
  have b0 := hb.cell 0
  have b1 := hb.cell 1
  have b2 := hb.cell 2
  simp only [List.getElem?_toArray, List.getElem?_cons_zero, List.getElem?_cons_succ] at b0 b1 b2
  have B2 : Blk w' g 95 #[.slice q1 l.length c1, .bool true, .int .i64 c] := (hgrow.block g hb.lt (fun e => hne e.symm)).trans hb
  have y0 := B2.cell 0
  have z0 := B2.frozen 0
  simp only [List.getElem?_toArray, List.getElem?_cons_zero, List.getElem?_cons_succ] at y0
  have HR := Lib.hid hrun
  have HO2 := Lib.hid hown
  have HG := Lib.hid hgrow
  have HB2 := Lib.hid B2
  have HW := Lib.hid hrow
  clear h hb ho hm hrun hown hgrow B2 hrow hne
  go_enter Tryd.func24, Tryd.ntmps24
  go_wp2_with (at_builtin; refine wpList_append_run rfl _ _ 25 rfl _ _ _ _ rfl rfl HR.out ?_)
  go_wp2_with fail
  go_ret
  have hgb := H.out.hg
  have hbb := H.out.hb
  have hgs := HG.out.size
  refine ⟨rfl, ⟨⟨_, by simpa using HB2.out.set_ 0 (.slice q2 (l ++ m).length c2), own_set HO2.out hgb⟩, hgb, by rw [World.size_setCell]; omega⟩, fun k hk hn => ?_, HG.out.os, HG.out.tape, HG.out.output, by rw [World.size_setCell]; omega⟩
  rw [Below.heap_setCell w' ⟨g, 0, none⟩ _ k (by show k ≠ g; exact hn)]
  exact HG.out.block k (by omega) (fun e => by have := (HW.out k e.symm).1; omega)
theorem bytes_ext_at {w w' : World} {q : Option Addr} {c : Nat} {l : List UInt8} (h : BytesAt w q c l) (he : Ext w w') : BytesAt w' q c l := h.ext he
set_option maxRecDepth 100000 in
theorem clone_nil (w : World) : Calls Tryd.prog 52 #[.slice none 0 0] w fun e w' => e = .returned (.slice none 0 0) ∧ w = w' := by
  have he : (binOp .eql 25 (.slice none 0 0) (.slice none 0 0)).run Tryd.prog w = .ok (.bool true) w := Lib.run_eql_slice_nil (P := Tryd.prog) w 25 5 none 0 0 0 0 Tryd.underlying25
  go_enter Tryd.func52, Tryd.ntmps52
  go_wp2_with fail
  go_ret
  exact ⟨rfl, rfl⟩
/-- What Clone leaves. -/
def CloneE (w : World) (l : List UInt8) (e : Ending) (w' : World) : Prop := ∃ v, e = .returned v ∧ w'.ownsRow w.heap.size 5 1 v l.length (Lib.byteCells l) ∧ Ext w w'
set_option maxRecDepth 100000 in
set_option maxHeartbeats 1000000 in
theorem clone_some (w : World) (b o c : Nat) (l : List UInt8) (hm : BytesAt w (some ⟨b, o, none⟩) c l) (hlen : l.length ≤ 140737488355328) :
    Calls Tryd.prog 52 #[.slice (some ⟨b, o, none⟩) l.length c] w (CloneE w l) := by
  have ho : (w.alloc (.cells #[] 5)).ownsRow w.heap.size 5 1 (.slice (some ⟨w.heap.size, 0, none⟩) 0 0) ([] : List UInt8).length (Lib.byteCells []) := World.ownsRow_lit w #[] 0 (Nat.le_refl _) (by unfold maxLen; omega) rfl
  obtain ⟨v', w', hrun, hown, hgrow⟩ := append_bytes _ 25 w.heap.size _ [] ho (some ⟨b, o, none⟩) c l (hm.ext ((Ext.refl w).alloc _)) (by simpa using hlen) (by rw [size_alloc]; omega)
  have HR := Lib.hid hrun
  have HO := Lib.hid hown
  have HE := Lib.hid (Ext.grown ((Ext.refl w).alloc (.cells #[] 5)) hgrow (fun x hx => (ho.lt x hx).1))
  obtain ⟨q2, c2, hv2, _⟩ := own_bytes hown
  subst hv2
  clear hm ho hrun hown hgrow
  have he : (binOp .eql 25 (.slice (some ⟨b, o, none⟩) l.length c) (.slice none 0 0)).run Tryd.prog w = .ok (.bool false) w := Lib.run_eql_slice_nil (P := Tryd.prog) w 25 5 (some ⟨b, o, none⟩) l.length c 0 0 Tryd.underlying25
  go_enter Tryd.func52, Tryd.ntmps52
  go_wp2_with (at_builtin; refine wpList_append_run rfl _ _ 25 rfl _ _ _ _ rfl rfl HR.out ?_)
  go_wp2_with fail
  go_ret
  exact ⟨_, rfl, HO.out, HE.out⟩
end Go.Proofs.YtopdgmchkoaeeaaDoor
namespace Go.Proofs.YtopdgmchkoaeeaaDoor
open Go.RowKit
set_option linter.unusedVariables false
set_option linter.unusedSimpArgs false

theorem own_base {w : World} {base base' : Nat} {e : TypeId} {s : Nat} {v : Value} {n : Nat} {xs : List Value} (h : w.ownsRow base e s v n xs) (hb : base' ≤ base) : w.ownsRow base' e s v n xs :=
  ⟨h.1, h.2.imp id (fun ⟨g, cap, cur, e1, h1, h2⟩ => ⟨g, cap, cur, e1, Nat.le_trans hb h1, h2⟩)⟩
theorem bytes_drop {w : World} {b o c : Nat} {l : List UInt8} (h : BytesAt w (some ⟨b, o, none⟩) c l) (n : Nat) (hn : n ≤ l.length) : BytesAt w (some ⟨b, o + n, none⟩) (c - n) (l.drop n) := by
  have hr := h.room
  have hl := h.len
  refine ⟨fun k hk => ?_, by rw [List.length_drop]; omega, ?_, by rw [List.length_drop]; omega⟩
  · have hk' : n + k < l.length := by rw [List.length_drop] at hk; omega
    obtain ⟨b', o', e, hc⟩ := h.bytes (n + k) hk'
    cases e
    refine ⟨b, o + n, rfl, ?_⟩
    rw [List.getElem_drop, Nat.add_assoc]
    exact hc
  · rcases h.slot with ⟨e, _⟩ | ⟨b', o', e, hb⟩
    · cases e
    · cases e
      exact .inr ⟨_, _, rfl, hb⟩
theorem bytes_done {w : World} {b o c : Nat} {l : List UInt8} (h : BytesAt w (some ⟨b, o, none⟩) c l) : BytesAt w (some ⟨b, o, none⟩) 0 [] := by
  refine ⟨fun k hk => absurd hk (by simp), by simp, ?_, ⟨Nat.le_refl _, by omega⟩⟩
  rcases h.slot with ⟨e, _⟩ | ⟨b', o', e, hb⟩
  · cases e
  · cases e
    exact .inr ⟨_, _, rfl, hb⟩
theorem parse_pos {l : List UInt8} {x : List ByteArray × Nat} (h : parseS l = .ok x) : x.2 ≤ l.length := by
  have hb := parse_br l
  rw [h] at hb
  cases hr : parseR l with
  | error e => rw [hr] at hb; exact False.elim hb
  | ok y => rw [hr] at hb; exact hb.2.1
theorem parse_err {l : List UInt8} {c : Int} (h : parseS l = .error c) : c = 130 ∨ c = 131 := by
  have hb := parse_br l
  rw [h] at hb
  cases hr : parseR l with
  | ok y => rw [hr] at hb; exact False.elim hb
  | error e =>
    rw [hr] at hb
    obtain rfl : c = e := hb
    rcases (parse_goes l []).2 _ hr with h | h
    · exact .inl h
    · exact .inr h.1
/-- What Next leaves of a reader that has not ended. -/
def NextE (w : World) (base g : Nat) (l : List UInt8) (r : Except Int (List ByteArray × Nat)) (e : Ending) (w' : World) : Prop :=
  Only g w w' ∧ (match r with
  | .ok x => ∃ v, e = .returned (.tuple #[v, .int .i64 0]) ∧ TextsFrom w.heap.size w' v x.1 ∧ RdAt w' base g (l.drop x.2) 0
  | .error c => e = .returned (.tuple #[.slice none 0 0, .int .i64 c]) ∧ RdAt w' base g l (if c = 131 then 131 else 0))
theorem NextE.ok {w w' : World} {base g : Nat} {l : List UInt8} {r : Except Int (List ByteArray × Nat)} {e : Ending} {x : List ByteArray × Nat} (hr : r = .ok x) (ho : Only g w w') (h : ∃ v, e = .returned (.tuple #[v, .int .i64 0]) ∧ TextsFrom w.heap.size w' v x.1 ∧ RdAt w' base g (l.drop x.2) 0) : NextE w base g l r e w' := by
  subst hr; exact ⟨ho, h⟩
theorem NextE.err {w w' : World} {base g : Nat} {l : List UInt8} {r : Except Int (List ByteArray × Nat)} {e : Ending} {c : Int} (hr : r = .error c) (ho : Only g w w') (h : e = .returned (.tuple #[.slice none 0 0, .int .i64 c]) ∧ RdAt w' base g l (if c = 131 then 131 else 0)) : NextE w base g l r e w' := by
  subst hr; exact ⟨ho, h⟩
set_option maxRecDepth 100000 in
theorem next_ended (w : World) (base g : Nat) (l : List UInt8) (c : Int) (hc : ¬ c = 0) (h : RdAt w base g l c) :
    Calls Tryd.prog 26 #[.pointer (some ⟨g, 0, none⟩)] w fun e w' => e = .returned (.tuple #[.slice none 0 0, .int .i64 c]) ∧ Ext w w' := by
  obtain ⟨v, hb, ho⟩ := h.ex
  have b1 := hb.cell 1
  have b2 := hb.cell 2
  simp only [List.getElem?_toArray, List.getElem?_cons_zero, List.getElem?_cons_succ] at b1 b2
  have h0 : (c == 0) = false := by simpa using hc
  have h0' : (c != 0) = true := by simpa using hc
  clear h hb ho
  go_enter Tryd.func26, Tryd.ntmps26
  go_wp2_with fail
  go_quiet (fail)
  go_wp2_with fail
  go_ret2
  exact ⟨rfl, (Ext.refl w).drewN _⟩
set_option maxRecDepth 100000 in
set_option maxHeartbeats 2000000 in
theorem next_some (w : World) (base g : Nat) (l : List UInt8) (b o cp : Nat) (h : RdAt w base g l 0) (hb : Blk w g 95 #[.slice (some ⟨b, o, none⟩) l.length cp, .bool true, .int .i64 0])
    (hm : BytesAt w (some ⟨b, o, none⟩) cp l) (hlen : l.length ≤ 140737488355328) :
    Calls Tryd.prog 26 #[.pointer (some ⟨g, 0, none⟩)] w (NextE w base g l (parseS l)) := by
  obtain ⟨r, hr⟩ : ∃ r, parseS l = r := ⟨_, rfl⟩
  have cP := parse_any w (some ⟨b, o, none⟩) cp l hm
  rw [hr] at cP ⊢
  have HR := Lib.hid hr
  have HC := Lib.hid cP
  have H := Lib.hid h
  have HB := Lib.hid hb
  have HM := Lib.hid hm
  have hroom := hm.room
  have b0 := hb.cell 0
  have b1 := hb.cell 1
  have b2 := hb.cell 2
  simp only [List.getElem?_toArray, List.getElem?_cons_zero, List.getElem?_cons_succ] at b0 b1 b2
  have hgl := hb.lt
  have hgb := h.hg
  have hbb := h.hb
  clear h hb hm hr cP
  go_enter Tryd.func26, Tryd.ntmps26
  go_wp2_with fail
  refine HC.out.mono ?_
  clear HC
  intro e w1 hs
  cases r with
  | error c =>
    obtain ⟨rfl, e1⟩ := hs
    have hcc := parse_err HR.out
    have B1 := HB.out.ext e1
    have b0 := B1.cell 0
    have b1 := B1.cell 1
    have b2 := B1.cell 2
    have z0 := B1.frozen 0
    have z2 := B1.frozen 2
    simp only [List.getElem?_toArray, List.getElem?_cons_zero, List.getElem?_cons_succ] at b0 b1 b2
    have E1 := Lib.hid e1
    have HB1 := Lib.hid B1
    have HC := Lib.hid (clone_some w1 b o cp l (HM.out.ext e1) hlen)
    clear e1 B1
    go_wp2_with fail
    refine HC.out.mono ?_
    rintro e w2 ⟨v2, rfl, own2, e2⟩
    obtain ⟨q2, c2, hv2, _⟩ := own_bytes own2
    subst hv2
    have B2 := HB1.out.ext e2
    have b0 := B2.cell 0
    have b1 := B2.cell 1
    have b2 := B2.cell 2
    have z0 := B2.frozen 0
    have z2 := B2.frozen 2
    simp only [List.getElem?_toArray, List.getElem?_cons_zero, List.getElem?_cons_succ] at b0 b1 b2
    have E2 := Lib.hid (E1.out.trans e2)
    have HB2 := Lib.hid B2
    have HO2 := Lib.hid (own_base own2 (Nat.le_trans hbb E1.out.le))
    clear own2 e2 B2 HC E1 HB1
    have hg2 : base ≤ w2.heap.size := Nat.le_trans hbb E2.out.le
    rcases hcc with rfl | rfl
    · go_wp2_with fail
      go_ret2
      refine NextE.err rfl ((Only.of_ext E2.out).set 0 _) ⟨rfl, ⟨⟨_, by simpa using HB2.out.set_ 0 (.slice q2 l.length c2), own_set HO2.out hgb⟩, hgb, by rw [World.size_setCell]; exact hg2⟩⟩
    · go_wp2_with fail
      go_ret2
      refine NextE.err rfl (((Only.of_ext E2.out).set 0 _).set 2 _) ⟨rfl, ⟨⟨_, by simpa using (HB2.out.set_ 0 (.slice q2 l.length c2)).set_ 2 (.int .i64 131), own_set (own_set HO2.out hgb) hgb⟩, hgb, by rw [World.size_setCell, World.size_setCell]; exact hg2⟩⟩
  | ok x =>
    obtain ⟨v, rfl, hT, e1⟩ := hs
    obtain ⟨ts, n⟩ := x
    have hn : n ≤ l.length := parse_pos HR.out
    obtain ⟨q3, c3, hv3⟩ : ∃ q' c', v = .slice q' ts.length c' := ⟨_, _, hT.choose_spec.choose_spec.1⟩
    subst hv3
    have B1 := HB.out.ext e1
    have b0 := B1.cell 0
    have b1 := B1.cell 1
    have b2 := B1.cell 2
    simp only [List.getElem?_toArray, List.getElem?_cons_zero, List.getElem?_cons_succ] at b0 b1 b2
    have HTX := Lib.hid hT
    have E1 := Lib.hid e1
    have HB1 := Lib.hid B1
    have k0 : (0 : Int) ≤ (n : Int) := by omega
    have k1 : (n : Int) ≤ (l.length : Int) := by omega
    have k2 : (l.length : Int) ≤ (cp : Int) := by omega
    have hlz : (l.drop n).length = l.length - n := List.length_drop
    by_cases hcn : cp = n
    · obtain rfl : cp = l.length := by omega
      have HC := Lib.hid (clone_some w1 b o 0 [] (bytes_done (HM.out.ext e1)) (by simp))
      have HN := Lib.hid hcn
      have hd : l.drop n = [] := List.drop_eq_nil_of_le (by omega)
      have HD := Lib.hid hd
      clear hT e1 B1 hlz hd
      subst hcn
      go_wp2_with fail
      refine HC.out.mono ?_
      rintro e w2 ⟨v2, rfl, own2, e2⟩
      obtain ⟨q2, c2, hv2, _⟩ := own_bytes own2
      subst hv2
      have B2 := HB1.out.ext e2
      have b0 := B2.cell 0
      have b1 := B2.cell 1
      have b2 := B2.cell 2
      have z0 := B2.frozen 0
      have z2 := B2.frozen 2
      simp only [List.getElem?_toArray, List.getElem?_cons_zero, List.getElem?_cons_succ] at b0 b1 b2
      have E2 := Lib.hid (E1.out.trans e2)
      have HT2 := Lib.hid (HTX.out.low (fun b o x _ hc => e2.cell hc))
      have HB2 := Lib.hid B2
      have HO2 := Lib.hid (own_base own2 (Nat.le_trans hbb E1.out.le))
      clear own2 e2 B2 HC E1 HB1 HTX
      have hg2 : base ≤ w2.heap.size := Nat.le_trans hbb E2.out.le
      go_wp2_with fail
      go_ret2
      refine NextE.ok rfl ((Only.of_ext E2.out).set 0 _) ⟨_, rfl, HT2.out.low (fun b o x hb hc => by rw [cell_far (by omega)]; exact hc), ⟨⟨_, by simpa using HB2.out.set_ 0 (.slice q2 0 c2), by rw [HD.out]; exact own_set HO2.out hgb⟩, hgb, by rw [World.size_setCell]; exact hg2⟩⟩
    · have hcn' : ¬ n = cp := fun e => hcn e.symm
      have HC := clone_some w1 b (o + n) (cp - n) (l.drop n) (bytes_drop (HM.out.ext e1) n hn) (by omega)
      rw [hlz] at HC
      have HCC := Lib.hid HC
      clear hT e1 B1 hlz HC
      go_wp2_with fail
      refine HCC.out.mono ?_
      rintro e w2 ⟨v2, rfl, own2, e2⟩
      obtain ⟨q2, c2, hv2, _⟩ := own_bytes own2
      rw [List.length_drop] at hv2
      subst hv2
      have B2 := HB1.out.ext e2
      have b0 := B2.cell 0
      have b1 := B2.cell 1
      have b2 := B2.cell 2
      have z0 := B2.frozen 0
      have z2 := B2.frozen 2
      simp only [List.getElem?_toArray, List.getElem?_cons_zero, List.getElem?_cons_succ] at b0 b1 b2
      have E2 := Lib.hid (E1.out.trans e2)
      have HT2 := Lib.hid (HTX.out.low (fun b o x _ hc => e2.cell hc))
      have HB2 := Lib.hid B2
      have HO2 := Lib.hid (own_base own2 (Nat.le_trans hbb E1.out.le))
      clear own2 e2 B2 HCC E1 HB1 HTX
      have hg2 : base ≤ w2.heap.size := Nat.le_trans hbb E2.out.le
      go_wp2_with fail
      go_ret2
      refine NextE.ok rfl ((Only.of_ext E2.out).set 0 _) ⟨_, rfl, HT2.out.low (fun b o x hb hc => by rw [cell_far (by omega)]; exact hc), ⟨⟨_, by simpa using HB2.out.set_ 0 (.slice q2 (l.length - n) c2), own_set HO2.out hgb⟩, hgb, by rw [World.size_setCell]; exact hg2⟩⟩
set_option maxRecDepth 100000 in
set_option maxHeartbeats 2000000 in
theorem next_none (w : World) (base g : Nat) (h : RdAt w base g [] 0) (hb : Blk w g 95 #[.slice none 0 0, .bool true, .int .i64 0]) :
    Calls Tryd.prog 26 #[.pointer (some ⟨g, 0, none⟩)] w (NextE w base g [] (.error 130)) := by
  have hm : BytesAt w none 0 [] := ⟨fun k hk => absurd hk (by simp), by simp, .inl ⟨rfl, rfl⟩, ⟨Nat.le_refl _, by omega⟩⟩
  have HC := Lib.hid (parse_any w none 0 [] hm)
  have H := Lib.hid h
  have HB := Lib.hid hb
  have b0 := hb.cell 0
  have b1 := hb.cell 1
  have b2 := hb.cell 2
  simp only [List.getElem?_toArray, List.getElem?_cons_zero, List.getElem?_cons_succ] at b0 b1 b2
  have hgl := hb.lt
  have hgb := h.hg
  have hbb := h.hb
  have hsl : ∀ W, (Instr.slice 25 (.slice none 0 0) (some (.int .i64 0)) none none).run Tryd.prog W = .ok (.slice none 0 0) W := fun _ => by kernel_rfl
  clear h hb hm
  go_enter Tryd.func26, Tryd.ntmps26
  go_wp2_with fail
  refine HC.out.mono ?_
  clear HC
  intro e w1 hs
  obtain ⟨rfl, e1⟩ : e = .returned (.tuple #[.slice none 0 0, .int .i64 0, .int .i64 130]) ∧ Ext w w1 := hs
  have B1 := HB.out.ext e1
  have b0 := B1.cell 0
  have b1 := B1.cell 1
  have b2 := B1.cell 2
  have z0 := B1.frozen 0
  have z2 := B1.frozen 2
  simp only [List.getElem?_toArray, List.getElem?_cons_zero, List.getElem?_cons_succ] at b0 b1 b2
  have E1 := Lib.hid e1
  have HB1 := Lib.hid B1
  clear e1 B1
  go_wp2_with fail
  refine (clone_nil w1).mono ?_
  rintro e w2 ⟨rfl, rfl⟩
  go_wp2_with fail
  go_ret2
  refine NextE.err rfl ((Only.of_ext E1.out).set 0 _) ⟨rfl, ⟨⟨_, by simpa using HB1.out.set_ 0 (.slice none 0 0), own_set ⟨rfl, .inl ⟨rfl, rfl⟩⟩ hgb⟩, hgb, by rw [World.size_setCell]; exact Nat.le_trans hbb E1.out.le⟩⟩
theorem next_any (w : World) (base g : Nat) (l : List UInt8) (h : RdAt w base g l 0) (hlen : l.length ≤ 140737488355328) :
    Calls Tryd.prog 26 #[.pointer (some ⟨g, 0, none⟩)] w (NextE w base g l (parseS l)) := by
  obtain ⟨v, hb, ho⟩ := h.ex
  obtain ⟨q, c, hv, hm, _⟩ := own_bytes ho
  subst hv
  rcases hm.slot with ⟨rfl, rfl⟩ | ⟨b, o, rfl, _⟩
  · have hr := hm.room.1
    obtain rfl : l = [] := List.eq_nil_of_length_eq_zero (by omega)
    exact next_none w base g h hb
  · exact next_some w base g l b o c h hb hm hlen
end Go.Proofs.YtopdgmchkoaeeaaDoor
