/- The document's list: behind its sign. -/
import Derived.Test.YtopdgmchkoaeeaaDoorReH
import Derived.Test.YtopdgmchkoaeeaaDoorRsM
import Derived.Deep.AppendLies
namespace Go.Proofs.YtopdgmchkoaeeaaDoor
open Go.RowKit
set_option linter.unusedVariables false
set_option linter.unusedSimpArgs false

theorem rappend_one (w : World) (ty : TypeId) (base : Nat) (v : Value) (k : Nat) (xs : List Value) (ho : w.ownsRow base 41 4 v k xs) (a : Nat) (r0 r1 r2 r3 : Value) (hb : Blk w a 41 #[r0, r1, r2, r3]) (h1 : ∀ u ∈ [r0, r1, r2, r3], u.oneCell' = true) (hk : k ≤ 100000) (hbase : base ≤ w.heap.size) :
    ∃ g cap w', (Builtin.append_ #[39, 39] ty #[v, .slice (some ⟨a, 0, none⟩) 1 1]).run Tryd.prog w = .ok (.slice (some ⟨g, 0, none⟩) (k + 1) cap) w' ∧ w'.ownsRow base 41 4 (.slice (some ⟨g, 0, none⟩) (k + 1) cap) (k + 1) (xs ++ [r0, r1, r2, r3]) ∧ w.grownBy w' v.ownBlock ∧ (v.ownBlock = some g ∨ g = w.heap.size) := by
  obtain ⟨i0, hi, hz0, hz1, hz2⟩ := info_parts infoRep
  obtain ⟨g, cap, w', h2, h3, h4, h5, _⟩ := run_append_lies (P := Tryd.prog) w 39 ty base 41 i0 _ 4 56 Tryd.underlying39 hi hz0 hz1 hz2 rfl (by omega) v k xs ho ⟨a, 0, none⟩ 1 1 [r0, r1, r2, r3] rfl (World.news_of_block (cs := #[r0, r1, r2, r3]) (fr := (0, 0)) hb) h1 (by omega) (by unfold maxLen; omega) (by omega) hbase _ rfl
  exact ⟨g, cap, w', h2, h3, h4, h5⟩
/-- Where list stands at the head of its loop. -/
structure RLsAt (w wr : World) (g : Nat) (s : ByteArray) (d N k : Nat) (lv : Value) (xs : List (Rep × Value)) (st : St) (r : Except Int (Rep × St)) : Prop where
  only : Only g w wr
  inn : RBlk wr g s st.p 0 st.texts st.items
  res : Blk wr w.heap.size 41 #[.int .i64 0, .int .i64 0, .string ⟨#[]⟩, .slice none 0 0]
  box : Blk wr (w.heap.size + 1) 41 #[.int .i64 5, .int .i64 0, .string ⟨#[]⟩, lv]
  own : wr.ownsRow (w.heap.size + 2) 41 4 lv k (xs.flatMap rowR)
  subs : ∀ x ∈ xs, ListAt (fun b => w.heap.size + 2 ≤ b ∧ ∀ y, lv.ownBlock = some y → b ≠ y) wr d x.2 x.1.l
  base : w.heap.size + 2 ≤ wr.heap.size
  len : xs.length = k
  pl : st.p ≤ s.size
  tl : st.texts ≤ 1048576
  il : st.items ≤ 65536
  spec : r = (repsS (replyS s.data.toList d) (N - k) st).map (fun y => (.mk 5 0 ⟨#[]⟩ (xs.map (·.1) ++ y.1), y.2))
/-- A thing has ended it. -/
structure RLbad (w wr : World) (g : Nat) (s : ByteArray) (lv : Value) (c : Int) : Prop where
  inn : RefAt wr g s 0 0 (.error c)
  only : Only g w wr
  res : Blk wr w.heap.size 41 #[.int .i64 0, .int .i64 0, .string ⟨#[]⟩, .slice none 0 0]
  box : Blk wr (w.heap.size + 1) 41 #[.int .i64 5, .int .i64 0, .string ⟨#[]⟩, lv]
  lst : ∃ q m cc, lv = .slice q m cc
def RLoop (w wr : World) (g : Nat) (s : ByteArray) (d N k : Nat) (r : Except Int (Rep × St)) : Prop :=
  (∃ lv xs st, RLsAt w wr g s d N k lv xs st r) ∨ (∃ c lv, r = .error c ∧ RLbad w wr g s lv c)
theorem RLsAt.next {w wr : World} {g : Nat} {s : ByteArray} {d N k : Nat} {lv : Value} {xs : List (Rep × Value)} {st : St} {r : Except Int (Rep × St)} (hg : g < w.heap.size)
    (H : RLsAt w wr g s d N k lv xs st r) (hk : k < N) {x : Rep} {s' : St} (hx : replyS s.data.toList d st = .ok (x, s')) {w4 w5 : World} {lv0 : Value} {gg gcap : Nat} {o : Obj} (O4 : Only g wr w4) (hv : ListAt (fun b => wr.heap.size ≤ b) w4 d lv0 x.l)
    (I4 : RBlk w4 g s s'.p 0 s'.texts s'.items) (OW : w5.ownsRow (w.heap.size + 2) 41 4 (.slice (some ⟨gg, 0, none⟩) (k + 1) gcap) (k + 1) (xs.flatMap rowR ++ rowR (x, lv0)))
    (G5 : (w4.alloc o).grownBy w5 lv.ownBlock) (hat : lv.ownBlock = some gg ∨ gg = w4.heap.size + 1) :
    RLsAt w (w5.setCell ⟨w.heap.size + 1, 3, none⟩ (.slice (some ⟨gg, 0, none⟩) (k + 1) gcap)) g s d N (k + 1) (.slice (some ⟨gg, 0, none⟩) (k + 1) gcap) (xs ++ [(x, lv0)]) s' r := by
  have hrow := H.own.lt
  have h4 := O4.le
  have h5 := G5.size
  rw [size_alloc] at h5
  have hb := H.base
  have hrow' : ∀ y, lv.ownBlock = some y → w.heap.size + 2 ≤ y := fun y hy => (hrow y hy).1
  have O5 : Only g w w5 := ((H.only.trans O4).alloc o).grown G5 (fun y hy => by have := hrow' y hy; omega)
  have hpos := reply_pos H.pl hx
  have cell5 : ∀ b' o' v, w.heap.size + 2 ≤ b' → (∀ y, lv.ownBlock = some y → b' ≠ y) → w4.cell? ⟨b', o', none⟩ = some v → (w5.setCell ⟨w.heap.size + 1, 3, none⟩ (.slice (some ⟨gg, 0, none⟩) (k + 1) gcap)).cell? ⟨b', o', none⟩ = some v := fun b' o' v h1 h2 h3 => by
    have hlt := cell_lt h3
    simp only at hlt
    rw [cell_far (by omega), G5.cell_far ⟨b', o', none⟩ (by rw [size_alloc]; show b' < _; omega) (fun e => h2 b' e.symm rfl)]
    exact ((Ext.refl w4).alloc o).cell h3
  refine ⟨O5.setCell (.inr (by show w.heap.size ≤ w.heap.size + 1; omega)) _, ?_, ?_, ?_, own_set (by simpa [List.flatMap_append] using OW) (by omega), ?_, ?_, by simp [H.len], hpos.1, by have := H.tl; omega, by have := H.il; omega, ?_⟩
  · exact ((I4.alloc o).grown G5 (fun y hy => by have := hrow' y hy; omega)).far (by show g ≠ w.heap.size + 1; omega) _
  · exact (((H.res.only O4 (by omega)).alloc o).grown G5 (fun y hy => by have := hrow' y hy; omega)).far (by show w.heap.size ≠ w.heap.size + 1; omega) _
  · simpa using (((H.box.only O4 (by omega)).alloc o).grown G5 (fun y hy => by have := hrow' y hy; omega)).set_ 3 (.slice (some ⟨gg, 0, none⟩) (k + 1) gcap)
  · intro y hy
    rcases List.mem_append.mp hy with hy | hy
    · refine (H.subs y hy).keep (fun b' o' v hok hc => cell5 b' o' v hok.1 hok.2 (O4.cell (by have := hok.1; omega) hc)) (fun b' hlt hok => ⟨hok.1, fun z hz => ?_⟩)
      obtain rfl : gg = z := by injection hz
      rcases hat with hat | hat
      · exact hok.2 _ hat
      · omega
    · obtain rfl : y = (x, lv0) := by simpa using hy
      refine hv.keep (fun b' o' v hok hc => cell5 b' o' v (by omega) (fun z hz => by have := (hrow z hz).2; omega) hc) (fun b' hlt hok => ⟨by omega, fun z hz => ?_⟩)
      obtain rfl : gg = z := by injection hz
      rcases hat with hat | hat
      · have := (hrow _ hat).2; omega
      · omega
  · have : (w5.setCell ⟨w.heap.size + 1, 3, none⟩ (.slice (some ⟨gg, 0, none⟩) (k + 1) gcap)).heap.size = w5.heap.size := World.size_setCell _ _ _
    omega
  · have S := H.spec
    rw [show N - k = (N - (k + 1)) + 1 by omega] at S
    simp only [repsS, hx] at S
    rw [S, map_three]
    simp
theorem RLsAt.fails {w wr : World} {g : Nat} {s : ByteArray} {d N k : Nat} {lv : Value} {xs : List (Rep × Value)} {st : St} {r : Except Int (Rep × St)} (H : RLsAt w wr g s d N k lv xs st r) (hk : k < N) {c : Int} (hx : replyS s.data.toList d st = .error c) : r = .error c := by
  have S := H.spec
  rw [show N - k = (N - (k + 1)) + 1 by omega] at S
  simp only [repsS, hx] at S
  exact S
theorem RLsAt.bad {w wr : World} {g : Nat} {s : ByteArray} {d N k : Nat} {lv : Value} {xs : List (Rep × Value)} {st : St} {r : Except Int (Rep × St)} (hg : g < w.heap.size)
    (H : RLsAt w wr g s d N k lv xs st r) {c : Int} {w4 w5 : World} {gg gcap : Nat} {o : Obj} (O4 : Only g wr w4)
    (I4 : RefAt w4 g s 0 0 (.error c)) (G5 : (w4.alloc o).grownBy w5 lv.ownBlock) :
    RLbad w (w5.setCell ⟨w.heap.size + 1, 3, none⟩ (.slice (some ⟨gg, 0, none⟩) (k + 1) gcap)) g s (.slice (some ⟨gg, 0, none⟩) (k + 1) gcap) c := by
  have hrow := H.own.lt
  have h4 := O4.le
  have h5 := G5.size
  rw [size_alloc] at h5
  have hb := H.base
  have hrow' : ∀ y, lv.ownBlock = some y → w.heap.size + 2 ≤ y := fun y hy => (hrow y hy).1
  have O5 : Only g w w5 := ((H.only.trans O4).alloc o).grown G5 (fun y hy => by have := hrow' y hy; omega)
  obtain ⟨hc, p', t', i', hI⟩ := I4
  refine ⟨⟨hc, p', t', i', ?_⟩, O5.setCell (.inr (by show w.heap.size ≤ w.heap.size + 1; omega)) _, ?_, ?_, _, _, _, rfl⟩
  · exact ((hI.alloc o).grown G5 (fun y hy => by have := hrow' y hy; omega)).far (by show g ≠ w.heap.size + 1; omega) _
  · exact (((H.res.only O4 (by omega)).alloc o).grown G5 (fun y hy => by have := hrow' y hy; omega)).far (by show w.heap.size ≠ w.heap.size + 1; omega) _
  · simpa using (((H.box.only O4 (by omega)).alloc o).grown G5 (fun y hy => by have := hrow' y hy; omega)).set_ 3 (.slice (some ⟨gg, 0, none⟩) (k + 1) gcap)
theorem RLsAt.ends {w wr : World} {g : Nat} {s : ByteArray} {d N : Nat} {lv : Value} {xs : List (Rep × Value)} {st : St} {r : Except Int (Rep × St)} (H : RLsAt w wr g s d N N lv xs st r) :
    r = .ok (.mk 5 0 ⟨#[]⟩ (xs.map (·.1)), st) ∧ ListAt (fun b => w.heap.size + 2 ≤ b) wr (d + 1) lv (xs.map (·.1)) := by
  refine ⟨?_, ?_⟩
  · have S := H.spec
    rw [Nat.sub_self] at S
    simpa [repsS, Except.map] using S
  · obtain ⟨_, ⟨rfl, h0⟩ | ⟨gg, c2, cur, rfl, hb, hh, hnc, hcap, hsz, htk⟩⟩ := H.own
    · have hl := H.len
      exact ⟨none, 0, by simp [hl, h0], fun h => by simp [hl] at h; omega⟩
    · have hl := H.len
      refine ⟨_, c2, by simp [hl], fun h => ⟨gg, 0, rfl, hb, fun j hj => ?_⟩⟩
      have hj' : j < xs.length := by simpa using hj
      have at4 : ∀ k' (hk' : k' < 4), wr.cell? ⟨gg, 0 + j * 4 + k', none⟩ = (rowR xs[j])[k']? := fun k' hk' => by
        have h1 := rows_at xs j hj' k' hk'
        have h2 : ∃ u, (rowR xs[j])[k']? = some u := ⟨_, List.getElem?_eq_getElem (by simpa [rowR] using hk')⟩
        obtain ⟨u, hu⟩ := h2
        have h3 := H.own.cells (g := gg) rfl (j * 4 + k') u (by rw [h1, hu])
        have e : ((⟨gg, 0, none⟩ : Addr).add (j * 4 + k')) = ⟨gg, 0 + j * 4 + k', none⟩ := by unfold Addr.add; split <;> simp_all [Nat.add_assoc]
        rw [e] at h3
        rw [h3, hu]
      have g0 := at4 0 (by omega)
      have g1 := at4 1 (by omega)
      have g2 := at4 2 (by omega)
      have g3 := at4 3 (by omega)
      simp only [rowR, List.getElem?_cons_zero, List.getElem?_cons_succ, Nat.add_zero] at g0 g1 g2 g3
      simp only [List.getElem_map]
      exact ⟨g0, g1, g2, _, g3, (H.subs _ (List.getElem_mem hj')).keep (fun _ _ _ _ h => h) (fun _ _ h => h.1)⟩
theorem RLsAt.start {w w0 wr : World} {g : Nat} {s : ByteArray} {d N : Nat} {p t i : Nat} {j : Int} {r : Except Int (Rep × St)} (hg : g < w.heap.size) (O : Only g w w0) (I : RBlk w0 g s p 0 t j)
    (R : Blk w0 w.heap.size 41 #[.int .i64 0, .int .i64 0, .string ⟨#[]⟩, .slice none 0 0]) (X : Blk w0 (w.heap.size + 1) 41 #[.int .i64 5, .int .i64 0, .string ⟨#[]⟩, .slice none 0 0])
    (hj : j - (N : Int) = (i : Int)) (hp : p ≤ s.size) (ht : t ≤ 1048576) (hi : i ≤ 65536) (hr : (repsS (replyS s.data.toList d) N ⟨p, t, i⟩).map (fun x => (Rep.mk 5 0 ⟨#[]⟩ x.1, x.2)) = r) :
    RLsAt w (w0.setCell ⟨g, 4, none⟩ (.int .i64 (j - (N : Int)))) g s d N 0 (.slice none 0 0) [] ⟨p, t, i⟩ r := by
  have hX := X.lt
  refine ⟨O.set 4 _, ?_, R.far (by show w.heap.size ≠ g; omega) _, X.far (by show w.heap.size + 1 ≠ g; omega) _, ⟨rfl, .inl ⟨rfl, rfl⟩⟩, fun x hx => by simp at hx, ?_, rfl, hp, ht, hi, ?_⟩
  · rw [hj]; exact rblk_items I _
  · rw [World.size_setCell]; omega
  · rw [← hr]
    simp only [Nat.sub_zero]
    cases repsS (replyS s.data.toList d) N ⟨p, t, i⟩ <;> simp [Except.map]
set_option maxRecDepth 100000 in
set_option maxHeartbeats 4000000 in
theorem rlist_zero (w : World) (g : Nat) (s : ByteArray) (p : Nat) (t i D : Nat) (h : RBlk w g s p 0 t i) (hi : i ≤ 65536) :
    Calls Tryd.prog 72 #[.pointer (some ⟨g, 0, none⟩), .int .i64 0] w (RRepE w g s D (.error 131)) := by
  have HG := Lib.hid h.lt
  have HI := Lib.hid hi
  have hF := fun W (hE : Ext w W) => fail_ok 131 W g s p t i (h.ext hE)
  have HF := Lib.hid hF
  have E0 : Hid (Ext w ((w.alloc (.cells #[.int .i64 0, .int .i64 0, .string ⟨#[]⟩, .slice none 0 0] 41)).alloc (.cells #[.int .i64 5, .int .i64 0, .string ⟨#[]⟩, .slice none 0 0] 41))) := Lib.hid (((Ext.refl w).alloc _).alloc _)
  have R0 : Hid (Blk ((w.alloc (.cells #[.int .i64 0, .int .i64 0, .string ⟨#[]⟩, .slice none 0 0] 41)).alloc (.cells #[.int .i64 5, .int .i64 0, .string ⟨#[]⟩, .slice none 0 0] 41)) w.heap.size 41 #[.int .i64 0, .int .i64 0, .string ⟨#[]⟩, .slice none 0 0]) := Lib.hid ((Blk.new w _ _).alloc _)
  have X0 : Hid (Blk ((w.alloc (.cells #[.int .i64 0, .int .i64 0, .string ⟨#[]⟩, .slice none 0 0] 41)).alloc (.cells #[.int .i64 5, .int .i64 0, .string ⟨#[]⟩, .slice none 0 0] 41)) (w.heap.size + 1) 41 #[.int .i64 5, .int .i64 0, .string ⟨#[]⟩, .slice none 0 0]) := Lib.hid (by
    have := Blk.new (w.alloc (.cells #[.int .i64 0, .int .i64 0, .string ⟨#[]⟩, .slice none 0 0] 41)) 41 #[.int .i64 5, .int .i64 0, .string ⟨#[]⟩, .slice none 0 0]
    rwa [size_alloc] at this)
  clear h hF hi
  go_enter Tryd.func72, Tryd.ntmps72
  go_wp2_with fail
  generalize (w.alloc (.cells #[.int .i64 0, .int .i64 0, .string ⟨#[]⟩, .slice none 0 0] 41)).alloc (.cells #[.int .i64 5, .int .i64 0, .string ⟨#[]⟩, .slice none 0 0] 41) = w0 at E0 R0 X0 ⊢
  refine (HF.out _ E0.out).mono ?_
  rintro e w1 ⟨rfl, b1, o1⟩
  have c4 := b1.cell 4
  simp only [List.getElem?_toArray, List.getElem?_cons_zero, List.getElem?_cons_succ] at c4
  have hd : Calls Tryd.prog 47 #[.pointer (some ⟨g, 0, none⟩), .int .u64 0, .int .i64 0, .int .u64 0, .int .u64 (i : Int)] w1 fun e w' => e = .returned (.int .u64 0) ∧ w1 = w' := (digits_bad 0 0 0 i w1 g s t i 131 ⟨by decide, _, _, _, b1⟩ (by omega)).mono fun _ _ h => ⟨h.1, h.2.symm⟩
  have HD := Lib.hid hd
  have hwi : IntKind.u64.wrap (i : Int) = (i : Int) := IntWalk.u64_in _ (by have := HI.out; omega)
  have c2 := b1.cell 2
  have z4 := b1.frozen 4
  simp only [List.getElem?_toArray, List.getElem?_cons_zero, List.getElem?_cons_succ] at c2
  have HO := Lib.hid (((Only.of_ext E0.out).trans o1).set 4 (.int .i64 ((i : Int) - 0)))
  have HRES := Lib.hid ((R0.out.only o1 (by have := HG.out; omega)).far (p := ⟨g, 4, none⟩) (by show w.heap.size ≠ g; have := HG.out; omega) (.int .i64 (i : Int)))
  have HBOX := Lib.hid ((X0.out.only o1 (by have := HG.out; omega)).far (p := ⟨g, 4, none⟩) (by show w.heap.size + 1 ≠ g; have := HG.out; omega) (.int .i64 (i : Int)))
  have HB1 := Lib.hid (rblk_items b1 (i : Int))
  rw [Int.sub_zero] at HO
  have hi6 : i ≤ 65536 := HI.out
  clear b1 o1 HF R0 X0 E0 hd
  go_wp2_with fail
  refine HD.out.mono ?_
  rintro e w2 ⟨rfl, rfl⟩
  go_wp2_with fail
  generalize hw5 : w1.setCell ⟨g, 4, none⟩ (.int .i64 (i : Int)) = w5 at HO HRES HBOX HB1 ⊢
  clear hw5 c2 c4 z4
  have c2 := HB1.out.cell 2
  simp only [List.getElem?_toArray, List.getElem?_cons_zero, List.getElem?_cons_succ] at c2
  go_loopw [7] (fun v7 wr => v7 = .int .i64 0 ∧ wr = w5) (fun _ _ => 0)
  case atStart => exact ⟨rfl, rfl⟩
  case round =>
    obtain ⟨rfl, rfl⟩ := hrel
    have a0 := HBOX.out.cell 0
    have a1 := HBOX.out.cell 1
    have a2 := HBOX.out.cell 2
    have a3 := HBOX.out.cell 3
    have b0 := HRES.out.cell 0
    have b1 := HRES.out.cell 1
    have b2 := HRES.out.cell 2
    have b3 := HRES.out.cell 3
    have z0 := HRES.out.frozen 0
    have z1 := HRES.out.frozen 1
    have z2 := HRES.out.frozen 2
    have z3 := HRES.out.frozen 3
    simp only [List.getElem?_toArray, List.getElem?_cons_zero, List.getElem?_cons_succ] at a0 a1 a2 a3 b0 b1 b2 b3
    go_wp2_with fail
    have R := rput4 HO.out (Nat.le_refl _) HG.out HRES.out (.int .i64 5) (.int .i64 0) (.string ⟨#[]⟩) (.slice none 0 0)
    generalize ((((wr.setCell ⟨w.heap.size, 0, none⟩ (.int .i64 5)).setCell ⟨w.heap.size, 1, none⟩ (.int .i64 0)).setCell ⟨w.heap.size, 2, none⟩ (.string ⟨#[]⟩)).setCell ⟨w.heap.size, 3, none⟩ (.slice none 0 0)) = w9 at R ⊢
    obtain ⟨O9, B9, R9⟩ := R
    have f0 := R9.cell 0
    have f1 := R9.cell 1
    have f2 := R9.cell 2
    have f3 := R9.cell 3
    simp only [List.getElem?_toArray, List.getElem?_cons_zero, List.getElem?_cons_succ] at f0 f1 f2 f3
    refine bodyPost_ret (v := .agg #[.int .i64 5, .int .i64 0, .string ⟨#[]⟩, .slice none 0 0]) (by simp [results, Tryd.results72, go_sem, f0, f1, f2, f3]) rfl ⟨O9, 5, 0, ⟨#[]⟩, _, rfl, ⟨_, _, _, rfl⟩, ?_⟩
    exact ⟨by decide, _, _, _, B9 _ _ HB1.out⟩
set_option maxRecDepth 100000 in
set_option maxHeartbeats 8000000 in
theorem rlist_any (w : World) (g : Nat) (s : ByteArray) (d p t i : Nat) (E : Int) (h : RBlk w g s p 0 t i) (hp : p ≤ s.size) (hs : s.size ≤ 9223372036854775000) (ht : t ≤ 1048576) (hi : i ≤ 65536) (hE1 : 1 ≤ E) (hE2 : E ≤ 1000)
    (hsub : ∀ (W : World) (p t i : Nat), RBlk W g s p 0 t i → p ≤ s.size → t ≤ 1048576 → i ≤ 65536 → Calls Tryd.prog 51 #[.pointer (some ⟨g, 0, none⟩), .int .i64 (E - 1)] W (RRepE W g s d (replyS s.data.toList d ⟨p, t, i⟩))) :
    Calls Tryd.prog 72 #[.pointer (some ⟨g, 0, none⟩), .int .i64 E] w (RRepE w g s (d + 1) (listS s.data.toList (replyS s.data.toList d) ⟨p, t, i⟩)) := by
  obtain ⟨r, hr⟩ : ∃ r, listS s.data.toList (replyS s.data.toList d) ⟨p, t, i⟩ = r := ⟨_, rfl⟩
  rw [hr]
  unfold listS at hr
  simp only at hr
  have HR := Lib.hid hr
  have HG := Lib.hid h.lt
  have HI := Lib.hid hi
  have HT := Lib.hid ht
  have HS := Lib.hid hs
  have HP := Lib.hid hp
  have HSUB := Lib.hid hsub
  have HL := Lib.hid (show s.data.toList.length = s.size from rfl)
  have hD := fun (W : World) (hE : Ext w W) => digits_any 0 0 0 i W g s p t i (h.ext hE) (by omega) (by omega) hs (by omega) (by omega)
  have HD := Lib.hid hD
  have hE0 : (E == 0) = false := beq_eq_false_iff_ne.2 (by omega)
  have c4 := h.cell 4
  simp only [List.getElem?_toArray, List.getElem?_cons_zero, List.getElem?_cons_succ] at c4
  have hwi : IntKind.u64.wrap (i : Int) = (i : Int) := IntWalk.u64_in _ (by omega)
  have E0 : Hid (Ext w ((w.alloc (.cells #[.int .i64 0, .int .i64 0, .string ⟨#[]⟩, .slice none 0 0] 41)).alloc (.cells #[.int .i64 5, .int .i64 0, .string ⟨#[]⟩, .slice none 0 0] 41))) := Lib.hid (((Ext.refl w).alloc _).alloc _)
  have R0 : Hid (Blk ((w.alloc (.cells #[.int .i64 0, .int .i64 0, .string ⟨#[]⟩, .slice none 0 0] 41)).alloc (.cells #[.int .i64 5, .int .i64 0, .string ⟨#[]⟩, .slice none 0 0] 41)) w.heap.size 41 #[.int .i64 0, .int .i64 0, .string ⟨#[]⟩, .slice none 0 0]) := Lib.hid ((Blk.new w _ _).alloc _)
  have X0 : Hid (Blk ((w.alloc (.cells #[.int .i64 0, .int .i64 0, .string ⟨#[]⟩, .slice none 0 0] 41)).alloc (.cells #[.int .i64 5, .int .i64 0, .string ⟨#[]⟩, .slice none 0 0] 41)) (w.heap.size + 1) 41 #[.int .i64 5, .int .i64 0, .string ⟨#[]⟩, .slice none 0 0]) := Lib.hid (by
    have := Blk.new (w.alloc (.cells #[.int .i64 0, .int .i64 0, .string ⟨#[]⟩, .slice none 0 0] 41)) 41 #[.int .i64 5, .int .i64 0, .string ⟨#[]⟩, .slice none 0 0]
    rwa [size_alloc] at this)
  have S0 : Hid (w.heap.size + 2 ≤ ((w.alloc (.cells #[.int .i64 0, .int .i64 0, .string ⟨#[]⟩, .slice none 0 0] 41)).alloc (.cells #[.int .i64 5, .int .i64 0, .string ⟨#[]⟩, .slice none 0 0] 41)).heap.size) := Lib.hid (by rw [size_alloc, size_alloc]; omega)
  clear h hr hsub hD hp hs ht hi
  go_enter Tryd.func72, Tryd.ntmps72
  have c4 : ((w.alloc (.cells #[.int .i64 0, .int .i64 0, .string ⟨#[]⟩, .slice none 0 0] 41)).alloc (.cells #[.int .i64 5, .int .i64 0, .string ⟨#[]⟩, .slice none 0 0] 41)).cell? ⟨g, 4, none⟩ = some (.int .i64 (i : Int)) := E0.out.cell c4
  go_wp2_with fail
  have hd0 : Calls Tryd.prog 47 #[.pointer (some ⟨g, 0, none⟩), .int .u64 0, .int .i64 0, .int .u64 0, .int .u64 (i : Int)] ((w.alloc (.cells #[.int .i64 0, .int .i64 0, .string ⟨#[]⟩, .slice none 0 0] 41)).alloc (.cells #[.int .i64 5, .int .i64 0, .string ⟨#[]⟩, .slice none 0 0] 41)) (DigE ((w.alloc (.cells #[.int .i64 0, .int .i64 0, .string ⟨#[]⟩, .slice none 0 0] 41)).alloc (.cells #[.int .i64 5, .int .i64 0, .string ⟨#[]⟩, .slice none 0 0] 41)) g s t i (numS s.data.toList 0 i (s.data.toList.length - p) 0 0 p)) := HD.out _ E0.out
  generalize (w.alloc (.cells #[.int .i64 0, .int .i64 0, .string ⟨#[]⟩, .slice none 0 0] 41)).alloc (.cells #[.int .i64 5, .int .i64 0, .string ⟨#[]⟩, .slice none 0 0] 41) = w0 at E0 R0 X0 S0 hd0 ⊢
  refine hd0.mono ?_
  rintro e w2 ⟨o2, n, hn, rfl, hm⟩
  clear hd0 HD c4
  have HO2 := Lib.hid ((Only.of_ext (g := g) E0.out).trans o2)
  have HRES2 := Lib.hid (R0.out.only o2 (by have := HG.out; omega))
  have HBOX2 := Lib.hid (X0.out.only o2 (by have := HG.out; omega))
  have HS2 := Lib.hid (Nat.le_trans S0.out o2.le)
  clear o2 E0 R0 X0 S0
  have S := HR.out
  cases hsr : numS s.data.toList 0 i (s.data.toList.length - p) 0 0 p with
  | error c =>
    rw [hsr] at S hm
    have HM : Hid (RefAt w2 g s t i (.error c)) := Lib.hid hm
    have HE := Lib.hid S
    obtain ⟨hc, p', t', i', hb⟩ := hm
    have c4 := hb.cell 4
    have z4 := hb.frozen 4
    have hc0 : (c == 0) = false := by simpa using hc
    simp only [List.getElem?_toArray, List.getElem?_cons_zero, List.getElem?_cons_succ] at c4
    have HC := Lib.hid hc
    have HB := Lib.hid hb
    clear S hsr HR hb hc HP HSUB hE0
    generalize hN : IntKind.i64.wrap (n : Int) = N
    go_wp2_with fail
    generalize wrap64 (i' - N) = J
    have HB3 := Lib.hid (rblk_items HB.out J)
    have HO3 := Lib.hid (HO2.out.set 4 (.int .i64 J))
    have HRES := Lib.hid (HRES2.out.far (p := ⟨g, 4, none⟩) (by show w.heap.size ≠ g; have := HG.out; omega) (.int .i64 J))
    have HBOX := Lib.hid (HBOX2.out.far (p := ⟨g, 4, none⟩) (by show w.heap.size + 1 ≠ g; have := HG.out; omega) (.int .i64 J))
    generalize hw5 : w2.setCell ⟨g, 4, none⟩ (.int .i64 J) = w5 at HO3 HRES HBOX HB3 ⊢
    clear hw5 hN c4 z4 HO2 HRES2 HBOX2 HS2
    have c2 := HB3.out.cell 2
    simp only [List.getElem?_toArray, List.getElem?_cons_zero, List.getElem?_cons_succ] at c2
    go_loopw [7] (fun v7 wr => v7 = .int .i64 0 ∧ wr = w5) (fun _ _ => 0)
    case atStart => exact ⟨rfl, rfl⟩
    case round =>
      obtain ⟨rfl, rfl⟩ := hrel
      by_cases h0 : 0 < N
      · have d0 : decide (0 < N) = true := decide_eq_true h0
        clear h0
        have a0 := HBOX.out.cell 0
        have a1 := HBOX.out.cell 1
        have a2 := HBOX.out.cell 2
        have a3 := HBOX.out.cell 3
        have b0 := HRES.out.cell 0
        have b1 := HRES.out.cell 1
        have b2 := HRES.out.cell 2
        have b3 := HRES.out.cell 3
        have z0 := HRES.out.frozen 0
        have z1 := HRES.out.frozen 1
        have z2 := HRES.out.frozen 2
        have z3 := HRES.out.frozen 3
        simp only [List.getElem?_toArray, List.getElem?_cons_zero, List.getElem?_cons_succ] at a0 a1 a2 a3 b0 b1 b2 b3
        go_wp2_with fail
        have R := rput4 HO3.out (Nat.le_refl _) HG.out HRES.out (.int .i64 5) (.int .i64 0) (.string ⟨#[]⟩) (.slice none 0 0)
        generalize ((((wr.setCell ⟨w.heap.size, 0, none⟩ (.int .i64 5)).setCell ⟨w.heap.size, 1, none⟩ (.int .i64 0)).setCell ⟨w.heap.size, 2, none⟩ (.string ⟨#[]⟩)).setCell ⟨w.heap.size, 3, none⟩ (.slice none 0 0)) = w9 at R ⊢
        obtain ⟨O9, B9, R9⟩ := R
        have f0 := R9.cell 0
        have f1 := R9.cell 1
        have f2 := R9.cell 2
        have f3 := R9.cell 3
        simp only [List.getElem?_toArray, List.getElem?_cons_zero, List.getElem?_cons_succ] at f0 f1 f2 f3
        refine bodyPost_ret (v := .agg #[.int .i64 5, .int .i64 0, .string ⟨#[]⟩, .slice none 0 0]) (by simp [results, Tryd.results72, go_sem, f0, f1, f2, f3]) rfl ⟨O9, 5, 0, ⟨#[]⟩, _, rfl, ⟨_, _, _, rfl⟩, ?_⟩
        rw [← HE.out]
        exact ⟨HC.out, _, _, _, B9 _ _ HB3.out⟩
      · have d0 : decide (0 < N) = false := decide_eq_false h0
        clear h0
        have a0 := HBOX.out.cell 0
        have a1 := HBOX.out.cell 1
        have a2 := HBOX.out.cell 2
        have a3 := HBOX.out.cell 3
        have b0 := HRES.out.cell 0
        have b1 := HRES.out.cell 1
        have b2 := HRES.out.cell 2
        have b3 := HRES.out.cell 3
        have z0 := HRES.out.frozen 0
        have z1 := HRES.out.frozen 1
        have z2 := HRES.out.frozen 2
        have z3 := HRES.out.frozen 3
        simp only [List.getElem?_toArray, List.getElem?_cons_zero, List.getElem?_cons_succ] at a0 a1 a2 a3 b0 b1 b2 b3
        go_wp2_with fail
        have R := rput4 HO3.out (Nat.le_refl _) HG.out HRES.out (.int .i64 5) (.int .i64 0) (.string ⟨#[]⟩) (.slice none 0 0)
        generalize ((((wr.setCell ⟨w.heap.size, 0, none⟩ (.int .i64 5)).setCell ⟨w.heap.size, 1, none⟩ (.int .i64 0)).setCell ⟨w.heap.size, 2, none⟩ (.string ⟨#[]⟩)).setCell ⟨w.heap.size, 3, none⟩ (.slice none 0 0)) = w9 at R ⊢
        obtain ⟨O9, B9, R9⟩ := R
        have f0 := R9.cell 0
        have f1 := R9.cell 1
        have f2 := R9.cell 2
        have f3 := R9.cell 3
        simp only [List.getElem?_toArray, List.getElem?_cons_zero, List.getElem?_cons_succ] at f0 f1 f2 f3
        refine bodyPost_ret (v := .agg #[.int .i64 5, .int .i64 0, .string ⟨#[]⟩, .slice none 0 0]) (by simp [results, Tryd.results72, go_sem, f0, f1, f2, f3]) rfl ⟨O9, 5, 0, ⟨#[]⟩, _, rfl, ⟨_, _, _, rfl⟩, ?_⟩
        rw [← HE.out]
        exact ⟨HC.out, _, _, _, B9 _ _ HB3.out⟩
  | ok y =>
    obtain ⟨N, p2⟩ := y
    rw [hsr] at S hm
    obtain ⟨rfl, hb⟩ := hm
    simp only at S hb
    have hpos := num_pos _ _ _ _ _ (by have := HP.out; have := HL.out; omega) (by omega) hsr
    simp only at hpos
    have c4 := hb.cell 4
    have z4 := hb.frozen 4
    simp only [List.getElem?_toArray, List.getElem?_cons_zero, List.getElem?_cons_succ] at c4
    have hNi : n ≤ 65536 := by have := HI.out; omega
    have hni : n ≤ i := hpos.1
    have hii : i ≤ 65536 := HI.out
    have hwN : IntKind.i64.wrap (n : Int) = (n : Int) := IntWalk.i64_in _ (by omega)
    have hwS : IntKind.i64.wrap ((i : Int) - (n : Int)) = (i : Int) - (n : Int) := IntWalk.i64_in _ (by omega)
    have HLS : Hid (RLoop w (w2.setCell ⟨g, 4, none⟩ (.int .i64 ((i : Int) - (n : Int)))) g s d n 0 r) := Lib.hid (.inl ⟨_, _, _, RLsAt.start (i := i - n) (wr := w2) HG.out HO2.out hb HRES2.out HBOX2.out (by omega) (by have := hpos.2.2; have := HL.out; omega) HT.out (by omega) S⟩)
    clear S hsr HR hb hpos HRES2 HBOX2 HS2 HO2
    go_wp2_with fail
    generalize w2.setCell ⟨g, 4, none⟩ (.int .i64 ((i : Int) - (n : Int))) = w5 at HLS ⊢
    clear c4 z4 hwS hwN hni hii
    go_loopw [7] (fun v7 wr => ∃ k : Nat, v7 = .int .i64 k ∧ k ≤ n ∧ Hid (RLoop w wr g s d n k r)) (fun v7 _ => n - (intOf v7).toNat)
    case atStart => exact ⟨0, rfl, Nat.zero_le _, HLS⟩
    case round =>
      obtain ⟨k, rfl, hk, HX⟩ := hrel
      clear HLS
      rcases HX.out with ⟨lv, xs, st, hP⟩ | ⟨c, lv, hrc, hP⟩
      · have HPP := Lib.hid hP
        clear HX hP
        have c2 := HPP.out.inn.cell 2
        have x3 := HPP.out.box.cell 3
        simp only [List.getElem?_toArray, List.getElem?_cons_zero, List.getElem?_cons_succ] at c2 x3
        by_cases hkN : k < n
        · have d1 : decide ((k : Int) < (n : Int)) = true := decide_eq_true (by omega)
          have d1n : decide (k < n) = true := decide_eq_true hkN
          have HCS := Lib.hid (HSUB.out wr st.p st.texts st.items HPP.out.inn HPP.out.pl HPP.out.tl HPP.out.il)
          go_wp2_with fail
          refine HCS.out.mono ?_
          rintro e w4 ⟨o4, k', n', x', lv', rfl, ⟨q9, m9, c9, rfl⟩, hm⟩
          have HM := Lib.hid hm
          have O4 := Lib.hid o4
          have hXl := HPP.out.box.lt
          have hg := HG.out
          have hbase := HPP.out.base
          have b4 : w4.cell? ⟨w.heap.size + 1, 3, none⟩ = some lv := o4.cell (by omega) x3
          have z4 : w4.frozen? ⟨w.heap.size + 1, 3, none⟩ = false := (o4.cells.2 _ _ hXl (by omega)).trans (HPP.out.box.frozen 3)
          have hl4 : w.heap.size + 1 < w4.heap.size := Nat.lt_of_lt_of_le hXl o4.le
          have hn4 : ¬ w.heap.size + 1 = w4.heap.size := by omega
          have hn5 : ¬ w.heap.size + 1 = w4.heap.size + 1 := by omega
          have OW4 := own_ext (own_only HPP.out.own o4 (by omega)) (((Ext.refl w4).alloc (.cells #[.int .i64 k', .int .i64 n', .string x', .slice q9 m9 c9] 41)).alloc (.cells #[.int .i64 k', .int .i64 n', .string x', .slice q9 m9 c9] 41))
          have hrow := HPP.out.own.lt
          obtain ⟨gg, gcap, w5, hr5, ho5, hg5, hat⟩ := rappend_one _ 39 (w.heap.size + 2) lv k _ OW4 (w4.heap.size + 1) _ _ _ _ (new_at (by rw [size_alloc]) 41 #[.int .i64 k', .int .i64 n', .string x', .slice q9 m9 c9]) (by simp [Value.oneCell']) (by omega) (by rw [size_alloc, size_alloc]; omega)
          have b5 : w5.cell? ⟨w.heap.size + 1, 3, none⟩ = some lv := (hg5.cell_far _ (by rw [size_alloc, size_alloc]; show w.heap.size + 1 < _; omega) (fun e => by have h9 : w.heap.size + 2 ≤ w.heap.size + 1 := (hrow _ e.symm).1; omega)).trans ((((Ext.refl w4).alloc _).alloc _).cell b4)
          have z5 : w5.frozen? ⟨w.heap.size + 1, 3, none⟩ = false := (hg5.frozen_far _ (by rw [size_alloc, size_alloc]; show w.heap.size + 1 < _; omega) (fun e => by have h9 : w.heap.size + 2 ≤ w.heap.size + 1 := (hrow _ e.symm).1; omega)).trans (((Ext.cells (((Ext.refl w4).alloc _).alloc _)).2 _ _ hl4).trans z4)
          have HR5 := Lib.hid hr5
          have HO5 := Lib.hid ho5
          have HG5 := Lib.hid hg5
          have HAT := Lib.hid hat
          clear hm o4 OW4 hrow hr5 ho5 hg5 hat HCS c2 x3
          go_wp2_with (at_builtin; refine wpList_append_run rfl _ _ 39 rfl _ _ _ _ rfl rfl HR5.out ?_)
          have NX : Hid (RLoop w (w5.setCell ⟨w.heap.size + 1, 3, none⟩ (.slice (some ⟨gg, 0, none⟩) (k + 1) gcap)) g s d n (k + 1) r) := Lib.hid (by
            have M := HM.out
            cases hx : replyS s.data.toList d ⟨st.p, st.texts, st.items⟩ with
            | error c =>
              rw [hx] at M
              obtain ⟨hc, p', t', i', hb⟩ := M
              exact .inr ⟨c, _, HPP.out.fails hkN hx, HPP.out.bad HG.out (O4.out.alloc _) ⟨hc, p', t', i', hb.alloc _⟩ HG5.out⟩
            | ok y =>
              obtain ⟨x, s'⟩ := y
              rw [hx] at M
              obtain ⟨rfl, rfl, rfl, hv, hb⟩ := M
              exact .inl ⟨_, _, _, HPP.out.next HG.out hkN hx (O4.out.alloc _) (hv.ext ((Ext.refl _).alloc _)) (hb.alloc _) HO5.out HG5.out (by have := HAT.out; rw [size_alloc, size_alloc] at this; rw [size_alloc]; exact this)⟩)
          go_roundw
          case rel => exact ⟨k + 1, by go_num, by omega, NX⟩
          case measure => simp [intOf]; omega
        · have d1 : decide ((k : Int) < (n : Int)) = false := decide_eq_false (by omega)
          have d1n : decide (k < n) = false := decide_eq_false hkN
          obtain rfl : k = n := by omega
          obtain ⟨hr1, hL⟩ := HPP.out.ends
          obtain ⟨q9, c9, hv⟩ := hL.slice
          rw [List.length_map] at hv
          subst hv
          have HR1 := Lib.hid hr1
          have HLL := Lib.hid hL
          have HRES := Lib.hid HPP.out.res
          have HBOX := Lib.hid HPP.out.box
          have HO := Lib.hid HPP.out.only
          clear hr1 hL x3
          have a0 := HBOX.out.cell 0
          have a1 := HBOX.out.cell 1
          have a2 := HBOX.out.cell 2
          have a3 := HBOX.out.cell 3
          have b0 := HRES.out.cell 0
          have b1 := HRES.out.cell 1
          have b2 := HRES.out.cell 2
          have b3 := HRES.out.cell 3
          have z0 := HRES.out.frozen 0
          have z1 := HRES.out.frozen 1
          have z2 := HRES.out.frozen 2
          have z3 := HRES.out.frozen 3
          simp only [List.getElem?_toArray, List.getElem?_cons_zero, List.getElem?_cons_succ] at a0 a1 a2 a3 b0 b1 b2 b3
          go_wp2_with fail
          have R := rput4 HO.out (Nat.le_refl _) HG.out HRES.out (.int .i64 5) (.int .i64 0) (.string ⟨#[]⟩) (.slice q9 xs.length c9)
          have KL : ListAt (fun b => w.heap.size ≤ b) ((((wr.setCell ⟨w.heap.size, 0, none⟩ (.int .i64 5)).setCell ⟨w.heap.size, 1, none⟩ (.int .i64 0)).setCell ⟨w.heap.size, 2, none⟩ (.string ⟨#[]⟩)).setCell ⟨w.heap.size, 3, none⟩ (.slice q9 xs.length c9)) (d + 1) (.slice q9 xs.length c9) (xs.map (·.1)) :=
            HLL.out.keep (fun b' o' v hok hc => by rw [cell_far (by omega), cell_far (by omega), cell_far (by omega), cell_far (by omega)]; exact hc) (fun b' _ hok => by omega)
          generalize ((((wr.setCell ⟨w.heap.size, 0, none⟩ (.int .i64 5)).setCell ⟨w.heap.size, 1, none⟩ (.int .i64 0)).setCell ⟨w.heap.size, 2, none⟩ (.string ⟨#[]⟩)).setCell ⟨w.heap.size, 3, none⟩ (.slice q9 xs.length c9)) = w9 at R KL ⊢
          obtain ⟨O9, B9, R9⟩ := R
          have f0 := R9.cell 0
          have f1 := R9.cell 1
          have f2 := R9.cell 2
          have f3 := R9.cell 3
          simp only [List.getElem?_toArray, List.getElem?_cons_zero, List.getElem?_cons_succ] at f0 f1 f2 f3
          refine bodyPost_ret (v := .agg #[.int .i64 5, .int .i64 0, .string ⟨#[]⟩, .slice q9 xs.length c9]) (by simp [results, Tryd.results72, go_sem, f0, f1, f2, f3]) rfl ⟨O9, 5, 0, ⟨#[]⟩, _, rfl, ⟨_, _, _, rfl⟩, ?_⟩
          rw [HR1.out]
          exact ⟨rfl, rfl, rfl, KL, B9 _ _ HPP.out.inn⟩
      · obtain ⟨hI, hO, hRs, hBx, q9, m9, c9, rfl⟩ := hP
        have HIN := Lib.hid hI
        have HO := Lib.hid hO
        have HRES := Lib.hid hRs
        have HBOX := Lib.hid hBx
        have HRC := Lib.hid hrc
        obtain ⟨hc, p', t', i', hb⟩ := hI
        have c2 := hb.cell 2
        have hc0 : (c == 0) = false := by simpa using hc
        simp only [List.getElem?_toArray, List.getElem?_cons_zero, List.getElem?_cons_succ] at c2
        have HB := Lib.hid hb
        have HC := Lib.hid hc
        clear HX hO hRs hBx hrc hb hc
        by_cases hkN : k < n
        · have d1 : decide ((k : Int) < (n : Int)) = true := decide_eq_true (by omega)
          have d1n : decide (k < n) = true := decide_eq_true hkN
          have a0 := HBOX.out.cell 0
          have a1 := HBOX.out.cell 1
          have a2 := HBOX.out.cell 2
          have a3 := HBOX.out.cell 3
          have b0 := HRES.out.cell 0
          have b1 := HRES.out.cell 1
          have b2 := HRES.out.cell 2
          have b3 := HRES.out.cell 3
          have z0 := HRES.out.frozen 0
          have z1 := HRES.out.frozen 1
          have z2 := HRES.out.frozen 2
          have z3 := HRES.out.frozen 3
          simp only [List.getElem?_toArray, List.getElem?_cons_zero, List.getElem?_cons_succ] at a0 a1 a2 a3 b0 b1 b2 b3
          go_wp2_with fail
          have R := rput4 HO.out (Nat.le_refl _) HG.out HRES.out (.int .i64 5) (.int .i64 0) (.string ⟨#[]⟩) (.slice q9 m9 c9)
          generalize ((((wr.setCell ⟨w.heap.size, 0, none⟩ (.int .i64 5)).setCell ⟨w.heap.size, 1, none⟩ (.int .i64 0)).setCell ⟨w.heap.size, 2, none⟩ (.string ⟨#[]⟩)).setCell ⟨w.heap.size, 3, none⟩ (.slice q9 m9 c9)) = w9 at R ⊢
          obtain ⟨O9, B9, R9⟩ := R
          have f0 := R9.cell 0
          have f1 := R9.cell 1
          have f2 := R9.cell 2
          have f3 := R9.cell 3
          simp only [List.getElem?_toArray, List.getElem?_cons_zero, List.getElem?_cons_succ] at f0 f1 f2 f3
          refine bodyPost_ret (v := .agg #[.int .i64 5, .int .i64 0, .string ⟨#[]⟩, .slice q9 m9 c9]) (by simp [results, Tryd.results72, go_sem, f0, f1, f2, f3]) rfl ⟨O9, 5, 0, ⟨#[]⟩, _, rfl, ⟨_, _, _, rfl⟩, ?_⟩
          rw [HRC.out]
          exact ⟨HC.out, _, _, _, B9 _ _ HB.out⟩
        · have d1 : decide ((k : Int) < (n : Int)) = false := decide_eq_false (by omega)
          have d1n : decide (k < n) = false := decide_eq_false hkN
          have a0 := HBOX.out.cell 0
          have a1 := HBOX.out.cell 1
          have a2 := HBOX.out.cell 2
          have a3 := HBOX.out.cell 3
          have b0 := HRES.out.cell 0
          have b1 := HRES.out.cell 1
          have b2 := HRES.out.cell 2
          have b3 := HRES.out.cell 3
          have z0 := HRES.out.frozen 0
          have z1 := HRES.out.frozen 1
          have z2 := HRES.out.frozen 2
          have z3 := HRES.out.frozen 3
          simp only [List.getElem?_toArray, List.getElem?_cons_zero, List.getElem?_cons_succ] at a0 a1 a2 a3 b0 b1 b2 b3
          go_wp2_with fail
          have R := rput4 HO.out (Nat.le_refl _) HG.out HRES.out (.int .i64 5) (.int .i64 0) (.string ⟨#[]⟩) (.slice q9 m9 c9)
          generalize ((((wr.setCell ⟨w.heap.size, 0, none⟩ (.int .i64 5)).setCell ⟨w.heap.size, 1, none⟩ (.int .i64 0)).setCell ⟨w.heap.size, 2, none⟩ (.string ⟨#[]⟩)).setCell ⟨w.heap.size, 3, none⟩ (.slice q9 m9 c9)) = w9 at R ⊢
          obtain ⟨O9, B9, R9⟩ := R
          have f0 := R9.cell 0
          have f1 := R9.cell 1
          have f2 := R9.cell 2
          have f3 := R9.cell 3
          simp only [List.getElem?_toArray, List.getElem?_cons_zero, List.getElem?_cons_succ] at f0 f1 f2 f3
          refine bodyPost_ret (v := .agg #[.int .i64 5, .int .i64 0, .string ⟨#[]⟩, .slice q9 m9 c9]) (by simp [results, Tryd.results72, go_sem, f0, f1, f2, f3]) rfl ⟨O9, 5, 0, ⟨#[]⟩, _, rfl, ⟨_, _, _, rfl⟩, ?_⟩
          rw [HRC.out]
          exact ⟨HC.out, _, _, _, B9 _ _ HB.out⟩
end Go.Proofs.YtopdgmchkoaeeaaDoor
