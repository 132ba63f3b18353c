/- A list of replies as it is read: what holds at the head of the loop, and how it goes on. -/
import Derived.Test.YtopdgmchkoaeeaaDoorRsL
import Derived.Test.YtopdgmchkoaeeaaDoorRspR
namespace Go.Proofs.YtopdgmchkoaeeaaDoor
open Go.RowKit
set_option linter.unusedVariables false
set_option linter.unusedSimpArgs false

theorem infoRep : (Tryd.prog.info? 41).map (fun i => (i.zero, i.size, i.bytes)) = some (some (.agg #[.int .i64 0, .int .i64 0, .string ⟨#[]⟩, .slice none 0 0]), 4, 56) := by kernel_rfl
theorem reply_pos {l : List UInt8} {d : Nat} {s s' : St} {x : Rep} (hp : s.p ≤ l.length) (h : replyS l d s = .ok (x, s')) : s'.p ≤ l.length ∧ s'.texts ≤ s.texts ∧ s'.items ≤ s.items := by
  have hb := reply_br l d s hp
  rw [h] at hb
  cases hr : replyR d s.texts s.items (l.drop s.p) with
  | error e => rw [hr] at hb; exact False.elim hb
  | ok y =>
    obtain ⟨⟨y1, y2, y3⟩, y4⟩ := y
    rw [hr] at hb
    obtain ⟨h1, h2, h3, h4, h5⟩ := hb
    simp only at h1 h2 h3 h4 h5
    obtain ⟨_, _, _, e1, e2⟩ := reply_was _ _ _ _ _ _ _ _ hr
    exact ⟨h4, by omega, by omega⟩
theorem reply_err {l : List UInt8} {d : Nat} {s : St} {c : Int} (hp : s.p ≤ l.length) (h : replyS l d s = .error c) : c = 130 ∨ c = 131 := by
  have hb := reply_br l d s hp
  rw [h] at hb
  cases hr : replyR d s.texts s.items (l.drop s.p) with
  | ok e => rw [hr] at hb; exact False.elim hb
  | error y =>
    rw [hr] at hb
    obtain rfl : c = y := hb
    rcases (reply_goes d s.texts s.items (l.drop s.p) []).2 _ hr with h | h
    · exact .inl h
    · exact .inr h.1
/-- A reply's cells. -/
def rowR (x : Rep × Value) : List Value := [.int .i64 x.1.k, .int .i64 x.1.n, .string x.1.s, x.2]
theorem rows_len : ∀ (xs : List (Rep × Value)), (xs.flatMap rowR).length = xs.length * 4
  | [] => rfl
  | x :: xs => by rw [List.flatMap_cons, List.length_append, rows_len xs, List.length_cons]; simp [rowR]; omega
theorem rows_at : ∀ (xs : List (Rep × Value)) (i : Nat) (h : i < xs.length) (j : Nat), j < 4 → (xs.flatMap rowR)[i * 4 + j]? = (rowR xs[i])[j]?
  | x :: xs, 0, h, j, hj => by
    rw [List.flatMap_cons, List.getElem?_append_left (by simp [rowR]; omega)]; simp
  | x :: xs, i + 1, h, j, hj => by
    rw [List.flatMap_cons, List.getElem?_append_right (by simp [rowR]; omega)]
    have : (i + 1) * 4 + j - (rowR x).length = i * 4 + j := by simp [rowR]; omega
    rw [this, rows_at xs i (by simpa using h) j hj]; rfl
theorem Only.grown {g : Nat} {a b c : World} {row : Option Nat} (h : Only g a b) (hg : b.grownBy c row) (hr : ∀ x, row = some x → a.heap.size ≤ x) : Only g a c :=
  ⟨hg.os.trans h.os, hg.tape.trans h.tape, hg.output.trans h.output, Nat.le_trans h.size hg.size, fun k hk hn => (hg.block k (Nat.lt_of_lt_of_le hk h.size) (fun e => by have := hr k e.symm; omega)).trans (h.block k hk hn)⟩
/-- Where kinds$5 stands at the head of its loop. -/
structure LsAt (w wr : World) (g : Nat) (q : Option Addr) (cap : Nat) (l : List UInt8) (d N k : Nat) (lv : Value) (xs : List (Rep × Value)) (s : St) (r : Except Int (Rep × St)) : Prop where
  only : Only g w wr
  inn : InAt wr g q cap l s.p s.texts s.items
  res : Blk wr w.heap.size 41 #[.int .i64 0, .int .i64 0, .string ⟨#[]⟩, .slice none 0 0]
  box : Blk wr (w.heap.size + 1) 41 #[.int .i64 5, .int .i64 0, .string ⟨#[]⟩, lv]
  own : wr.ownsRow (w.heap.size + 2) 41 4 lv k (xs.flatMap rowR)
  subs : ∀ x ∈ xs, ListAt (fun b => w.heap.size + 2 ≤ b ∧ ∀ y, lv.ownBlock = some y → b ≠ y) wr d x.2 x.1.l
  base : w.heap.size + 2 ≤ wr.heap.size
  len : xs.length = k
  pl : s.p ≤ l.length
  tl : s.texts ≤ 1048576
  il : s.items ≤ 65536
  spec : r = (repsS (replyS l d) (N - k) s).map (fun y => (.mk 5 0 ⟨#[]⟩ (xs.map (·.1) ++ y.1), y.2))
theorem map_three (b : Except Int (List Rep × St)) (x : Rep) (ts : List Rep) : (b.map (fun y => (x :: y.1, y.2))).map (fun y => (Rep.mk 5 0 ⟨#[]⟩ (ts ++ y.1), y.2)) = b.map (fun y => (Rep.mk 5 0 ⟨#[]⟩ ((ts ++ [x]) ++ y.1), y.2)) := by
  cases b <;> simp [Except.map]
theorem LsAt.next {w wr : World} {g : Nat} {q : Option Addr} {cap : Nat} {l : List UInt8} {d N k : Nat} {lv : Value} {xs : List (Rep × Value)} {s : St} {r : Except Int (Rep × St)} {p t i : Int} (H0 : InAt w g q cap l p t i)
    (H : LsAt w wr g q cap l d N k lv xs s r) (hk : k < N) {x : Rep} {s' : St} (hx : replyS l d s = .ok (x, s')) {w4 w5 : World} {lv0 : Value} {gg gcap : Nat} {o : Obj} (O4 : Only g wr w4) (hv : ListAt (fun b => wr.heap.size ≤ b) w4 d lv0 x.l)
    (I4 : InAt w4 g q cap l s'.p s'.texts s'.items) (OW : w5.ownsRow (w.heap.size + 2) 41 4 (.slice (some ⟨gg, 0, none⟩) (k + 1) gcap) (k + 1) (xs.flatMap rowR ++ rowR (x, lv0)))
    (G5 : (w4.alloc o).grownBy w5 lv.ownBlock) (hat : lv.ownBlock = some gg ∨ gg = w4.heap.size + 1) :
    LsAt w (w5.setCell ⟨w.heap.size + 1, 3, none⟩ (.slice (some ⟨gg, 0, none⟩) (k + 1) gcap)) g q cap l d N (k + 1) (.slice (some ⟨gg, 0, none⟩) (k + 1) gcap) (xs ++ [(x, lv0)]) s' r := by
  have hg := H0.lt
  have hrow := H.own.lt
  have h4 := O4.le
  have h5 := G5.size
  rw [size_alloc] at h5
  have hb := H.base
  have hrow' : ∀ y, lv.ownBlock = some y → w.heap.size + 2 ≤ y := fun y hy => (hrow y hy).1
  have O5 : Only g w w5 := ((H.only.trans O4).alloc o).grown G5 (fun y hy => by have := hrow' y hy; omega)
  have hpos := reply_pos H.pl hx
  have cell5 : ∀ b' o' v, w.heap.size + 2 ≤ b' → (∀ y, lv.ownBlock = some y → b' ≠ y) → w4.cell? ⟨b', o', none⟩ = some v → (w5.setCell ⟨w.heap.size + 1, 3, none⟩ (.slice (some ⟨gg, 0, none⟩) (k + 1) gcap)).cell? ⟨b', o', none⟩ = some v := fun b' o' v h1 h2 h3 => by
    have hlt := cell_lt h3
    simp only at hlt
    rw [cell_far (by omega), G5.cell_far ⟨b', o', none⟩ (by rw [size_alloc]; show b' < _; omega) (fun e => h2 b' e.symm rfl)]
    exact ((Ext.refl w4).alloc o).cell h3
  refine ⟨O5.setCell (.inr (by show w.heap.size ≤ w.heap.size + 1; omega)) _, ?_, ?_, ?_, own_set (by simpa [List.flatMap_append] using OW) (by omega), ?_, ?_, by simp [H.len], hpos.1, by have := H.tl; omega, by have := H.il; omega, ?_⟩
  · exact H0.put (O5.setCell (.inr (by show w.heap.size ≤ w.heap.size + 1; omega)) _) (((I4.blk.alloc o).grown G5 (fun y hy => by have := hrow' y hy; omega)).far (by show g ≠ w.heap.size + 1; omega) _)
  · exact (((H.res.only O4 (by omega)).alloc o).grown G5 (fun y hy => by have := hrow' y hy; omega)).far (by show w.heap.size ≠ w.heap.size + 1; omega) _
  · simpa using (((H.box.only O4 (by omega)).alloc o).grown G5 (fun y hy => by have := hrow' y hy; omega)).set_ 3 (.slice (some ⟨gg, 0, none⟩) (k + 1) gcap)
  · intro y hy
    rcases List.mem_append.mp hy with hy | hy
    · refine (H.subs y hy).keep (fun b' o' v hok hc => cell5 b' o' v hok.1 hok.2 (O4.cell (by have := hok.1; omega) hc)) (fun b' hlt hok => ⟨hok.1, fun z hz => ?_⟩)
      obtain rfl : gg = z := by injection hz
      rcases hat with hat | hat
      · exact hok.2 _ hat
      · omega
    · obtain rfl : y = (x, lv0) := by simpa using hy
      refine hv.keep (fun b' o' v hok hc => cell5 b' o' v (by omega) (fun z hz => by have := (hrow z hz).2; omega) hc) (fun b' hlt hok => ⟨by omega, fun z hz => ?_⟩)
      obtain rfl : gg = z := by injection hz
      rcases hat with hat | hat
      · have := (hrow _ hat).2; omega
      · omega
  · have : (w5.setCell ⟨w.heap.size + 1, 3, none⟩ (.slice (some ⟨gg, 0, none⟩) (k + 1) gcap)).heap.size = w5.heap.size := World.size_setCell _ _ _
    omega
  · have S := H.spec
    rw [show N - k = (N - (k + 1)) + 1 by omega] at S
    simp only [repsS, hx] at S
    rw [S, map_three]
    simp
theorem LsAt.fails {w wr : World} {g : Nat} {q : Option Addr} {cap : Nat} {l : List UInt8} {d N k : Nat} {lv : Value} {xs : List (Rep × Value)} {s : St} {r : Except Int (Rep × St)} (H : LsAt w wr g q cap l d N k lv xs s r) (hk : k < N) {c : Int} (hx : replyS l d s = .error c) : r = .error c := by
  have S := H.spec
  rw [show N - k = (N - (k + 1)) + 1 by omega] at S
  simp only [repsS, hx] at S
  exact S
theorem LsAt.ends {w wr : World} {g : Nat} {q : Option Addr} {cap : Nat} {l : List UInt8} {d N : Nat} {lv : Value} {xs : List (Rep × Value)} {s : St} {r : Except Int (Rep × St)} (H : LsAt w wr g q cap l d N N lv xs s r) :
    r = .ok (.mk 5 0 ⟨#[]⟩ (xs.map (·.1)), s) ∧ ListAt (fun b => w.heap.size + 2 ≤ b) wr (d + 1) lv (xs.map (·.1)) := by
  refine ⟨?_, ?_⟩
  · have S := H.spec
    rw [Nat.sub_self] at S
    simpa [repsS, Except.map] using S
  · obtain ⟨_, ⟨rfl, h0⟩ | ⟨gg, c2, cur, rfl, hb, hh, hnc, hcap, hsz, htk⟩⟩ := H.own
    · have hl := H.len
      exact ⟨none, 0, by simp [hl, h0], fun h => by simp [hl] at h; omega⟩
    · have hl := H.len
      refine ⟨_, c2, by simp [hl], fun h => ⟨gg, 0, rfl, hb, fun j hj => ?_⟩⟩
      have hj' : j < xs.length := by simpa using hj
      have hc := fun k' (hk' : k' < 4) => (H.own.cells (g := gg) rfl (j * 4 + k') · · )
      have at4 : ∀ k' (hk' : k' < 4), wr.cell? ⟨gg, 0 + j * 4 + k', none⟩ = (rowR xs[j])[k']? := fun k' hk' => by
        have h1 := rows_at xs j hj' k' hk'
        have h2 : ∃ u, (rowR xs[j])[k']? = some u := ⟨_, List.getElem?_eq_getElem (by simpa [rowR] using hk')⟩
        obtain ⟨u, hu⟩ := h2
        have h3 := H.own.cells (g := gg) rfl (j * 4 + k') u (by rw [h1, hu])
        have e : ((⟨gg, 0, none⟩ : Addr).add (j * 4 + k')) = ⟨gg, 0 + j * 4 + k', none⟩ := by unfold Addr.add; split <;> simp_all [Nat.add_assoc]
        rw [e] at h3
        rw [h3, hu]
      have g0 := at4 0 (by omega)
      have g1 := at4 1 (by omega)
      have g2 := at4 2 (by omega)
      have g3 := at4 3 (by omega)
      simp only [rowR, List.getElem?_cons_zero, List.getElem?_cons_succ, Nat.add_zero] at g0 g1 g2 g3
      simp only [List.getElem_map]
      exact ⟨g0, g1, g2, _, g3, (H.subs _ (List.getElem_mem hj')).keep (fun _ _ _ _ h => h) (fun _ _ h => h.1)⟩
end Go.Proofs.YtopdgmchkoaeeaaDoor
