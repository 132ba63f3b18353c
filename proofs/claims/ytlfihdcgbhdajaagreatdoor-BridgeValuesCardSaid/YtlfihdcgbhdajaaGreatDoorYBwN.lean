/- A table's list as it grows. -/
import Derived.Test.YtlfihdcgbhdajaaGreatDoorYBwM
import Derived.Test.YtlfihdcgbhdajaaGreatDoorYA3
import Derived.Deep.AppendLies
namespace Go.Proofs.YtlfihdcgbhdajaaGreatDoor
open Go.RowKit
set_option linter.unusedVariables false
set_option linter.unusedSimpArgs false

theorem textP_room {q q' : Room} {k : Int} {s : ByteArray} {x : Rep} (h : textP q k s = .ok (x, q')) (hq : QOk q) : QOk q' ∧ x = .mk k 0 s [] := by
 unfold textP at h
 split at h
 ·obtain ⟨rfl, rfl⟩ : Rep.mk k 0 s [] = x ∧ (⟨q.items, q.texts - min (s.size : Int) 1048577⟩ : Room) = q' := by
   have := Except.ok.inj h
   exact ⟨congrArg (·.1) this, congrArg (·.2) this⟩
  obtain ⟨a, b, c, d⟩ := hq
  exact ⟨⟨a, b, by assumption, by show q.texts - min (s.size : Int) 1048577 ≤ 1048576; omega⟩, rfl⟩
 ·cases h
def Keeps (f : Room → Vl → RepX) : Prop := ∀ q v x q', f q v = .ok (x, q') → QOk q → in64 v.n → QOk q' ∧ i64R x
theorem rowP_keeps {f : Room → Vl → RepX} (hf : Keeps f) {H : Hp} (hH : HOk H) (t : Vl) : ∀ (n i : Nat) (q : Room) (l : List Rep) (q' : Room), rowP f H t n i q = .ok (l, q') → QOk q → QOk q' ∧ i64L l
 | 0, i, q, l, q', h, hq => by
  unfold rowP at h
  cases h
  exact ⟨hq, trivial⟩
 | n + 1, i, q, l, q', h, hq => by
  unfold rowP at h
  cases hx : f q (getV H t (iK ((i : Int) + 1))) with
  | error e => rw [hx] at h; cases h
  | ok y =>
   obtain ⟨x, q1⟩ := y
   rw [hx] at h
   simp only at h
   have h1 := hf _ _ _ _ hx hq (getV_ok hH t (iK ((i : Int) + 1))).1
   cases hy : rowP f H t n (i + 1) q1 with
   | error e => rw [hy] at h; cases h
   | ok z =>
    obtain ⟨l1, q2⟩ := z
    rw [hy] at h
    cases h
    have h2 := rowP_keeps hf hH t n (i + 1) q1 l1 _ hy h1.1
    exact ⟨h2.1, h1.2, h2.2⟩
theorem lenV_lo {H : Hp} (hH : HOk H) {v : Vl} (h4 : v.k = 4) (hw : lenW H v = sNone) : ofW H v = sNone ∧ 0 ≤ lenV H v ∧ lenV H v ≤ 65536 ∧ v.ck = true := by
 have ho := lenW_none hw (by omega)
 have hn := ofW_none ho
 have hT := tabOf_ok hH hn.2.2.2.2
 have h1 : lenV H v = tlen (tabOf H v) := by
  unfold lenV
  rw [if_neg (by rw [h4]; simp), if_pos ho]
 have h2 := Nat.le_trans (tlen_le hT) hT.most
 exact ⟨ho, by omega, by omega, hn.1⟩
theorem valueP_keeps {f : Option (Room → Vl → RepX)} (hf : ∀ g, f = some g → Keeps g) {H : Hp} (hH : HOk H) : Keeps (valueP f H) := by
 intro q v x q' h hq hv
 unfold valueP at h
 split at h
 rotate_left
 ·cases h
 split at h
 ·cases h
  refine ⟨hq, ?_⟩
  split
  ·exact ⟨⟨by decide, by decide⟩, trivial⟩
  ·exact ⟨⟨by decide, by decide⟩, trivial⟩
 split at h
 ·cases h
  exact ⟨hq, hv, trivial⟩
 split at h
 ·obtain ⟨h1, rfl⟩ := textP_room h hq
  exact ⟨h1, ⟨by decide, by decide⟩, trivial⟩
 split at h
 rotate_left
 ·cases h
  exact ⟨hq, ⟨by decide, by decide⟩, trivial⟩
 rename_i h4
 unfold tableP at h
 split at h
 rotate_left
 ·cases h
 rename_i hw
 split at h
 ·obtain ⟨h1, rfl⟩ := textP_room h hq
  exact ⟨h1, ⟨by decide, by decide⟩, trivial⟩
 split at h
 ·obtain ⟨h1, rfl⟩ := textP_room h hq
  exact ⟨h1, ⟨by decide, by decide⟩, trivial⟩
 split at h
 ·cases h
 rename_i g hg
 split at h
 rotate_left
 ·cases h
 rename_i hi
 split at h
 ·cases h
 rename_i l q1 hr
 cases h
 have hl := lenV_lo hH h4 hw
 have h1 := rowP_keeps (hf _ rfl) hH v _ _ _ _ _ hr ⟨hi, by have := hq.i1; show q.items - lenV H v ≤ 65536; omega, hq.t0, hq.t1⟩
 exact ⟨h1.1, ⟨by decide, by decide⟩, h1.2⟩
theorem repP_keeps {H : Hp} (hH : HOk H) : ∀ d, Keeps (repP H d)
 | 0 => by
  have := valueP_keeps (f := none) (fun g hg => by cases hg) hH
  intro q v x q' h
  unfold repP at h
  exact this q v x q' h
 | d + 1 => by
  have := valueP_keeps (f := some (repP H d)) (fun g hg => by cases hg; exact repP_keeps hH d) hH
  intro q v x q' h
  unfold repP at h
  exact this q v x q' h
structure LsB (w wr : World) (wb g out base : Nat) (H : Hp) (t : Vl) (d N k : Nat) (lv : Value) (xs : List (Rep × Value)) (q : Room) (r : Except ByteArray (List Rep × Room)) : Prop where
 only : Only wb w wr
 walk : WAt wr wb g q
 qok : QOk q
 box : Blk wr out 25 #[.int .i64 5, .int .i64 0, .string ⟨#[]⟩, lv]
 own : wr.ownsRow base 25 4 lv k (xs.flatMap rowR)
 subs : ∀ x ∈ xs, ListAt (fun b => base ≤ b ∧ ∀ y, lv.ownBlock = some y → b ≠ y) wr d x.2 x.1.l
 bs : base ≤ wr.heap.size
 len : xs.length = k
 spec : r = (rowP (repP H d) H t (N - k) k q).map (fun y => (xs.map (·.1) ++ y.1, y.2))
theorem map_pre (b : Except ByteArray (List Rep × Room)) (x : Rep) (ts : List Rep) : (b.map (fun y => (x :: y.1, y.2))).map (fun y => (ts ++ y.1, y.2)) = b.map (fun y => ((ts ++ [x]) ++ y.1, y.2)) := by
 cases b <;> simp [Except.map]
theorem rowP_succ (f : Room → Vl → RepX) (H : Hp) (t : Vl) (n i : Nat) (q : Room) {x : Rep} {q1 : Room} (hx : f q (getV H t (iK ((i : Int) + 1))) = .ok (x, q1)) : rowP f H t (n + 1) i q = (rowP f H t n (i + 1) q1).map (fun y => (x :: y.1, y.2)) := by
 conv => lhs; unfold rowP
 rw [hx]
 simp only
 cases rowP f H t n (i + 1) q1 with
 | error e => rfl
 | ok y => rfl
theorem LsB.next {w wr : World} {wb g out base : Nat} {H0 : Hp} {t : Vl} {d N k : Nat} {lv : Value} {xs : List (Rep × Value)} {q : Room} {r : Except ByteArray (List Rep × Room)} (hwb : wb < w.heap.size) (hout : w.heap.size ≤ out) (hob : out < base) (hH : HOk H0)
  (H : LsB w wr wb g out base H0 t d N k lv xs q r) (hk : k < N) {x : Rep} {q' : Room} (hx : repP H0 d q (getV H0 t (iK ((k : Int) + 1))) = .ok (x, q')) {w4 w5 : World} {lv0 : Value} {gg gcap : Nat} {o : Obj} (O4 : Only wb wr w4) (hv : ListAt (fun b => wr.heap.size ≤ b) w4 d lv0 x.l)
  (I4 : WAt w4 wb g q') (OW : w5.ownsRow base 25 4 (.slice (some ⟨gg, 0, none⟩) (k + 1) gcap) (k + 1) (xs.flatMap rowR ++ rowR (x, lv0)))
  (G5 : (w4.alloc o).grownBy w5 lv.ownBlock) (hat : lv.ownBlock = some gg ∨ gg = w4.heap.size + 1) :
  LsB w (w5.setCell ⟨out, 3, none⟩ (.slice (some ⟨gg, 0, none⟩) (k + 1) gcap)) wb g out base H0 t d N (k + 1) (.slice (some ⟨gg, 0, none⟩) (k + 1) gcap) (xs ++ [(x, lv0)]) q' r := by
 have hrow := H.own.lt
 have h4 := O4.le
 have h5 := G5.size
 rw [size_alloc] at h5
 have hwr := H.bs
 have hne : out ≠ wb := by omega
 have hrow' : ∀ y, lv.ownBlock = some y → base ≤ y := fun y hy => (hrow y hy).1
 have O5 : Only wb w w5 := ((H.only.trans O4).alloc o).grown G5 (fun y hy => by have := hrow' y hy; omega)
 have hkeep := repP_keeps hH d _ _ _ _ hx H.qok (getV_ok hH _ _).1
 have cell5 : ∀ b' o' v, base ≤ b' → (∀ y, lv.ownBlock = some y → b' ≠ y) → w4.cell? ⟨b', o', none⟩ = some v → (w5.setCell ⟨out, 3, none⟩ (.slice (some ⟨gg, 0, none⟩) (k + 1) gcap)).cell? ⟨b', o', none⟩ = some v := fun b' o' v h1 h2 h3 => by
  have hlt := cell_lt h3
  simp only at hlt
  rw [cell_far (by omega), G5.cell_far ⟨b', o', none⟩ (by rw [size_alloc]; show b' < _; omega) (fun e => h2 b' e.symm rfl)]
  exact ((Ext.refl w4).alloc o).cell h3
 have hgg : base ≤ gg := by
  rcases hat with hat | hat
  ·exact hrow' _ hat
  ·omega
 have B4 : Blk w4 out 25 #[.int .i64 5, .int .i64 0, .string ⟨#[]⟩, lv] := (O4.block out H.box.lt (fun e => hne (Option.some.inj e))).trans H.box
 have B5 : Blk w5 out 25 #[.int .i64 5, .int .i64 0, .string ⟨#[]⟩, lv] := (B4.alloc o).grown G5 (fun y hy => by have := hrow' y hy; omega)
 have I5 : WAt w5 wb g q' := Blk.grown (Blk.alloc I4 o) G5 (fun y hy => by have := hrow' y hy; omega)
 refine ⟨O5.setCell (.inr hout) _, I5.far (by show wb ≠ out; omega) _, hkeep.1, by simpa using B5.set_ 3 (.slice (some ⟨gg, 0, none⟩) (k + 1) gcap), own_set (by simpa [List.flatMap_append] using OW) (by omega), ?_, by rw [World.size_setCell]; omega, by simp [H.len], ?_⟩
 ·intro y hy
  rcases List.mem_append.mp hy with hy | hy
  ·refine (H.subs y hy).keep (fun b' o' v hok hc => cell5 b' o' v hok.1 hok.2 (O4.cell (by have := hok.1; omega) hc)) (fun b' hlt hok => ⟨hok.1, fun z hz => ?_⟩)
   obtain rfl : gg = z := by injection hz
   rcases hat with hat | hat
   ·exact hok.2 _ hat
   ·omega
  ·obtain rfl : y = (x, lv0) := by simpa using hy
   refine hv.keep (fun b' o' v hok hc => cell5 b' o' v (by omega) (fun z hz => by have := (hrow z hz).2; omega) hc) (fun b' hlt hok => ⟨by omega, fun z hz => ?_⟩)
   obtain rfl : gg = z := by injection hz
   rcases hat with hat | hat
   ·have := (hrow _ hat).2; omega
   ·omega
 ·have S := H.spec
  rw [show N - k = (N - (k + 1)) + 1 by omega, rowP_succ _ _ _ _ _ _ hx] at S
  rw [S, map_pre]
  simp
theorem LsB.fails {w wr : World} {wb g out base : Nat} {H0 : Hp} {t : Vl} {d N k : Nat} {lv : Value} {xs : List (Rep × Value)} {q : Room} {r : Except ByteArray (List Rep × Room)} (H : LsB w wr wb g out base H0 t d N k lv xs q r) (hk : k < N) {c : ByteArray} (hx : repP H0 d q (getV H0 t (iK ((k : Int) + 1))) = .error c) : r = .error c := by
 have S := H.spec
 rw [show N - k = (N - (k + 1)) + 1 by omega] at S
 unfold rowP at S
 rw [hx] at S
 exact S
theorem LsB.ends {w wr : World} {wb g out base : Nat} {H0 : Hp} {t : Vl} {d N : Nat} {lv : Value} {xs : List (Rep × Value)} {q : Room} {r : Except ByteArray (List Rep × Room)} (H : LsB w wr wb g out base H0 t d N N lv xs q r) :
  r = .ok (xs.map (·.1), q) ∧ ListAt (fun b => base ≤ b) wr (d + 1) lv (xs.map (·.1)) := by
 refine ⟨?_, ?_⟩
 ·have S := H.spec
  rw [Nat.sub_self] at S
  simpa [rowP, Except.map] using S
 ·obtain ⟨_, ⟨rfl, h0⟩ | ⟨gg, c2, cur, rfl, hb, hh, hnc, hcap, hsz, htk⟩⟩ := H.own
  ·have hl := H.len
   exact ⟨none, 0, by simp [hl, h0], fun h => by simp [hl] at h; omega⟩
  ·have hl := H.len
   refine ⟨_, c2, by simp [hl], fun h => ⟨gg, 0, rfl, hb, fun j hj => ?_⟩⟩
   have hj' : j < xs.length := by simpa using hj
   have at4 : ∀ k' (hk' : k' < 4), wr.cell? ⟨gg, 0 + j * 4 + k', none⟩ = (rowR xs[j])[k']? := fun k' hk' => by
    have h1 := rows_at xs j hj' k' hk'
    have h2 : ∃ u, (rowR xs[j])[k']? = some u := ⟨_, List.getElem?_eq_getElem (by simpa [rowR] using hk')⟩
    obtain ⟨u, hu⟩ := h2
    have h3 := H.own.cells (g := gg) rfl (j * 4 + k') u (by rw [h1, hu])
    have e : ((⟨gg, 0, none⟩ : Addr).add (j * 4 + k')) = ⟨gg, 0 + j * 4 + k', none⟩ := by unfold Addr.add; split <;> simp_all [Nat.add_assoc]
    rw [e] at h3
    rw [h3, hu]
   have g0 := at4 0 (by omega)
   have g1 := at4 1 (by omega)
   have g2 := at4 2 (by omega)
   have g3 := at4 3 (by omega)
   simp only [rowR, List.getElem?_cons_zero, List.getElem?_cons_succ, Nat.add_zero] at g0 g1 g2 g3
   simp only [List.getElem_map]
   exact ⟨g0, g1, g2, _, g3, (H.subs _ (List.getElem_mem hj')).keep (fun _ _ _ _ h => h) (fun _ _ h => h.1)⟩
end Go.Proofs.YtlfihdcgbhdajaaGreatDoor
