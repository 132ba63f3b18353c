/- A value's reply, however deep. -/
import Derived.Test.YtlfihdcgbhdajaaGreatDoorYBwO
namespace Go.Proofs.YtlfihdcgbhdajaaGreatDoor
open Go.RowKit
set_option linter.unusedVariables false
set_option linter.unusedSimpArgs false

theorem repP_sub (H : Hp) (d : Nat) (q : Room) (v : Vl) : repP H d q v = valueP (subF H d) H q v := by cases d <;> rfl
theorem rep_step (d : Nat) (hd : d ≤ 1000) (IH : ∀ e, d = e + 1 → RepDo e) : RepDo d := by
 intro w g tv rs H h hlen wb q hq WA nw v hv
 have hwb := WA.lt
 rw [repP_sub]
 unfold valueP
 cases hck : v.ck with
 | false =>
  rw [if_neg (by decide)]
  exact rep_type w wb g d d v (.error sType) hwb hck
 | true =>
  rw [if_pos rfl]
  obtain ⟨k0, k4⟩ := ck_kind hck
  by_cases h1 : v.k = 1
  ·rw [if_pos h1]
   refine rep_1 w wb g d d v _ hwb hck h1 (fun W hW B3 B4 B5 => ?_)
   by_cases hz : v.n = 0
   ·rw [if_pos hz]
    exact (rbool_no W _ v B4 hz).mono fun e w' ⟨he, hx⟩ => BepE.of_ext (Blk.ext WA hW) he hx
   ·rw [if_neg hz]
    exact (rbool_yes W _ v B4 hz).mono fun e w' ⟨he, hx⟩ => BepE.of_ext (Blk.ext WA hW) he hx
  rw [if_neg h1]
  by_cases h2 : v.k = 2
  ·rw [if_pos h2]
   exact rep_2 w wb g d d v _ hwb hck h2 (fun W hW B3 B4 B5 => (rint_do W _ v B4).mono fun e w' ⟨he, hx⟩ => BepE.of_ext (Blk.ext WA hW) he hx)
  rw [if_neg h2]
  by_cases h3 : v.k = 3
  ·rw [if_pos h3]
   exact rep_3 w wb g d d v _ hwb hck h3 (fun W hW B3 B4 B5 => rtext_close W wb g _ _ d q hq v (Blk.ext WA hW) B3 B4 (by omega) (by omega))
  rw [if_neg h3]
  by_cases h4 : v.k = 4
  ·rw [if_pos h4]
   exact rep_4 w wb g d d v _ hwb hck h4 (fun W hW B3 B4 B5 => rtab_close W wb g _ _ _ d d v _ (Nat.lt_of_lt_of_le hwb hW.le) B3 B4 B5 (fun W' hW' => table_do d IH W' g tv rs H (h.ext (hW.trans hW')) hlen wb q hq (Blk.ext WA (hW.trans hW')) nw v hv h4 hd))
  rw [if_neg h4]
  exact rep_0 w wb g d d v (.error sType) hwb q WA hck (by omega)
theorem rep_all : ∀ d, d ≤ 1000 → RepDo d
 | 0, hd => rep_step 0 hd (fun e he => absurd he (by omega))
 | d + 1, hd => rep_step (d + 1) hd (fun e he => by
   obtain rfl : e = d := by omega
   exact rep_all e (by omega))
theorem textP_err {q : Room} {k : Int} {s c : ByteArray} (h : textP q k s = .error c) : ¬ c = sNone := by
 unfold textP at h
 split at h
 ·cases h
 ·cases h; decide
theorem rowP_err {f : Room → Vl → RepX} (hf : ∀ q v c, f q v = .error c → ¬ c = sNone) (H : Hp) (t : Vl) : ∀ (n i : Nat) (q : Room) (c : ByteArray), rowP f H t n i q = .error c → ¬ c = sNone
 | 0, i, q, c, h => by unfold rowP at h; cases h
 | n + 1, i, q, c, h => by
  unfold rowP at h
  cases hx : f q (getV H t (iK ((i : Int) + 1))) with
  | error e => rw [hx] at h; cases h; exact hf _ _ _ hx
  | ok y =>
   obtain ⟨x, q1⟩ := y
   rw [hx] at h
   simp only at h
   cases hy : rowP f H t n (i + 1) q1 with
   | error e => rw [hy] at h; cases h; exact rowP_err hf H t n (i + 1) q1 _ hy
   | ok z =>
    obtain ⟨l1, q2⟩ := z
    rw [hy] at h
    cases h
theorem valueP_err {f : Option (Room → Vl → RepX)} (hf : ∀ g, f = some g → ∀ q v c, g q v = .error c → ¬ c = sNone) {H : Hp} (q : Room) (v : Vl) (c : ByteArray) (h : valueP f H q v = .error c) : ¬ c = sNone := by
 unfold valueP at h
 split at h
 rotate_left
 ·cases h; decide
 split at h
 ·cases h
 split at h
 ·cases h
 split at h
 ·exact textP_err h
 split at h
 rotate_left
 ·cases h
 unfold tableP at h
 split at h
 rotate_left
 ·rename_i hw
  cases h
  exact hw
 split at h
 ·exact textP_err h
 split at h
 ·exact textP_err h
 split at h
 ·cases h; decide
 rename_i g hg
 split at h
 rotate_left
 ·cases h; decide
 split at h
 ·rename_i e he
  cases h
  exact rowP_err (hf _ rfl) _ _ _ _ _ _ he
 ·cases h
theorem repP_err {H : Hp} : ∀ (d : Nat) (q : Room) (v : Vl) (c : ByteArray), repP H d q v = .error c → ¬ c = sNone
 | 0, q, v, c, h => valueP_err (f := none) (fun g hg => by cases hg) q v c (by rw [repP_sub] at h; exact h)
 | d + 1, q, v, c, h => valueP_err (f := some (repP H d)) (fun g hg => by cases hg; exact repP_err d) q v c (by rw [repP_sub] at h; exact h)
end Go.Proofs.YtlfihdcgbhdajaaGreatDoor
