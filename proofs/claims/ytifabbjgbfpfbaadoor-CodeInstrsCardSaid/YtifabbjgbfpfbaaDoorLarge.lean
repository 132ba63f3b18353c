/- Is a program large? -/
import Derived.Test.YtifabbjgbfpfbaaDoorCodD
import Derived.Deep.LoopGhost
namespace Go.Proofs.YtifabbjgbfpfbaaDoor
open Go.RowKit
set_option linter.unusedVariables false
set_option linter.unusedSimpArgs false

theorem proto_at' {w : World} {b o : Nat} {l : List Pr} (hx : ∀ i (h : i < l.length), w.cell? ⟨b, o + i * 3, none⟩ = some (.int .i64 l[i].pa) ∧ w.cell? ⟨b, o + i * 3 + 1, none⟩ = some (.int .i64 l[i].rg) ∧ ∃ cv, w.cell? ⟨b, o + i * 3 + 2, none⟩ = some cv ∧ CodeAt w cv l[i].cd)
    (k : Nat) (h : k < l.length) : ∃ (q : Option Addr) (c : Nat), w.cell? ⟨b, o + k * 3, none⟩ = some (.int .i64 l[k].pa) ∧ w.cell? ⟨b, o + k * 3 + 1, none⟩ = some (.int .i64 l[k].rg) ∧ w.cell? ⟨b, o + k * 3 + 2, none⟩ = some (.slice q l[k].cd.length c) ∧ CodeAt w (.slice q l[k].cd.length c) l[k].cd := by
  obtain ⟨h1, h2, cv, h3, h4⟩ := hx k h
  have h5 := h4
  obtain ⟨q, c, rfl, _⟩ := h4
  exact ⟨q, c, h1, h2, h3, h5⟩
/-- What a law's first look leaves of a program that is not large. -/
structure NotLarge (p : Pg) : Prop where
  np : p.ps.length ≤ 10
  ni : p.ni ≤ 60
  nt : p.ts.length ≤ 60
  nc : ∀ f ∈ p.ps, f.cd.length ≤ 100
/-- It hands a Bool back; where that is false, the program is small. -/
def LargeSays (p : Pg) (w : World) (e : Ending) (w' : World) : Prop := ∃ b : Bool, e = .returned (.bool b) ∧ Ext w w' ∧ (b = false → NotLarge p)
theorem says_yes {p : Pg} {w w' : World} (h : Ext w w') : LargeSays p w (.returned (.bool true)) w' := ⟨true, rfl, h, fun h => by cases h⟩
theorem says_no {p : Pg} {w w' : World} (h : Ext w w') (hn : NotLarge p) : LargeSays p w (.returned (.bool false)) w' := ⟨false, rfl, h, fun _ => hn⟩

set_option maxRecDepth 100000 in
set_option maxHeartbeats 4000000 in
theorem large_any (p : Pg) (vp vi vt : Value) (w : World) (h0 : Lies w vp vi vt p) (n1 : p.ps.length ≤ 9223372036854775807) (n2 : p.ni ≤ 9223372036854775807) (n3 : p.ts.length ≤ 9223372036854775807)
    (nc : ∀ f ∈ p.ps, f.cd.length ≤ 9223372036854775807) (nz : ∀ s ∈ p.ts, s.size ≤ 9223372036854775807) :
    Calls Tryd.prog 6 #[.agg #[vp, vi, vt]] w (LargeSays p w) := by
  have H := Lib.hid h0
  obtain ⟨qp, cp, rfl, hx⟩ := h0.ps
  obtain ⟨qi, ci, rfl⟩ := h0.is
  obtain ⟨qt, ct, rfl, hy⟩ := h0.ts
  obtain ⟨a, ha⟩ : ∃ a, p.ps.length = a := ⟨_, rfl⟩
  obtain ⟨b, hb⟩ : ∃ b, p.ni = b := ⟨_, rfl⟩
  obtain ⟨c, hc⟩ : ∃ c, p.ts.length = c := ⟨_, rfl⟩
  rw [ha] at n1
  rw [hb] at n2
  rw [hc] at n3
  rw [ha, hb, hc]
  have HX := Lib.hid hx
  have HY := Lib.hid hy
  have HA := Lib.hid ha
  have HB := Lib.hid hb
  have HC := Lib.hid hc
  have NC := Lib.hid nc
  have NZ := Lib.hid nz
  clear hx hy ha hb hc h0 H nc nz
  cases d1 : decide (10 < (a : Int))
  rotate_left
  · go_enter Tryd.func6, Tryd.ntmps6
    go_wp2_with fail
    go_ret
    exact says_yes ((Ext.refl w).alloc _)
  cases d2 : decide (60 < (b : Int))
  rotate_left
  · go_enter Tryd.func6, Tryd.ntmps6
    go_wp2_with fail
    go_ret
    exact says_yes ((Ext.refl w).alloc _)
  cases d3 : decide (60 < (c : Int))
  rotate_left
  · go_enter Tryd.func6, Tryd.ntmps6
    go_wp2_with fail
    go_ret
    exact says_yes ((Ext.refl w).alloc _)
  have hN := Lib.hid (show a ≤ 10 ∧ b ≤ 60 ∧ c ≤ 60 from ⟨by have := of_decide_eq_false d1; omega, by have := of_decide_eq_false d2; omega, by have := of_decide_eq_false d3; omega⟩)
  go_enter Tryd.func6, Tryd.ntmps6
  go_wp2_with fail
  have k0 : Ext w (w.alloc (.cells #[.slice qp a cp, .slice qi b ci, .slice qt c ct] 26)) := (Ext.refl w).alloc _
  have b0 := Lib.hid (Blk.new w 26 #[.slice qp a cp, .slice qi b ci, .slice qt c ct])
  generalize hwb : w.alloc (.cells #[.slice qp a cp, .slice qi b ci, .slice qt c ct] 26) = wb at *
  clear hwb d1 d2 d3
  have t0 := b0.out.cell 0
  have t2 := b0.out.cell 2
  simp only [List.getElem?_toArray, List.getElem?_cons_zero, List.getElem?_cons_succ] at t0 t2
  have K0 := Lib.hid k0
  clear k0
  go_loopg [4] a (fun g s4 wr => ∃ k : Nat, k + g = a ∧ s4 = .int .i64 k ∧ wr = wb ∧ Hid (∀ i (h : i < p.ps.length), i < k → p.ps[i].cd.length ≤ 100))
  case atStart => exact ⟨0, by omega, rfl, rfl, fun i _ h => absurd h (Nat.not_lt_zero i)⟩
  case round =>
    obtain ⟨k, hkg, rfl, rfl, HK⟩ := hrel
    cases gk with
    | succ g =>
      have hkz : (k : Int) < (a : Int) := by omega
      have hkl : k < p.ps.length := by rw [HA.out]; omega
      obtain ⟨pb, po, rfl, hx⟩ := HX.out (by rw [HA.out]; omega)
      obtain ⟨q1, cc, c1, c2, c3, c4⟩ := proto_at' hx k hkl
      have hlen := NC.out _ (List.getElem_mem hkl)
      have HS := Lib.hid (show p.ps[k].cd.length ≤ 100 → ∀ i (h : i < p.ps.length), i < k + 1 → p.ps[i].cd.length ≤ 100 from fun h0 i hi hik => by
        rcases Nat.lt_succ_iff_lt_or_eq.1 hik with h | rfl
        · exact HK.out i hi h
        · exact h0)
      obtain ⟨f0, hf0⟩ : ∃ f, p.ps[k] = f := ⟨_, rfl⟩
      rw [hf0] at c1 c2 c3 c4 hlen HS
      replace c3 := K0.out.cell c3
      clear hf0 hx c4 c1 c2 hkl
      obtain ⟨y, hy⟩ : ∃ y, f0.cd.length = y := ⟨_, rfl⟩
      rw [hy] at c3 hlen HS
      clear hy
      cases dy : decide (100 < (y : Int))
      · have HZ := Lib.hid (HS.out (by have := of_decide_eq_false dy; omega))
        go_wp2_with fail
        go_roundg g
        case rel => exact ⟨k + 1, by omega, by go_num, by first | rfl | trivial, HZ⟩
        case measure => exact Nat.lt_succ_self _
      · go_wp2_with fail
        go_ret
        exact says_yes K0.out
    | zero =>
      obtain rfl : k = a := by omega
      have hkz : ¬ ((k : Int) < (k : Int)) := by omega
      have HNL := Lib.hid (show NotLarge p from ⟨by rw [HA.out]; exact hN.out.1, by rw [HB.out]; exact hN.out.2.1, by rw [HC.out]; exact hN.out.2.2, fun f hf => by
        obtain ⟨i, hi, rfl⟩ := List.getElem_of_mem hf
        exact HK.out i hi (by rw [← HA.out]; exact hi)⟩)
      obtain ⟨wc, rfl⟩ : ∃ wc : World, wc = wr := ⟨_, rfl⟩
      go_wp2_with fail
      go_loopg [3, 5] c (fun g s3 s5 wr => ∃ (k : Nat) (x : Int), k + g = c ∧ s3 = .int .i64 x ∧ s5 = .int .i64 k ∧ wr = wc ∧ -9223372036854775808 ≤ x ∧ x ≤ 2000)
      case atStart => exact ⟨0, 0, by omega, rfl, rfl, rfl, by omega, by omega⟩
      case round =>
        obtain ⟨j, x, hjg, rfl, rfl, rfl, x0, x1⟩ := hrel
        cases gk with
        | zero =>
          obtain rfl : j = c := by omega
          have hjz : ¬ ((j : Int) < (j : Int)) := by omega
          go_wp2_with fail
          go_ret
          exact says_no K0.out HNL.out
        | succ g =>
          have hjz : (j : Int) < (c : Int) := by omega
          have hjl : j < p.ts.length := by rw [HC.out]; omega
          obtain ⟨tb, tof, rfl, hy⟩ := HY.out (by rw [HC.out]; omega)
          have c1 := K0.out.cell (hy j hjl)
          have hz := NZ.out _ (List.getElem_mem hjl)
          obtain ⟨s0, hs0⟩ : ∃ s, p.ts[j] = s := ⟨_, rfl⟩
          rw [hs0] at c1 hz
          clear hs0 hy hjl
          obtain ⟨y, hy⟩ : ∃ y, IntKind.i64.wrap (x + (s0.size : Int)) = y := ⟨_, rfl⟩
          have yr : -9223372036854775808 ≤ y ∧ y ≤ 9223372036854775807 := by rw [← hy, IntKind.wrap_i64]; omega
          cases dy : decide (2000 < y)
          · have y1 := of_decide_eq_false dy
            have y2 : -9223372036854775808 ≤ y ∧ y ≤ 2000 := ⟨yr.1, by omega⟩
            clear yr y1
            go_wp2_with fail
            go_roundg g
            case rel => exact ⟨j + 1, y, by omega, rfl, by go_num, by first | rfl | trivial, y2.1, y2.2⟩
            case measure => exact Nat.lt_succ_self _
          · clear yr
            go_wp2_with fail
            go_ret
            exact says_yes K0.out
end Go.Proofs.YtifabbjgbfpfbaaDoor
