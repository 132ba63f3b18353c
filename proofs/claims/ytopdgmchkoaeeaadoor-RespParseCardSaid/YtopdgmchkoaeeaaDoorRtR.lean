/- Small functions of the statements: num, One, few. -/
import Derived.Test.YtopdgmchkoaeeaaDoorRtB
import Derived.Deep.LoopGhost
import Derived.Lib.Strings
namespace Go.Proofs.YtopdgmchkoaeeaaDoor
open Go.RowKit
set_option linter.unusedVariables false
set_option linter.unusedSimpArgs false

theorem num_any (w : World) (c : Int) : Calls Tryd.prog 16 #[.int .i64 c] w fun e w' => e = .returned (.int .i64 c) ∧ w = w' := by
  go_enter Tryd.func16, Tryd.ntmps16
  go_wp2_with fail
  go_ret
  exact ⟨rfl, rfl⟩
theorem str_ne {s t : ByteArray} (h : ¬ s = t) : (s.toList == t.toList) = false := by
  rw [Lib.toList_data, Lib.toList_data]
  have : ¬ s.data.toList = t.data.toList := fun e => h (by
    cases s; cases t
    congr 1
    exact Array.toList_inj.mp e)
  simpa using this
/-- Are two lists of texts the same? -/
def sameT (a b : List ByteArray) : Bool := decide (a = b)
theorem sameT_len {a b : List ByteArray} (h : ¬ a.length = b.length) : sameT a b = false := decide_eq_false (fun e => h (by rw [e]))
theorem sameT_at {a b : List ByteArray} {k : Nat} (h1 : k < a.length) (h2 : k < b.length) (h : ¬ a[k] = b[k]) : sameT a b = false := decide_eq_false (fun e => h (by subst e; rfl))
theorem sameT_all {a b : List ByteArray} (hl : a.length = b.length) (h : ∀ k (h1 : k < a.length) (h2 : k < b.length), a[k] = b[k]) : sameT a b = true := decide_eq_true (List.ext_getElem hl h)
set_option maxRecDepth 100000 in
set_option maxHeartbeats 1000000 in
theorem one_differ (w : World) (v u : Value) (a b : List ByteArray) (hv : TxAt w v a) (hu : TxAt w u b) (hne : ¬ a.length = b.length) :
    Calls Tryd.prog 17 #[v, u] w fun e w' => e = .returned (.bool (sameT a b)) ∧ Ext w w' := by
  rw [sameT_len hne]
  obtain ⟨_, q, c, rfl, _⟩ := hv
  obtain ⟨_, q2, c2, rfl, _⟩ := hu
  have e0 : ((a.length : Int) == (b.length : Int)) = false := by simp; omega
  have e1 : ((a.length : Int) != (b.length : Int)) = true := by simp; omega
  clear hne
  go_enter Tryd.func17, Tryd.ntmps17
  go_wp2_with fail
  go_ret
  exact ⟨rfl, Ext.refl w⟩
set_option maxRecDepth 100000 in
set_option maxHeartbeats 1000000 in
theorem one_same (w : World) (v u : Value) (a b : List ByteArray) (hv : TxAt w v a) (hu : TxAt w u b) (hl : a.length = b.length) :
    Calls Tryd.prog 17 #[v, u] w fun e w' => e = .returned (.bool (sameT a b)) ∧ Ext w w' := by
  have HV := Lib.hid hv
  have HU := Lib.hid hu
  have HL := Lib.hid hl
  obtain ⟨hm, q, c, rfl, hx⟩ := hv
  obtain ⟨_, q2, c2, hue, hy⟩ := hu
  rw [← hl] at hue
  subst hue
  have HX := Lib.hid hx
  have HY := Lib.hid hy
  clear hx hy hl
  go_enter Tryd.func17, Tryd.ntmps17
  go_wp2_with fail
  go_loopw [5] (fun v5 wr => ∃ k : Nat, v5 = .int .i64 k ∧ k ≤ a.length ∧ Hid (Ext w wr) ∧ Hid (∀ j (h1 : j < a.length) (h2 : j < b.length), j < k → a[j] = b[j])) (fun v5 _ => a.length - (intOf v5).toNat)
  case atStart => exact ⟨0, rfl, Nat.zero_le _, Lib.hid (Ext.refl w), Lib.hid (fun j _ _ h => absurd h (by omega))⟩
  case round =>
    obtain ⟨k, rfl, hk, HE, HA⟩ := hrel
    by_cases hlt : k < a.length
    · have hlt2 : k < b.length := by have := HL.out; omega
      obtain ⟨b1, o1, hq, hx⟩ := HX.out (by omega)
      obtain ⟨b2, o2, hq2, hy⟩ := HY.out (by omega)
      have c1 : wr.cell? ⟨b1, o1 + k, none⟩ = some (.string a[k]) := HE.out.cell (hx k hlt)
      have c2 : wr.cell? ⟨b2, o2 + k, none⟩ = some (.string b[k]) := HE.out.cell (hy k hlt2)
      have HNO : Hid (¬ a[k] = b[k] → sameT a b = false) := Lib.hid (sameT_at hlt hlt2)
      have HYE : Hid (a[k] = b[k] → ∀ j (h1 : j < a.length) (h2 : j < b.length), j < k + 1 → a[j] = b[j]) := Lib.hid (fun h j h1 h2 hj => by
        rcases Nat.lt_or_ge j k with h' | h'
        · exact HA.out j h1 h2 h'
        · obtain rfl : j = k := by omega
          exact h)
      generalize a[k] = s at c1 HNO HYE
      generalize b[k] = t at c2 HNO HYE
      subst hq hq2
      have k0 : (0 : Int) ≤ (k : Int) := by omega
      have k1 : (k : Int) < (a.length : Int) := by omega
      clear hx hy HX HY HV HU
      by_cases hst : s = t
      · subst hst
        have HA2 := Lib.hid (HYE.out rfl)
        clear HYE HNO
        go_wp2_with fail
        go_quiet (fail)
        have HE2 := Lib.hid (HE.out.drewN nq)
        generalize wr.drewN nq = wr2 at HE2 ⊢
        clear c1 c2
        go_wp2_with fail
        go_roundw
        case rel => exact ⟨k + 1, by go_num, by omega, HE2, HA2⟩
        case measure => simp [intOf]; omega
      · have HN := Lib.hid (HNO.out hst)
        have hts := str_ne hst
        clear hst
        clear HYE HNO
        go_wp2_with fail
        go_quiet (fail)
        have HE2 := Lib.hid (HE.out.drewN nq)
        generalize wr.drewN nq = wr2 at HE2 ⊢
        clear c1 c2
        go_wp2_with fail
        go_ret
        rw [HN.out]
        exact ⟨rfl, HE2.out⟩
    · obtain rfl : k = a.length := by omega
      go_wp2_with fail
      go_ret
      rw [sameT_all HL.out (fun j h1 h2 => HA.out j h1 h2 h1)]
      exact ⟨rfl, HE.out⟩
theorem one_any' (w : World) (v u : Value) (a b : List ByteArray) (hv : TxAt w v a) (hu : TxAt w u b) :
    Calls Tryd.prog 17 #[v, u] w fun e w' => e = .returned (.bool (sameT a b)) ∧ Ext w w' := by
  by_cases hl : a.length = b.length
  · exact one_same w v u a b hv hu hl
  · exact one_differ w v u a b hv hu hl
end Go.Proofs.YtopdgmchkoaeeaaDoor
