/- The reference's request. -/
import Derived.Test.YtopdgmchkoaeeaaDoorRtR
import Derived.Test.YtopdgmchkoaeeaaDoorRtC
import Derived.Test.YtopdgmchkoaeeaaDoorExt
import Derived.BigQuiet
namespace Go.Proofs.YtopdgmchkoaeeaaDoor
open Go.RowKit
set_option linter.unusedVariables false
set_option linter.unusedSimpArgs false

/-- How much texts are. -/
def bulk (ts : List ByteArray) : Nat := 5 * ts.length + sumS ts
def fewB (ts : List ByteArray) : Bool := decide (bulk ts ≤ 3000)
theorem bulk_next (l : List ByteArray) (k : Nat) (h : k < l.length) : bulk (l.take (k + 1)) = bulk (l.take k) + 5 + l[k].size := by
  unfold bulk
  rw [sumS_next l k h, List.length_take, List.length_take]
  omega
theorem bulk_take (l : List ByteArray) (k : Nat) : bulk (l.take k) ≤ bulk l := by
  unfold bulk
  have := sumS_take l k
  rw [List.length_take]
  omega
set_option maxRecDepth 100000 in
set_option maxHeartbeats 1000000 in
theorem few_any (w : World) (v : Value) (ts : List ByteArray) (h : TxAt w v ts) (hz : ∀ s ∈ ts, s.size ≤ 9223372036854770000) :
    Calls Tryd.prog 12 #[v] w fun e w' => e = .returned (.bool (fewB ts)) ∧ w = w' := by
  obtain ⟨hm, q, c, rfl, hx⟩ := h
  have HX := Lib.hid hx
  have HZ := Lib.hid hz
  clear hx hz
  go_enter Tryd.func12, Tryd.ntmps12
  go_wp2_with fail
  go_loop [3, 4] (fun v3 v4 => ∃ n k : Nat, v3 = .int .i64 n ∧ v4 = .int .i64 k ∧ k ≤ ts.length ∧ n ≤ 9223372036854774000 ∧ Hid (bulk (ts.take k) = n)) (fun _ v4 => ts.length - (intOf v4).toNat)
  case atStart => exact ⟨0, 0, rfl, rfl, Nat.zero_le _, by omega, Lib.hid rfl⟩
  case round =>
    obtain ⟨n, k, rfl, rfl, hk, hn, HN⟩ := hrel
    by_cases hlt : k < ts.length
    · by_cases hn3 : n ≤ 3000
      · obtain ⟨b, o, hq, hx⟩ := HX.out (by omega)
        have ck : w.cell? ⟨b, o + k, none⟩ = some (.string ts[k]) := hx k hlt
        have hs : ts[k].size ≤ 9223372036854770000 := HZ.out _ (List.getElem_mem hlt)
        have BN := Lib.hid (bulk_next ts k hlt)
        generalize ts[k] = s at ck hs BN
        subst hq
        have k0 : (0 : Int) ≤ (k : Int) := by omega
        have k1 : (k : Int) < (ts.length : Int) := by omega
        have d1 : decide ((k : Int) < (ts.length : Int)) = true := decide_eq_true k1
        have d2 : decide ((n : Int) ≤ 3000) = true := decide_eq_true (by omega)
        clear hx HX
        go_wp2_with fail
        go_round
        case rel => exact ⟨n + 5 + s.size, k + 1, by first | rfl | go_num, by go_num, by omega, by omega, Lib.hid (by rw [BN.out, HN.out])⟩
        case measure => simp [intOf]; omega
      · have d1 : decide ((k : Int) < (ts.length : Int)) = true := decide_eq_true (by omega)
        have d2 : decide ((n : Int) ≤ 3000) = false := decide_eq_false (by omega)
        have hb := bulk_take ts k
        have hF : fewB ts = false := decide_eq_false (by have := HN.out; omega)
        have HF := Lib.hid hF
        clear hb hF
        go_wp2_with fail
        go_ret
        rw [HF.out]
        exact ⟨rfl, rfl⟩
    · obtain rfl : k = ts.length := by omega
      have hb := HN.out
      rw [List.take_length] at hb
      have HB := Lib.hid hb
      clear hb
      by_cases hn3 : n ≤ 3000
      · have d2 : decide ((n : Int) ≤ 3000) = true := decide_eq_true (by omega)
        have HF : Hid (fewB ts = true) := Lib.hid (decide_eq_true (by have := HB.out; omega))
        go_wp2_with fail
        go_ret
        rw [HF.out]
        exact ⟨rfl, rfl⟩
      · have d2 : decide ((n : Int) ≤ 3000) = false := decide_eq_false (by omega)
        have HF : Hid (fewB ts = false) := Lib.hid (decide_eq_false (by have := HB.out; omega))
        go_wp2_with fail
        go_ret
        rw [HF.out]
        exact ⟨rfl, rfl⟩
end Go.Proofs.YtopdgmchkoaeeaaDoor
