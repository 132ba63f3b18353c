/- A request that is laid: whether it may be. -/
import Derived.Test.YtopdgmchkoaeeaaDoorRsH
import Derived.Test.YtopdgmchkoaeeaaDoorRspP
import Derived.Test.YtopdgmchkoaeeaaDoorPow
import Derived.Test.YtopdgmchkoaeeaaDoorBld
namespace Go.Proofs.YtopdgmchkoaeeaaDoor
open Go.RowKit
set_option linter.unusedVariables false
set_option linter.unusedSimpArgs false

/-- Texts as they lie. -/
def TxAt (w : World) (v : Value) (ts : List ByteArray) : Prop :=
  ts.length ≤ 9223372036854775807 ∧ ∃ (q : Option Addr) (c : Nat), v = .slice q ts.length c ∧ (0 < ts.length → ∃ b o, q = some ⟨b, o, none⟩ ∧ ∀ i (h : i < ts.length), w.cell? ⟨b, o + i, none⟩ = some (.string ts[i]))
theorem TxAt.ext {w w' : World} {v : Value} {ts : List ByteArray} (h : TxAt w v ts) (he : Ext w w') : TxAt w' v ts := by
  obtain ⟨h0, q, c, e, h⟩ := h
  exact ⟨h0, q, c, e, fun hl => let ⟨b, o, e, hx⟩ := h hl; ⟨b, o, e, fun i hi => he.cell (hx i hi)⟩⟩
/-- Texts in blocks below a number. -/
theorem TxAt.only {w w' : World} {g : Nat} {v : Value} {ts : List ByteArray} (h : TxAt w v ts) (ho : Only g w w') (hg : ∀ q c b o n, v = .slice q n c → q = some ⟨b, o, none⟩ → b ≠ g) : TxAt w' v ts := by
  obtain ⟨h0, q, c, e, h⟩ := h
  exact ⟨h0, q, c, e, fun hl => let ⟨b, o, e', hx⟩ := h hl; ⟨b, o, e', fun i hi => ho.cell (hg _ _ _ _ _ e e') (hx i hi)⟩⟩

set_option maxRecDepth 100000 in
theorem long_any (w : World) (L z : Nat) (s : ByteArray) (h : Blk w L 3 #[.int .i64 (z : Int)]) (hz : z ≤ 1048576) :
    Calls Tryd.prog 35 #[.string s, .pointer (some ⟨L, 0, none⟩)] w fun e w' => e = .returned (.bool (decide (z < s.size))) ∧ Only L w w' ∧ (s.size ≤ z → Blk w' L 3 #[.int .i64 ((z - s.size : Nat) : Int)]) := by
  have c0 := h.cell 0
  have z0 := h.frozen 0
  simp only [List.getElem?_toArray, List.getElem?_cons_zero, List.getElem?_cons_succ] at c0
  have H := Lib.hid h
  clear h
  by_cases hs : s.size < 1048577
  · have hm : min (s.size : Int) 1048577 = (s.size : Int) := by omega
    have hlt : (s.size : Int) < 1048577 := by omega
    have hw : IntKind.i64.wrap ((z : Int) - (s.size : Int)) = (z : Int) - (s.size : Int) := IntWalk.i64_in _ (by omega)
    go_enter Tryd.func35, Tryd.ntmps35
    go_wp2_with fail
    go_ret
    refine ⟨ret_of (bool_eq (by rw [decide_eq_decide]; omega)), (Only.refl L w).set 0 _, fun hle => ?_⟩
    have := H.out.set_ 0 (.int .i64 ((z : Int) - (s.size : Int)))
    rw [show ((z - s.size : Nat) : Int) = (z : Int) - (s.size : Int) by omega]
    simpa using this
  · have hm : min (s.size : Int) 1048577 = 1048577 := by omega
    have hlt : (1048577 : Int) ≤ (s.size : Int) := by omega
    have hw : IntKind.i64.wrap ((z : Int) - 1048577) = (z : Int) - 1048577 := IntWalk.i64_in _ (by omega)
    go_enter Tryd.func35, Tryd.ntmps35
    go_wp2_with fail
    all_goals
      go_ret
      exact ⟨ret_of (bool_eq (by rw [decide_eq_decide]; omega)), (Only.refl L w).set 0 _, fun hle => absurd hle (by omega)⟩
theorem sumS_cons (s : ByteArray) (l : List ByteArray) : sumS (s :: l) = s.size + sumS l := by simp [sumS]
theorem sumS_append (l m : List ByteArray) : sumS (l ++ m) = sumS l + sumS m := by simp [sumS]
theorem sumS_next (l : List ByteArray) (k : Nat) (h : k < l.length) : sumS (l.take (k + 1)) = sumS (l.take k) + l[k].size := by
  rw [List.take_succ_eq_append_getElem h, sumS_append]; simp [sumS]
theorem sumS_take (l : List ByteArray) (k : Nat) : sumS (l.take k) ≤ sumS l := by
  have := sumS_append (l.take k) (l.drop k)
  rw [List.take_append_drop] at this
  omega
/-- The first text that is too long. -/
def IdxE (w : World) (L z : Nat) (ts : List ByteArray) (e : Ending) (w' : World) : Prop :=
  ∃ n : Int, e = .returned (.int .i64 n) ∧ (n = -1 ∨ 0 ≤ n) ∧ (0 ≤ n ↔ z < sumS ts) ∧ Only L w w'
set_option maxRecDepth 100000 in
set_option maxHeartbeats 1000000 in
theorem idx_any (w : World) (L z : Nat) (v : Value) (ts : List ByteArray) (h : Blk w L 3 #[.int .i64 (z : Int)]) (hz : z ≤ 1048576) (ht : TxAt w v ts) (hL : ∀ q c b o n, v = .slice q n c → q = some ⟨b, o, none⟩ → b ≠ L) :
    Calls Tryd.prog 61 #[v, .func (.func 35) #[] #[.pointer (some ⟨L, 0, none⟩)]] w (IdxE w L z ts) := by
  have H := Lib.hid h
  have HT := Lib.hid ht
  obtain ⟨hlen, q, c, rfl, hx⟩ := ht
  have HX := Lib.hid hx
  have HL := Lib.hid (fun b o e => hL q c b o ts.length rfl e)
  clear h hx hL
  go_enter Tryd.func61, Tryd.ntmps61
  go_wp2_with fail
  go_loopw [8] (fun v8 wr => ∃ k : Nat, v8 = .int .i64 k ∧ k ≤ ts.length ∧ sumS (ts.take k) ≤ z ∧ Hid (Blk wr L 3 #[.int .i64 ((z - sumS (ts.take k) : Nat) : Int)]) ∧ Hid (Only L w wr)) (fun v8 _ => ts.length - (intOf v8).toNat)
  case atStart => exact ⟨0, rfl, Nat.zero_le _, Nat.zero_le _, H, Lib.hid (Only.refl _ _)⟩
  case round =>
    obtain ⟨k, rfl, hk, hs, HB, HO⟩ := hrel
    by_cases hlt : k < ts.length
    · obtain ⟨b, o, rfl, hx⟩ := HX.out (by omega)
      have ck : wr.cell? ⟨b, o + k, none⟩ = some (.string ts[k]) := HO.out.cell (HL.out b o rfl) (hx k hlt)
      have SN := Lib.hid (sumS_next ts k hlt)
      generalize ts[k] = s at ck SN
      have k0 : (0 : Int) ≤ (k : Int) := by omega
      have k1 : (k : Int) < (ts.length : Int) := by omega
      clear hx HX H HT
      by_cases hb : z - sumS (ts.take k) < s.size
      · have hd : decide (z - sumS (ts.take k) < s.size) = true := by simp [hb]
        have cL := long_any wr L (z - sumS (ts.take k)) s HB.out (by omega)
        rw [hd] at cL
        have CL := Lib.hid cL
        clear cL hd
        go_wp2_with fail
        refine CL.out.mono ?_
        rintro e w' ⟨rfl, o2, _⟩
        go_wp2_with fail
        go_ret
        have := sumS_take ts (k + 1)
        exact ⟨(k : Int), rfl, .inr (by omega), ⟨fun _ => by have := SN.out; omega, fun _ => by omega⟩, HO.out.trans o2⟩
      · have hd : decide (z - sumS (ts.take k) < s.size) = false := by simp; omega
        have cL := long_any wr L (z - sumS (ts.take k)) s HB.out (by omega)
        rw [hd] at cL
        have CL := Lib.hid cL
        clear cL hd
        go_wp2_with fail
        refine CL.out.mono ?_
        rintro e w' ⟨rfl, o2, hB2⟩
        have HB2 := Lib.hid (hB2 (by omega))
        have HO2 := Lib.hid (HO.out.trans o2)
        clear o2 hB2
        go_wp2_with fail
        go_roundw
        case rel => exact ⟨k + 1, by go_num, by omega, by have := SN.out; omega, Lib.hid (by rw [SN.out, show z - (sumS (ts.take k) + s.size) = z - sumS (ts.take k) - s.size by omega]; exact HB2.out), HO2⟩
        case measure => simp [intOf]; omega
    · obtain rfl : k = ts.length := by omega
      go_wp2_with fail
      go_ret
      rw [List.take_length] at hs
      exact ⟨-1, rfl, .inl rfl, ⟨fun h => by omega, fun h => by omega⟩, HO.out⟩
set_option maxRecDepth 100000 in
theorem has_long (w : World) (L z : Nat) (v : Value) (ts : List ByteArray) (h : Blk w L 3 #[.int .i64 (z : Int)]) (hz : z ≤ 1048576) (ht : TxAt w v ts) (hL : ∀ q c b o n, v = .slice q n c → q = some ⟨b, o, none⟩ → b ≠ L) :
    Calls Tryd.prog 36 #[v, .func (.func 35) #[] #[.pointer (some ⟨L, 0, none⟩)]] w fun e w' => e = .returned (.bool (decide (z < sumS ts))) ∧ Only L w w' := by
  have cI := Lib.hid (idx_any w L z v ts h hz ht hL)
  clear h ht hL
  go_enter Tryd.func36, Tryd.ntmps36
  go_wp2_with fail
  refine cI.out.mono ?_
  rintro e w' ⟨n, rfl, hn, hs, o2⟩
  by_cases h0 : 0 ≤ n
  · have hd : decide (0 ≤ n) = true := by simp [h0]
    go_wp2_with fail
    go_ret
    exact ⟨ret_of (bool_eq (by simp [hs.1 h0])), o2⟩
  · have hd : decide (0 ≤ n) = false := by simp; omega
    go_wp2_with fail
    go_ret
    exact ⟨by first | rfl | exact ret_of (bool_eq (Eq.symm (decide_eq_false (fun h => by have := hs.2 h; omega)))), o2⟩
end Go.Proofs.YtopdgmchkoaeeaaDoor
