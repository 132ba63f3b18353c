/- Small functions of the statements: num, One, few. The closed part of all statements: a request, a reply. -/
import Derived.Test.YtopdgmchkoaeeaaDoorRtB
import Derived.Deep.LoopGhost
import Derived.Lib.Strings
import Derived.Test.YtopdgmchkoaeeaaDoorRtP
import Derived.Test.YtopdgmchkoaeeaaDoorRtO
namespace Go.Proofs.YtopdgmchkoaeeaaDoor
open Go.RowKit
set_option linter.unusedVariables false
set_option linter.unusedSimpArgs false

theorem num_any (w : World) (c : Int) : Calls Tryd.prog 16 #[.int .i64 c] w fun e w' => e = .returned (.int .i64 c) ∧ w = w' := by
  go_enter Tryd.func16, Tryd.ntmps16
  go_wp2_with fail
  go_ret
  exact ⟨rfl, rfl⟩
theorem str_ne {s t : ByteArray} (h : ¬ s = t) : (s.toList == t.toList) = false := by
  rw [Lib.toList_data, Lib.toList_data]
  have : ¬ s.data.toList = t.data.toList := fun e => h (by
    cases s; cases t
    congr 1
    exact Array.toList_inj.mp e)
  simpa using this
/-- Are two lists of texts the same? -/
def sameT (a b : List ByteArray) : Bool := decide (a = b)
theorem sameT_len {a b : List ByteArray} (h : ¬ a.length = b.length) : sameT a b = false := decide_eq_false (fun e => h (by rw [e]))
theorem sameT_at {a b : List ByteArray} {k : Nat} (h1 : k < a.length) (h2 : k < b.length) (h : ¬ a[k] = b[k]) : sameT a b = false := decide_eq_false (fun e => h (by subst e; rfl))
theorem sameT_all {a b : List ByteArray} (hl : a.length = b.length) (h : ∀ k (h1 : k < a.length) (h2 : k < b.length), a[k] = b[k]) : sameT a b = true := decide_eq_true (List.ext_getElem hl h)
set_option maxRecDepth 100000 in
set_option maxHeartbeats 1000000 in
theorem one_differ (w : World) (v u : Value) (a b : List ByteArray) (hv : TxAt w v a) (hu : TxAt w u b) (hne : ¬ a.length = b.length) :
    Calls Tryd.prog 17 #[v, u] w fun e w' => e = .returned (.bool (sameT a b)) ∧ Ext w w' := by
  rw [sameT_len hne]
  obtain ⟨_, q, c, rfl, _⟩ := hv
  obtain ⟨_, q2, c2, rfl, _⟩ := hu
  have e0 : ((a.length : Int) == (b.length : Int)) = false := by simp; omega
  have e1 : ((a.length : Int) != (b.length : Int)) = true := by simp; omega
  clear hne
  go_enter Tryd.func17, Tryd.ntmps17
  go_wp2_with fail
  go_ret
  exact ⟨rfl, Ext.refl w⟩
set_option maxRecDepth 100000 in
set_option maxHeartbeats 1000000 in
theorem one_same (w : World) (v u : Value) (a b : List ByteArray) (hv : TxAt w v a) (hu : TxAt w u b) (hl : a.length = b.length) :
    Calls Tryd.prog 17 #[v, u] w fun e w' => e = .returned (.bool (sameT a b)) ∧ Ext w w' := by
  have HV := Lib.hid hv
  have HU := Lib.hid hu
  have HL := Lib.hid hl
  obtain ⟨hm, q, c, rfl, hx⟩ := hv
  obtain ⟨_, q2, c2, hue, hy⟩ := hu
  rw [← hl] at hue
  subst hue
  have HX := Lib.hid hx
  have HY := Lib.hid hy
  clear hx hy hl
  go_enter Tryd.func17, Tryd.ntmps17
  go_wp2_with fail
  go_loopw [5] (fun v5 wr => ∃ k : Nat, v5 = .int .i64 k ∧ k ≤ a.length ∧ Hid (Ext w wr) ∧ Hid (∀ j (h1 : j < a.length) (h2 : j < b.length), j < k → a[j] = b[j])) (fun v5 _ => a.length - (intOf v5).toNat)
  case atStart => exact ⟨0, rfl, Nat.zero_le _, Lib.hid (Ext.refl w), Lib.hid (fun j _ _ h => absurd h (by omega))⟩
  case round =>
    obtain ⟨k, rfl, hk, HE, HA⟩ := hrel
    by_cases hlt : k < a.length
    · have hlt2 : k < b.length := by have := HL.out; omega
      obtain ⟨b1, o1, hq, hx⟩ := HX.out (by omega)
      obtain ⟨b2, o2, hq2, hy⟩ := HY.out (by omega)
      have c1 : wr.cell? ⟨b1, o1 + k, none⟩ = some (.string a[k]) := HE.out.cell (hx k hlt)
      have c2 : wr.cell? ⟨b2, o2 + k, none⟩ = some (.string b[k]) := HE.out.cell (hy k hlt2)
      have HNO : Hid (¬ a[k] = b[k] → sameT a b = false) := Lib.hid (sameT_at hlt hlt2)
      have HYE : Hid (a[k] = b[k] → ∀ j (h1 : j < a.length) (h2 : j < b.length), j < k + 1 → a[j] = b[j]) := Lib.hid (fun h j h1 h2 hj => by
        rcases Nat.lt_or_ge j k with h' | h'
        · exact HA.out j h1 h2 h'
        · obtain rfl : j = k := by omega
          exact h)
      generalize a[k] = s at c1 HNO HYE
      generalize b[k] = t at c2 HNO HYE
      subst hq hq2
      have k0 : (0 : Int) ≤ (k : Int) := by omega
      have k1 : (k : Int) < (a.length : Int) := by omega
      clear hx hy HX HY HV HU
      by_cases hst : s = t
      · subst hst
        have HA2 := Lib.hid (HYE.out rfl)
        clear HYE HNO
        go_wp2_with fail
        go_quiet (fail)
        have HE2 := Lib.hid (HE.out.drewN nq)
        generalize wr.drewN nq = wr2 at HE2 ⊢
        clear c1 c2
        go_wp2_with fail
        go_roundw
        case rel => exact ⟨k + 1, by go_num, by omega, HE2, HA2⟩
        case measure => simp [intOf]; omega
      · have HN := Lib.hid (HNO.out hst)
        have hts := str_ne hst
        clear hst
        clear HYE HNO
        go_wp2_with fail
        go_quiet (fail)
        have HE2 := Lib.hid (HE.out.drewN nq)
        generalize wr.drewN nq = wr2 at HE2 ⊢
        clear c1 c2
        go_wp2_with fail
        go_ret
        rw [HN.out]
        exact ⟨rfl, HE2.out⟩
    · obtain rfl : k = a.length := by omega
      go_wp2_with fail
      go_ret
      rw [sameT_all HL.out (fun j h1 h2 => HA.out j h1 h2 h1)]
      exact ⟨rfl, HE.out⟩
theorem one_any' (w : World) (v u : Value) (a b : List ByteArray) (hv : TxAt w v a) (hu : TxAt w u b) :
    Calls Tryd.prog 17 #[v, u] w fun e w' => e = .returned (.bool (sameT a b)) ∧ Ext w w' := by
  by_cases hl : a.length = b.length
  · exact one_same w v u a b hv hu hl
  · exact one_differ w v u a b hv hu hl
end Go.Proofs.YtopdgmchkoaeeaaDoor
namespace Go.Proofs.YtopdgmchkoaeeaaDoor
open Go.RowKit
set_option linter.unusedVariables false
set_option linter.unusedSimpArgs false

theorem parseS_of {l r : List UInt8} {ts : List ByteArray} (h : parseR l = .ok (ts, r)) : parseS l = .ok (ts, l.length - r.length) := by
  have hb := parse_br l
  rw [h] at hb
  cases hs : parseS l with
  | error e => rw [hs] at hb; exact False.elim hb
  | ok x =>
    rw [hs] at hb
    obtain ⟨x1, x2⟩ := x
    obtain ⟨h1, h2, h3⟩ := hb
    simp only at h1 h2 h3
    subst h1 h3
    rw [List.length_drop]
    congr 2
    omega
theorem parseS_err {l : List UInt8} {c : Int} (h : parseR l = .error c) : parseS l = .error c := by
  have hb := parse_br l
  rw [h] at hb
  cases hs : parseS l with
  | ok x => rw [hs] at hb; exact False.elim hb
  | error e => rw [hs] at hb; obtain rfl : e = c := hb; rfl
theorem parseS_reads (l : List ByteArray) (r : List UInt8) (h : reqOk l) : parseS (reqB l ++ r) = .ok (l, (reqB l).length) := by
  rw [parseS_of (parse_reads l r h), List.length_append]
  congr 2
  omega
theorem decodeS_of {l r : List UInt8} {x : Rep} {t i : Nat} (h : decodeR l = .ok ((x, t, i), r)) : decodeS l = .ok (x, ⟨l.length - r.length, t, i⟩) := by
  have hb := decode_br l
  rw [h] at hb
  cases hs : decodeS l with
  | error e => rw [hs] at hb; exact False.elim hb
  | ok y =>
    rw [hs] at hb
    obtain ⟨y1, y2, y3, y4⟩ := y
    obtain ⟨h1, h2, h3, h4, h5⟩ := hb
    simp only at h1 h2 h3 h4 h5
    subst h1 h2 h3 h5
    rw [List.length_drop]
    congr 3
    omega
theorem decodeS_err {l : List UInt8} {c : Int} (h : decodeR l = .error c) : decodeS l = .error c := by
  have hb := decode_br l
  rw [h] at hb
  cases hs : decodeS l with
  | ok x => rw [hs] at hb; exact False.elim hb
  | error e => rw [hs] at hb; obtain rfl : e = c := hb; rfl
theorem decodeS_reads (x : Rep) (r : List UInt8) (h : repOk x) (h6 : i64R x) : decodeS (encR x ++ r) = .ok (x, ⟨(encR x).length, 1048576 - txR x, 65536 - itR x⟩) := by
  rw [decodeS_of (decode_reads x r h h6), List.length_append]
  congr 3
  omega
theorem nums_str (l : List UInt8) : strOfNums (l.map fun c => (c.toNat : Int)) = ⟨l.toArray⟩ := by
  unfold strOfNums
  congr 2
  rw [List.map_map]
  conv => rhs; rw [← List.map_id l]
  exact List.map_congr_left fun c _ => by simp
/-- Bytes as a text. -/
theorem conv_any {w : World} {q : Option Addr} {c : Nat} {l : List UInt8} (h : BytesAt w q c l) : (convert 25 9 (.slice q l.length c)).run Tryd.prog w = .ok (.string ⟨l.toArray⟩) w := by
  rcases h.slot with ⟨rfl, rfl⟩ | ⟨b, o, rfl, _⟩
  · have hr := h.room.1
    obtain rfl : l = [] := List.eq_nil_of_length_eq_zero (by omega)
    exact conv_nil w 0 0
  · have := run_convert_bytes_arg (P := Tryd.prog) w 25 5 Tryd.underlying25 Tryd.underlying5 b o l.length c (l.map fun x => (x.toNat : Int)) (by simp) (fun k hk => by
      obtain ⟨b', o', e, hc⟩ := h.bytes k hk
      cases e
      rw [List.getD_eq_getElem?_getD, List.getElem?_map, List.getElem?_eq_getElem hk]
      exact hc) 9 Tryd.underlying9
    rw [nums_str] at this
    exact this
def gl : List ByteArray := [⟨#[71, 69, 84]⟩, ⟨#[97]⟩]
def gb : List UInt8 := [42, 50, 13, 10, 36, 51, 13, 10, 71, 69, 84, 13, 10, 36, 49, 13, 10, 97, 13, 10]
theorem gb_eq : reqB gl = gb := by
  have e1 : (⟨#[71, 69, 84]⟩ : ByteArray).size = 3 := rfl
  have e2 : (⟨#[97]⟩ : ByteArray).size = 1 := rfl
  simp [reqB, gl, gb, textsB, textB, lineB, e1, e2, dec_small]
theorem gl_ok : reqOk gl := ⟨by decide, by decide, by decide⟩
theorem gb_len : gb.length = 20 := rfl
def xr : Rep := .mk 5 0 ⟨#[]⟩ [.mk 3 1 ⟨#[]⟩ [], .mk 0 0 ⟨#[]⟩ []]
def xb : List UInt8 := [42, 50, 13, 10, 58, 49, 13, 10, 36, 45, 49, 13, 10]
theorem xb_eq : encR xr = xb := by
  have e1 : Lib.itoa 1 = [49] := by
    have := Lib.itoa_nonneg 1
    rw [show ((1 : Nat) : Int) = 1 by rfl] at this
    rw [this, dec_small (by omega)]; rfl
  simp [xr, xb, encR, encL, lineB, e1, dec_small]
theorem xr_ok : repOkB xr = true := by rfl
theorem xr_64 : i64R xr := by simp [xr, i64R, i64L]
end Go.Proofs.YtopdgmchkoaeeaaDoor
