/- The closed part of all statements: a request, a reply. -/
import Derived.Test.YtopdgmchkoaeeaaDoorRtR
import Derived.Test.YtopdgmchkoaeeaaDoorRtQ
import Derived.Test.YtopdgmchkoaeeaaDoorRtO
namespace Go.Proofs.YtopdgmchkoaeeaaDoor
open Go.RowKit
set_option linter.unusedVariables false
set_option linter.unusedSimpArgs false

theorem parseS_of {l r : List UInt8} {ts : List ByteArray} (h : parseR l = .ok (ts, r)) : parseS l = .ok (ts, l.length - r.length) := by
  have hb := parse_br l
  rw [h] at hb
  cases hs : parseS l with
  | error e => rw [hs] at hb; exact False.elim hb
  | ok x =>
    rw [hs] at hb
    obtain ⟨x1, x2⟩ := x
    obtain ⟨h1, h2, h3⟩ := hb
    simp only at h1 h2 h3
    subst h1 h3
    rw [List.length_drop]
    congr 2
    omega
theorem parseS_err {l : List UInt8} {c : Int} (h : parseR l = .error c) : parseS l = .error c := by
  have hb := parse_br l
  rw [h] at hb
  cases hs : parseS l with
  | ok x => rw [hs] at hb; exact False.elim hb
  | error e => rw [hs] at hb; obtain rfl : e = c := hb; rfl
theorem parseS_reads (l : List ByteArray) (r : List UInt8) (h : reqOk l) : parseS (reqB l ++ r) = .ok (l, (reqB l).length) := by
  rw [parseS_of (parse_reads l r h), List.length_append]
  congr 2
  omega
theorem decodeS_of {l r : List UInt8} {x : Rep} {t i : Nat} (h : decodeR l = .ok ((x, t, i), r)) : decodeS l = .ok (x, ⟨l.length - r.length, t, i⟩) := by
  have hb := decode_br l
  rw [h] at hb
  cases hs : decodeS l with
  | error e => rw [hs] at hb; exact False.elim hb
  | ok y =>
    rw [hs] at hb
    obtain ⟨y1, y2, y3, y4⟩ := y
    obtain ⟨h1, h2, h3, h4, h5⟩ := hb
    simp only at h1 h2 h3 h4 h5
    subst h1 h2 h3 h5
    rw [List.length_drop]
    congr 3
    omega
theorem decodeS_err {l : List UInt8} {c : Int} (h : decodeR l = .error c) : decodeS l = .error c := by
  have hb := decode_br l
  rw [h] at hb
  cases hs : decodeS l with
  | ok x => rw [hs] at hb; exact False.elim hb
  | error e => rw [hs] at hb; obtain rfl : e = c := hb; rfl
theorem decodeS_reads (x : Rep) (r : List UInt8) (h : repOk x) (h6 : i64R x) : decodeS (encR x ++ r) = .ok (x, ⟨(encR x).length, 1048576 - txR x, 65536 - itR x⟩) := by
  rw [decodeS_of (decode_reads x r h h6), List.length_append]
  congr 3
  omega
theorem nums_str (l : List UInt8) : strOfNums (l.map fun c => (c.toNat : Int)) = ⟨l.toArray⟩ := by
  unfold strOfNums
  congr 2
  rw [List.map_map]
  conv => rhs; rw [← List.map_id l]
  exact List.map_congr_left fun c _ => by simp
/-- Bytes as a text. -/
theorem conv_any {w : World} {q : Option Addr} {c : Nat} {l : List UInt8} (h : BytesAt w q c l) : (convert 25 9 (.slice q l.length c)).run Tryd.prog w = .ok (.string ⟨l.toArray⟩) w := by
  rcases h.slot with ⟨rfl, rfl⟩ | ⟨b, o, rfl, _⟩
  · have hr := h.room.1
    obtain rfl : l = [] := List.eq_nil_of_length_eq_zero (by omega)
    exact conv_nil w 0 0
  · have := run_convert_bytes_arg (P := Tryd.prog) w 25 5 Tryd.underlying25 Tryd.underlying5 b o l.length c (l.map fun x => (x.toNat : Int)) (by simp) (fun k hk => by
      obtain ⟨b', o', e, hc⟩ := h.bytes k hk
      cases e
      rw [List.getD_eq_getElem?_getD, List.getElem?_map, List.getElem?_eq_getElem hk]
      exact hc) 9 Tryd.underlying9
    rw [nums_str] at this
    exact this
def gl : List ByteArray := [⟨#[71, 69, 84]⟩, ⟨#[97]⟩]
def gb : List UInt8 := [42, 50, 13, 10, 36, 51, 13, 10, 71, 69, 84, 13, 10, 36, 49, 13, 10, 97, 13, 10]
theorem gb_eq : reqB gl = gb := by
  have e1 : (⟨#[71, 69, 84]⟩ : ByteArray).size = 3 := rfl
  have e2 : (⟨#[97]⟩ : ByteArray).size = 1 := rfl
  simp [reqB, gl, gb, textsB, textB, lineB, e1, e2, dec_small]
theorem gl_ok : reqOk gl := ⟨by decide, by decide, by decide⟩
theorem gb_len : gb.length = 20 := rfl
def xr : Rep := .mk 5 0 ⟨#[]⟩ [.mk 3 1 ⟨#[]⟩ [], .mk 0 0 ⟨#[]⟩ []]
def xb : List UInt8 := [42, 50, 13, 10, 58, 49, 13, 10, 36, 45, 49, 13, 10]
theorem xb_eq : encR xr = xb := by
  have e1 : Lib.itoa 1 = [49] := by
    have := Lib.itoa_nonneg 1
    rw [show ((1 : Nat) : Int) = 1 by rfl] at this
    rw [this, dec_small (by omega)]; rfl
  simp [xr, xb, encR, encL, lineB, e1, dec_small]
theorem xr_ok : repOkB xr = true := by rfl
theorem xr_64 : i64R xr := by simp [xr, i64R, i64L]
end Go.Proofs.YtopdgmchkoaeeaaDoor
