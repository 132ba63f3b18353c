/- Pieces of bytes among the arguments of a law: opened. -/
import Derived.Test.YtopdgmchkoaeeaaDoorRtZ
import Derived.Test.YtopdgmchkoaeeaaDoorRdC
namespace Go.Proofs.YtopdgmchkoaeeaaDoor
open Go.ChangeShapes Go.WideShapes Go.ChangeAt Go.RowKit Go.Joins Go.Deep
set_option linter.unusedVariables false
set_option linter.unusedSimpArgs false
variable {H : Type} {enc : TypeId × Value → H} {w : World}

structure Pc where
  q : Option Addr
  c : Nat
  l : List UInt8
instance : Inhabited Pc := ⟨⟨none, 0, []⟩⟩
theorem bytes_u8 : Tryd.prog.bytesOf 5 = 1 := by kernel_rfl
set_option maxRecDepth 100000 in
theorem piece_open {n : Nat} {cv : Value} {y : DataW H × List MemPlace} (h : DataW.trod enc Tryd.prog w 0 (fun _ => true) true n 25 [cv] = some y) :
    ∃ p : Pc, cv = .slice p.q p.l.length p.c ∧ PieceV w p.q p.c p.l ∧ (p.l.length = 0 ∨ ∃ k ∈ y.1.weights Tryd.prog 25, p.l.length ≤ k) := by
  have mx : maxLen ≤ 9223372036854775807 := by decide
  rcases open_slice1 Tryd.underlying25 cell_byte h with ⟨e, _⟩ | ⟨a, len, cap, m, n', V, D, Pl, e, _, hlc, hcm, hm, ex, hx⟩
  · cases e
    exact ⟨⟨none, 0, []⟩, rfl, .inl ⟨fun k hk => absurd hk (by simp), by simp, .inl ⟨rfl, rfl⟩, ⟨Nat.le_refl _, by show (0 : Nat) ≤ _; omega⟩⟩, .inl rfl⟩
  · cases e
    have hm' : m = cap := by rw [hm]; rfl
    subst hm'
    rcases Nat.eq_zero_or_pos len with h0 | h0
    · subst h0
      exact ⟨⟨some a, m, []⟩, rfl, .inr ⟨rfl, a, rfl⟩, .inl rfl⟩
    · have h00 := (hx 0 (by omega)).1
      have hpl : a = ⟨a.block, a.off, none⟩ := plain_eq (by have := cell_plain h00; simpa [Addr.add] using this)
      have hbl : a.block < w.heap.size := by
        have h1 := cell_lt h00
        have h2 : (a.add 0).block = a.block := by unfold Addr.add; split <;> rfl
        rw [h2] at h1
        exact h1
      have hone : ∀ i, i < len → ∃ z : UInt8, w.cell? ⟨a.block, a.off + i, none⟩ = some (.int .u8 (z.toNat : Int)) := by
        intro i hi
        obtain ⟨hc, ht⟩ := hx i (by omega)
        obtain ⟨x, e, _, wx⟩ := DataW.trod_int uByte ht
        simp only [List.cons.injEq, and_true] at e
        rw [hpl, add_at, e] at hc
        have hw := u8_wf wx
        refine ⟨UInt8.ofNat x.toNat, ?_⟩
        rw [hc]
        congr 2
        rw [ofNat_toNat (by omega)]
        omega
      obtain ⟨z, hz⟩ := choose_lt hone
      refine ⟨⟨some a, m, (List.range len).map z⟩, by simp, .inl ⟨fun k hk => ⟨a.block, a.off, by rw [← hpl], ?_⟩, by simp; omega, .inr ⟨a.block, a.off, by rw [← hpl], hbl⟩, ⟨by simpa using hlc, by show m ≤ _; omega⟩⟩, .inr ?_⟩
      · have hk' : k < len := by simpa using hk
        have h9 := hz k hk'
        simp only [List.getElem_map, List.getElem_range]
        exact h9
      · rw [ex]
        refine ⟨(((List.range len).map D).length + ((List.range (m - len)).map fun j => D (len + j)).length) * Tryd.prog.bytesOf 5, ?_, ?_⟩
        · rw [DataW.weights, Tryd.underlying25]
          simp only [List.mem_cons]
          exact .inl trivial
        · rw [bytes_u8]
          simp
set_option maxRecDepth 100000 in
theorem pieces_open {v : Value} {d : DataW H} {pl : List MemPlace} {r : Reach} {b0 : Nat} (hv : Value.okWide Tryd.prog w r b0 47 v) (h : DataW.Trod enc Tryd.prog w 0 (fun _ => true) true 47 v d pl) :
    ∃ (q : Option Addr) (c : Nat) (pss : List (List UInt8)), v = .slice q pss.length c ∧ PiecesAt w q pss ∧ ∀ p ∈ pss, p.length = 0 ∨ ∃ k ∈ d.weights Tryd.prog 47, p.length ≤ k := by
  obtain ⟨a0, len0, cap0, rfl⟩ := okWide_slice Tryd.underlying47 hv
  obtain ⟨n, h⟩ := h
  simp only [Value.cells] at h
  rcases open_slice1 Tryd.underlying47 cell_bytes h with ⟨e, _⟩ | ⟨a, len, cap, m, n', V, D, Pl, e, _, hlc, hcm, hm, ex, hx⟩
  · cases e
    exact ⟨none, 0, [], rfl, fun h => absurd h (by simp), fun p hp => by simp at hp⟩
  · cases e
    have hm' : m = cap0 := by rw [hm]; rfl
    subst hm'
    have hone : ∀ i, i < len0 → ∃ p : Pc, a = ⟨a.block, a.off, none⟩ ∧ w.cell? ⟨a.block, a.off + i, none⟩ = some (.slice p.q p.l.length p.c) ∧ PieceV w p.q p.c p.l ∧ (p.l.length = 0 ∨ ∃ k ∈ (D i).weights Tryd.prog 25, p.l.length ≤ k) := by
      intro i hi
      have h00 := (hx 0 (by omega)).1
      have hpl : a = ⟨a.block, a.off, none⟩ := plain_eq (by have := cell_plain h00; simpa [Addr.add] using this)
      obtain ⟨hc, ht⟩ := hx i (by omega)
      obtain ⟨p, e1, e2, e3⟩ := piece_open ht
      rw [hpl, add_at, e1] at hc
      exact ⟨p, hpl, hc, e2, e3⟩
    obtain ⟨z, hz⟩ := choose_lt hone
    refine ⟨some a, m, (List.range len0).map fun i => (z i).l, by simp, fun h0 => ?_, fun p hp => ?_⟩
    · have h1 : 0 < len0 := by simpa using h0
      refine ⟨a.block, a.off, by rw [← (hz 0 h1).1], fun i hi => ?_⟩
      have hi' : i < len0 := by simpa using hi
      have h2 := hz i hi'
      refine ⟨(z i).q, (z i).c, ?_, ?_⟩
      · simpa using h2.2.1
      · simpa using h2.2.2.1
    · simp only [List.mem_map, List.mem_range] at hp
      obtain ⟨i, hi, rfl⟩ := hp
      rcases (hz i hi).2.2.2 with h1 | ⟨k, hk, h1⟩
      · exact .inl h1
      · refine .inr ⟨k, ?_, h1⟩
        have h2 : D i ∈ (List.range len0).map D := List.mem_map.mpr ⟨i, List.mem_range.mpr hi, rfl⟩
        rw [(Prod.mk.inj ex).1]
        exact weights_slice (P := Tryd.prog) (t := 47) (e := 25) Tryd.underlying47 _ _ (D i) h2 _ hk
end Go.Proofs.YtopdgmchkoaeeaaDoor
