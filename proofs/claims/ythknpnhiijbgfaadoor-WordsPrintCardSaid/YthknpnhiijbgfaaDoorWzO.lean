/- Words among the arguments of a law: opened. -/
import Derived.Test.YthknpnhiijbgfaaDoorWdY
import Derived.Test.YthknpnhiijbgfaaDoorMyB
import Derived.Lib.SmallJoins
namespace Go.Proofs.YthknpnhiijbgfaaDoor
open Go.ChangeShapes Go.WideShapes Go.ChangeAt Go.RowKit Go.Joins Go.Deep
set_option linter.unusedVariables false
set_option linter.unusedSimpArgs false

theorem i64_wf {n : Int} (h : (Lit.int .i64 n).wf = true) : -9223372036854775808 ≤ n ∧ n ≤ 9223372036854775807 := by
  simp [Lit.wf, IntKind.min, IntKind.max, IntKind.signed, IntKind.bits] at h
  omega
theorem cell_plain {w : World} {a : Addr} {v : Value} (h : w.cell? a = some v) : a.spot = none := by
  unfold World.cell? at h
  split at h
  · split at h
    · cases h
    · rename_i hs; simpa using hs
  · cases h
theorem plain_eq {a : Addr} (h : a.spot = none) : a = ⟨a.block, a.off, none⟩ := by cases a; simp at h; subst h; rfl
theorem add_at (b o k : Nat) : (⟨b, o, none⟩ : Addr).add k = ⟨b, o + k, none⟩ := by
  unfold Addr.add
  split
  · rename_i h; subst h; rfl
  · rfl
theorem head_plain {w : World} {base : Nat} {a : Addr} {n : Nat} {cs : List Value} (h : w.cells? base (a.add (0 * n)) n = some cs) (hn : 0 < n) : a = ⟨a.block, a.off, none⟩ := by
  obtain ⟨_, hl, hc⟩ := World.cells?_some h
  have h0 := hc 0 hn
  rw [List.getElem?_eq_getElem (by omega)] at h0
  have := cell_plain h0
  simp [Addr.add] at this
  exact plain_eq this
variable {H : Type} {enc : TypeId × Value → H} {w : World} {base : Nat} {sp : Nat → Bool} {hd : Bool}
theorem cell_int : Tryd.prog.cellsOf 3 = 1 := by kernel_rfl
theorem cell_int64 : Tryd.prog.cellsOf 2 = 1 := by kernel_rfl
theorem cell_kind : Tryd.prog.cellsOf 29 = 1 := by kernel_rfl
theorem cell_text : Tryd.prog.cellsOf 9 = 1 := by kernel_rfl
theorem cell_word : Tryd.prog.cellsOf 31 = 4 := by kernel_rfl
theorem uInt : Tryd.prog.underlying 3 = some (.int .i64) := by kernel_rfl
theorem uInt64 : Tryd.prog.underlying 2 = some (.int .i64) := by kernel_rfl
theorem uKind : Tryd.prog.underlying 29 = some (.int .i64) := by kernel_rfl
theorem uStr : Tryd.prog.underlying 9 = some .string := by kernel_rfl
instance : Inhabited Wd := ⟨⟨0, [], 0, 0⟩⟩
theorem weights_all {P : Program} {e : TypeId} : ∀ (l : List (DataW H)) (d : DataW H), d ∈ l → ∀ n ∈ d.weights P e, n ∈ DataW.weightsAll P e l
  | x :: l, d, h, n, hn => by
    rcases List.mem_cons.mp h with rfl | h
    · simp only [DataW.weightsAll, List.mem_append]; exact .inl hn
    · simp only [DataW.weightsAll, List.mem_append]; exact .inr (weights_all l d h n hn)
theorem weights_slice {P : Program} {t e : TypeId} (hu : P.underlying t = some (.slice e)) (l sp : List (DataW H)) (d : DataW H) (hd : d ∈ l) (n : Nat) (hn : n ∈ d.weights P e) : n ∈ (DataW.slice l sp).weights P t := by
  rw [DataW.weights, hu]
  simp only [List.mem_cons, List.mem_append]
  exact .inr (.inl (weights_all l d hd n hn))
/-- Each number of a word is one of 64 bits; its text is as long as the datum says. -/
structure WdW (W : Nat → Prop) (x : Wd) : Prop where
  k : -9223372036854775808 ≤ x.k ∧ x.k ≤ 9223372036854775807
  n : -9223372036854775808 ≤ x.n ∧ x.n ≤ 9223372036854775807
  a : -9223372036854775808 ≤ x.a ∧ x.a ≤ 9223372036854775807
  t : W x.t.length
set_option maxRecDepth 100000 in
theorem words_open {n : Nat} {cv : Value} {y : DataW H × List MemPlace} (h : DataW.trod enc Tryd.prog w 0 (fun _ => true) true n 23 [cv] = some y) :
    ∃ l : List Wd, WordsAt w cv l ∧ l.length ≤ maxLen ∧ ∀ x ∈ l, WdW (fun n => n ∈ y.1.weights Tryd.prog 23) x := by
  rcases open_slice Tryd.underlying23 h with ⟨e, _⟩ | ⟨a, len, cap, m, n', D, Pl, e, _, hlc, hcm, hm, ex, hx⟩
  · cases e
    exact ⟨[], ⟨none, 0, rfl, fun h => by cases h⟩, by decide, fun i hi => by cases hi⟩
  · cases e
    have hm' : m = cap := by rw [hm]; rfl
    subst hm'
    rw [cell_word] at hx
    have hone : ∀ i, i < len → ∃ z : Wd, WdW (fun n => n ∈ (D i).weights Tryd.prog 31) z ∧ a = ⟨a.block, a.off, none⟩ ∧ w.cell? ⟨a.block, a.off + i * 4, none⟩ = some (.int .i64 z.k) ∧ w.cell? ⟨a.block, a.off + i * 4 + 1, none⟩ = some (.string ⟨z.t.toArray⟩) ∧ w.cell? ⟨a.block, a.off + i * 4 + 2, none⟩ = some (.int .i64 z.n) ∧ w.cell? ⟨a.block, a.off + i * 4 + 3, none⟩ = some (.int .i64 z.a) := by
      intro i hi
      obtain ⟨cs0, h00, _⟩ := hx 0 (by omega)
      have hpl := head_plain h00 (by omega)
      obtain ⟨cs, hcs, ht⟩ := hx i (by omega)
      rw [hpl, add_at] at hcs
      obtain ⟨_, hl, hc⟩ := World.cells?_some hcs
      obtain ⟨y0, y1, y2, y3, k, ed, _, t0, t1, t2, t3⟩ := Joins.trod_struct4 Tryd.underlying31 ht
      match cs, hl with
      | [v0, v1, v2, v3], _ =>
        obtain ⟨x0, e0, _, w0⟩ := DataW.trod_int uKind t0
        obtain ⟨s, e1, es, w1⟩ := DataW.trod_string uStr t1
        obtain ⟨x2, e2, _, w2⟩ := DataW.trod_int uInt64 t2
        obtain ⟨x3, e3, _, w3⟩ := DataW.trod_int uInt t3
        simp only [cell_int, cell_int64, cell_kind, cell_text, List.drop_zero, List.drop_succ_cons, List.take_succ_cons, List.take_zero, List.cons.injEq, and_true] at e0 e1 e2 e3
        subst e0 e1 e2 e3
        have hs : (⟨s.data.toList.toArray⟩ : ByteArray) = s := rfl
        refine ⟨⟨x0, s.data.toList, x2, x3⟩, ⟨i64_wf w0, i64_wf w2, i64_wf w3, ?_⟩, hpl, ?_, ?_, ?_, ?_⟩
        · have hD : D i = .agg [y0.1, y1.1, y2.1, y3.1] := (Prod.mk.inj ed).1
          have hy1 : y1.1 = .lit (.string s.data.toList) := by
            rw [es]
          show s.data.toList.length ∈ (D i).weights Tryd.prog 31
          rw [hD, DataW.weights, Tryd.underlying31]
          simp only [List.map_cons, List.map_nil, DataW.weightsEach, hy1, DataW.weights, List.mem_append]
          simp
        · have := hc 0 (by omega); rw [add_at] at this; exact this
        · have := hc 1 (by omega); rw [add_at] at this; rw [hs]; exact this
        · have := hc 2 (by omega); rw [add_at] at this; exact this
        · have := hc 3 (by omega); rw [add_at] at this; exact this
    obtain ⟨z, hz⟩ := choose_lt hone
    refine ⟨(List.range len).map z, ⟨some a, m, by simp, fun hl => ?_⟩, by simp; omega, ?_⟩
    · have h0 : 0 < len := by simpa using hl
      refine ⟨a.block, a.off, by rw [← (hz 0 h0).2.1], fun i hi => ?_⟩
      have hi' : i < len := by simpa using hi
      have := (hz i hi').2.2
      simpa using this
    · intro x hx
      simp only [List.mem_map, List.mem_range] at hx
      obtain ⟨i, hi, rfl⟩ := hx
      have h1 := (hz i hi).1
      have h2 : D i ∈ (List.range len).map D := List.mem_map.mpr ⟨i, List.mem_range.mpr hi, rfl⟩
      refine ⟨h1.k, h1.n, h1.a, ?_⟩
      rw [ex]
      exact weights_slice (P := Tryd.prog) (t := 23) (e := 31) Tryd.underlying23 ((List.range len).map D) ((List.range (m - len)).map fun j => D (len + j)) (D i) h2 _ h1.t
set_option maxRecDepth 100000 in
theorem words_open1 {v : Value} {d : DataW H} {pl : List MemPlace} {r : Reach} {b0 : Nat} (hv : Value.okWide Tryd.prog w r b0 23 v) (h : DataW.Trod enc Tryd.prog w 0 (fun _ => true) true 23 v d pl) :
    ∃ l : List Wd, WordsAt w v l ∧ l.length ≤ maxLen ∧ ∀ x ∈ l, WdW (fun n => n ∈ d.weights Tryd.prog 23) x := by
  obtain ⟨n, h⟩ := h
  unfold Value.okWide at hv
  rw [Tryd.underlying23] at hv
  simp only [Cell.okWide, Cell.ok, Tryd.underlying23] at hv
  cases v with
  | slice q len cap => exact words_open h
  | _ => first | exact absurd hv (by simp) | (simp at hv)
theorem reach_each {P : Program} {ts : List TypeId} {ds : List (DataW H)} (h : (DataW.weightsEach P ts ds).all (· ≤ reachBytes) = true) {j : Nat} {t : TypeId} {d : DataW H} (ht : ts[j]? = some t) (hd : ds[j]? = some d) : ∀ n ∈ d.weights P t, n ≤ 140737488355328 := by
  intro n hn
  have := List.all_eq_true.1 h _ (DataW.weights_mem_each ht hd n hn)
  have h2 : n ≤ reachBytes := by simpa using this
  have h3 : reachBytes ≤ 140737488355328 := by decide
  omega
end Go.Proofs.YthknpnhiijbgfaaDoor
