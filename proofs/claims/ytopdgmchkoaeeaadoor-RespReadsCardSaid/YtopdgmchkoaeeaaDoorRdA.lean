/- All requests that bytes tell, and how that ends: told. -/
import Derived.Test.YtopdgmchkoaeeaaDoorReD
import Derived.Maps.AppendAt
import Derived.Deep.AppendLies
namespace Go.Proofs.YtopdgmchkoaeeaaDoor
open Go.RowKit
set_option linter.unusedVariables false
set_option linter.unusedSimpArgs false

theorem parse_some {l : List UInt8} {x : List ByteArray × Nat} (h : parseS l = .ok x) : 1 ≤ x.2 ∧ x.2 ≤ l.length ∧ x.1.length ≤ 65536 ∧ ∀ m, parseS (l ++ m) = .ok x := by
  cases hq : parseR l with
  | error e => rw [parseS_err hq] at h; cases h
  | ok y =>
    obtain ⟨ts, r⟩ := y
    have h1 := parse_was hq
    have h2 := parseS_of hq
    rw [h2] at h
    injection h with h
    subst h
    have hl := congrArg List.length h1.1
    rw [List.length_append] at hl
    have hp : 1 ≤ (reqB ts).length := by simp [reqB]
    refine ⟨by omega, by omega, h1.2.2.1, fun m => ?_⟩
    have h3 := parseS_of ((parse_goes l m).1 _ _ hq)
    have e : (l ++ m).length - (r ++ m).length = l.length - r.length := by rw [List.length_append, List.length_append]; omega
    rw [h3, e]
theorem parse_none {l : List UInt8} {c : Int} (h : parseS l = .error c) : c = 130 ∨ (c = 131 ∧ ∀ m, parseS (l ++ m) = .error 131) := by
  cases hq : parseR l with
  | ok y => obtain ⟨ts, r⟩ := y; rw [parseS_of hq] at h; cases h
  | error e =>
    rw [parseS_err hq] at h
    injection h with h
    subst h
    by_cases h0 : e = 130
    · exact .inl h0
    · refine .inr ⟨?_, fun m => ?_⟩
      · rcases (parse_goes l []).2 _ hq with h1 | h1
        · exact absurd h1 h0
        · exact h1.1
      · rcases (parse_goes l m).2 _ hq with h1 | h1
        · exact absurd h1 h0
        · exact parseS_err h1.2
/-- What bytes tell; how that ends; what is left of them. -/
structure Told where
  reqs : List (List ByteArray)
  e : Int
  left : List UInt8
def toldF : Nat → List UInt8 → Told
  | 0, l => ⟨[], 130, l⟩
  | k + 1, l => match parseS l with
    | .error c => ⟨[], c, l⟩
    | .ok x => ⟨x.1 :: (toldF k (l.drop x.2)).reqs, (toldF k (l.drop x.2)).e, (toldF k (l.drop x.2)).left⟩
def toldS (l : List UInt8) : Told := toldF (l.length + 1) l
theorem told_fuel : ∀ (k k' : Nat) (l : List UInt8), l.length < k → l.length < k' → toldF k l = toldF k' l
  | 0, _, l, h, _ => absurd h (by omega)
  | k + 1, 0, l, _, h => absurd h (by omega)
  | k + 1, k' + 1, l, h, h' => by
    simp only [toldF]
    cases hp : parseS l with
    | error c => rfl
    | ok x =>
      have h1 := parse_some hp
      have h2 : (l.drop x.2).length = l.length - x.2 := List.length_drop
      simp only [told_fuel k k' (l.drop x.2) (by omega) (by omega)]
theorem told_ok {l : List UInt8} {x : List ByteArray × Nat} (h : parseS l = .ok x) : toldS l = ⟨x.1 :: (toldS (l.drop x.2)).reqs, (toldS (l.drop x.2)).e, (toldS (l.drop x.2)).left⟩ := by
  have h1 := parse_some h
  have h2 : (l.drop x.2).length = l.length - x.2 := List.length_drop
  have h3 : toldS l = ⟨x.1 :: (toldF l.length (l.drop x.2)).reqs, (toldF l.length (l.drop x.2)).e, (toldF l.length (l.drop x.2)).left⟩ := by
    unfold toldS
    simp only [toldF, h]
  rw [h3, told_fuel l.length ((l.drop x.2).length + 1) (l.drop x.2) (by omega) (by omega)]
  rfl
theorem told_err {l : List UInt8} {c : Int} (h : parseS l = .error c) : toldS l = ⟨[], c, l⟩ := by
  unfold toldS
  simp only [toldF, h]
/-- How it ends: what is left begins none. -/
theorem told_left : ∀ (k : Nat) (l : List UInt8), l.length < k → parseS (toldS l).left = .error (toldS l).e ∧ (toldS l).left.length ≤ l.length
  | 0, l, h => absurd h (by omega)
  | k + 1, l, h => by
    cases hp : parseS l with
    | error c => rw [told_err hp]; exact ⟨hp, Nat.le_refl _⟩
    | ok x =>
      have h1 := parse_some hp
      have h2 : (l.drop x.2).length = l.length - x.2 := List.length_drop
      have h3 := told_left k (l.drop x.2) (by omega)
      rw [told_ok hp]
      refine ⟨h3.1, ?_⟩
      show (toldS (l.drop x.2)).left.length ≤ l.length
      omega
/-- More stands behind: what was told is told; the rest goes on. -/
theorem told_more (m : List UInt8) : ∀ (k : Nat) (l : List UInt8), l.length < k → toldS (l ++ m) = ⟨(toldS l).reqs ++ (toldS ((toldS l).left ++ m)).reqs, (toldS ((toldS l).left ++ m)).e, (toldS ((toldS l).left ++ m)).left⟩
  | 0, l, h => absurd h (by omega)
  | k + 1, l, h => by
    cases hp : parseS l with
    | error c => simp only [told_err hp, List.nil_append]
    | ok x =>
      have h1 := parse_some hp
      have h2 : (l.drop x.2).length = l.length - x.2 := List.length_drop
      have h3 := told_more m k (l.drop x.2) (by omega)
      rw [told_ok (h1.2.2.2 m), List.drop_append_of_le_length h1.2.1, h3, told_ok hp]
      simp
/-- Texts in blocks of which something holds. -/
def TIn (ok : Nat → Prop) (w : World) (v : Value) (ts : List ByteArray) : Prop :=
  ∃ (q : Option Addr) (c : Nat), v = .slice q ts.length c ∧ (0 < ts.length → ∃ b, q = some ⟨b, 0, none⟩ ∧ ok b ∧ ∀ i (h : i < ts.length), w.cell? ⟨b, i, none⟩ = some (.string ts[i]))
theorem TIn.keep {ok ok' : Nat → Prop} {w w' : World} {v : Value} {ts : List ByteArray} (h : TIn ok w v ts) (hc : ∀ b o x, ok b → w.cell? ⟨b, o, none⟩ = some x → w'.cell? ⟨b, o, none⟩ = some x) (hk : ∀ b, b < w.heap.size → ok b → ok' b) : TIn ok' w' v ts := by
  obtain ⟨q, c, e, hx⟩ := h
  exact ⟨q, c, e, fun h0 => let ⟨b, e1, hb, hy⟩ := hx h0; ⟨b, e1, hk b (cell_lt (hy 0 h0)) hb, fun i hi => hc _ _ _ hb (hy i hi)⟩⟩
theorem TIn.tx {ok : Nat → Prop} {w : World} {v : Value} {ts : List ByteArray} (h : TIn ok w v ts) (hl : ts.length ≤ 9223372036854775807) : TxAt w v ts := by
  obtain ⟨q, c, e, h⟩ := h
  exact ⟨hl, q, c, e, fun h0 => let ⟨b, e, _, hx⟩ := h h0; ⟨b, 0, e, fun i hi => by rw [Nat.zero_add]; exact hx i hi⟩⟩
/-- Lists of texts as they lie, in blocks from a number on. -/
def ListsAt (base : Nat) (w : World) (v : Value) (tss : List (List ByteArray)) : Prop :=
  ∃ (q : Option Addr) (c : Nat), v = .slice q tss.length c ∧ (0 < tss.length → ∃ b o, q = some ⟨b, o, none⟩ ∧ base ≤ b ∧ ∀ i (h : i < tss.length), ∃ vi, w.cell? ⟨b, o + i, none⟩ = some vi ∧ TIn (fun b => base ≤ b) w vi tss[i] ∧ (tss[i]).length ≤ 65536)
theorem ListsAt.only {base g : Nat} {w w' : World} {v : Value} {tss : List (List ByteArray)} (h : ListsAt base w v tss) (ho : Only g w w') (hg : g < base) : ListsAt base w' v tss := by
  obtain ⟨q, c, e, h⟩ := h
  exact ⟨q, c, e, fun h0 => let ⟨b, o, e, hb, hx⟩ := h h0; ⟨b, o, e, hb, fun i hi => let ⟨vi, h1, h2, h3⟩ := hx i hi; ⟨vi, ho.cell (by omega) h1, h2.keep (fun b' o' x hb' hc => ho.cell (by omega) hc) (fun _ _ h => h), h3⟩⟩⟩
theorem ListsAt.ext {base : Nat} {w w' : World} {v : Value} {tss : List (List ByteArray)} (h : ListsAt base w v tss) (he : Ext w w') : ListsAt base w' v tss := by
  obtain ⟨q, c, e, h⟩ := h
  exact ⟨q, c, e, fun h0 => let ⟨b, o, e, hb, hx⟩ := h h0; ⟨b, o, e, hb, fun i hi => let ⟨vi, h1, h2, h3⟩ := hx i hi; ⟨vi, he.cell h1, h2.keep (fun _ _ _ _ hc => he.cell hc) (fun _ _ h => h), h3⟩⟩⟩
theorem infoTexts : (Tryd.prog.info? 22).map (fun i => (i.zero, i.size, i.bytes)) = some (some (.slice none 0 0), 1, 24) := by kernel_rfl
/-- Where told stands at its loop's head. -/
structure TdAt (w wr : World) (lv : Value) (xs : List (List ByteArray × Value)) : Prop where
  ext : Ext w wr
  own : wr.ownsRow w.heap.size 22 1 lv xs.length (xs.map (·.2))
  subs : ∀ x ∈ xs, TIn (fun b => w.heap.size ≤ b ∧ ∀ y, lv.ownBlock = some y → b ≠ y) wr x.2 x.1 ∧ x.1.length ≤ 65536
theorem td_end {w wr : World} {lv : Value} {xs : List (List ByteArray × Value)} (h : TdAt w wr lv xs) : ListsAt w.heap.size wr lv (xs.map (·.1)) := by
  obtain ⟨_, ⟨rfl, h0⟩ | ⟨g, cap, cur, rfl, hb, hh, hnc, hcap, hsz, htk⟩⟩ := h.own
  · exact ⟨none, 0, by simp [h0], fun hl => by simp at hl; omega⟩
  · refine ⟨_, cap, by simp, fun hl => ⟨g, 0, rfl, hb, fun i hi => ?_⟩⟩
    have hi' : i < xs.length := by simpa using hi
    have h3 := h.own.cells (g := g) rfl i xs[i].2 (by simp [List.getElem?_map, List.getElem?_eq_getElem hi'])
    have e : ((⟨g, 0, none⟩ : Addr).add i) = ⟨g, 0 + i, none⟩ := by unfold Addr.add; split <;> simp_all
    rw [e] at h3
    have h4 := h.subs _ (List.getElem_mem hi')
    refine ⟨_, h3, ?_⟩
    have h5 := h4.1.keep (ok' := fun b => w.heap.size ≤ b) (fun _ _ _ _ h => h) (fun _ _ h => h.1)
    have h6 := h4.2
    simp only [List.getElem_map]
    exact ⟨h5, h6⟩
theorem td_next {w wr w4 w5 : World} {lv : Value} {xs : List (List ByteArray × Value)} (h : TdAt w wr lv xs) (e4 : Ext wr w4) {ts : List ByteArray} {q : Option Addr} {n c : Nat} (ht : TextsFrom wr.heap.size w4 (.slice q n c) ts) (hl : ts.length ≤ 65536) {o : Obj} {gg cap : Nat}
    (ho : w5.ownsRow w.heap.size 22 1 (.slice (some ⟨gg, 0, none⟩) (xs.length + 1) cap) (xs.length + 1) (xs.map (·.2) ++ [.slice q n c])) (hg : (w4.alloc o).grownBy w5 lv.ownBlock) (hat : lv.ownBlock = some gg ∨ gg = w4.heap.size + 1) :
    TdAt w w5 (.slice (some ⟨gg, 0, none⟩) (xs.length + 1) cap) (xs ++ [(ts, .slice q n c)]) := by
  have hrow := h.own.lt
  have h4 := e4.le
  have h0 := h.ext.le
  have E5 : Ext w w5 := Ext.grown ((h.ext.trans e4).alloc o) hg (fun x hx => (hrow x hx).1)
  have cell5 : ∀ b' o' v, b' < w4.heap.size → (∀ y, lv.ownBlock = some y → b' ≠ y) → w4.cell? ⟨b', o', none⟩ = some v → w5.cell? ⟨b', o', none⟩ = some v := fun b' o' v h1 h2 h3 => by
    rw [hg.cell_far ⟨b', o', none⟩ (by rw [size_alloc]; show b' < _; omega) (fun e => h2 b' e.symm rfl)]
    exact ((Ext.refl w4).alloc o).cell h3
  refine ⟨E5, by simpa using ho, fun x hx => ?_⟩
  rcases List.mem_append.mp hx with hx | hx
  · have hs := h.subs x hx
    refine ⟨hs.1.keep (fun b' o' v hok hc => cell5 b' o' v (by have := cell_lt hc; simp only at this; omega) hok.2 (e4.cell hc)) (fun b' hlt hok => ⟨hok.1, fun y hy => ?_⟩), hs.2⟩
    have hy' : gg = y := by simpa [Value.ownBlock] using hy
    rcases hat with hat | hat
    · rw [← hy']; exact hok.2 _ hat
    · omega
  · obtain rfl : x = (ts, .slice q n c) := by simpa using hx
    have ht' : TIn (fun b => wr.heap.size ≤ b) w4 (.slice q n c) ts := ht
    refine ⟨ht'.keep (fun b' o' v hok hc => cell5 b' o' v (by have := cell_lt hc; exact this) (fun y hy => by have := (hrow y hy).2; omega) hc) (fun b' hlt hok => ⟨Nat.le_trans h0 hok, fun y hy => ?_⟩), hl⟩
    have hy' : gg = y := by simpa [Value.ownBlock] using hy
    have hok' : wr.heap.size ≤ b' := hok
    rcases hat with hat | hat
    · have := (hrow _ hat).2; omega
    · omega
theorem drop_extract (s : ByteArray) (n : Nat) : (s.extract n s.size).data.toList = s.data.toList.drop n := by
  simp [ByteArray.data_extract, Array.toList_extract]
  rw [List.take_of_length_le]
  rw [List.length_drop]
  show s.data.toList.length - n ≤ s.size - n
  exact Nat.le_refl _
set_option maxRecDepth 100000 in
set_option maxHeartbeats 4000000 in
theorem told_any (w : World) (s : ByteArray) (hs : s.size ≤ 100000) :
    Calls Tryd.prog 25 #[.string s] w fun e w' => ∃ v, e = .returned (.tuple #[v, .int .i64 (toldS s.data.toList).e]) ∧ Ext w w' ∧ ListsAt w.heap.size w' v (toldS s.data.toList).reqs := by
  have hsz : s.data.toList.length = s.size := rfl
  obtain ⟨T, hT⟩ : ∃ T, toldS s.data.toList = T := ⟨_, rfl⟩
  rw [hT]
  have HT : Hid (toldS s.data.toList = ⟨([] : List (List ByteArray × Value)).map (·.1) ++ (toldS s.data.toList).reqs, (toldS s.data.toList).e, (toldS s.data.toList).left⟩) := Lib.hid (by simp)
  have HTT := Lib.hid hT
  have HL := Lib.hid (show ∀ t : ByteArray, t.data.toList.length = t.size from fun _ => rfl)
  clear hT hsz
  go_enter Tryd.func25, Tryd.ntmps25
  go_wp2_with fail
  go_loopw [0, 4] (fun v0 v4 wr => ∃ (t : ByteArray) (xs : List (List ByteArray × Value)), v0 = .string t ∧ t.size ≤ 100000 ∧ xs.length + t.size ≤ s.size ∧ Hid (TdAt w wr v4 xs) ∧ Hid (T = ⟨xs.map (·.1) ++ (toldS t.data.toList).reqs, (toldS t.data.toList).e, (toldS t.data.toList).left⟩)) (fun v0 _ _ => match v0 with | .string t => t.size | _ => 0)
  case atStart => exact ⟨s, [], rfl, hs, by simp, Lib.hid ⟨Ext.refl w, ⟨rfl, .inl ⟨rfl, rfl⟩⟩, fun x hx => by simp at hx⟩, Lib.hid (by rw [← HTT.out]; exact HT.out)⟩
  case round =>
    obtain ⟨t, xs, rfl, ht, hxs, HD, HS⟩ := hrel
    have HP := Lib.hid (rparse_any wr t (by omega))
    obtain ⟨r, hr⟩ : ∃ r, parseS t.data.toList = r := ⟨_, rfl⟩
    rw [hr] at HP
    have HR := Lib.hid hr
    clear hr HT HTT
    go_wp2_with fail
    refine HP.out.mono ?_
    intro e w4 hp
    clear HP
    cases r with
    | error c =>
      obtain ⟨rfl, e4⟩ := hp
      have HE4 := Lib.hid e4
      have hc0 : ¬ c = 0 := by rcases parse_none HR.out with h | h <;> omega
      have c0 : (c != 0) = true := bne_iff_ne.2 hc0
      clear e4 hc0
      go_wp2_with fail
      go_ret2
      have S := HS.out
      rw [told_err HR.out] at S
      subst S
      refine ⟨_, rfl, HD.out.ext.trans HE4.out, ?_⟩
      have h9 := (td_end HD.out).ext HE4.out
      simpa using h9
    | ok x =>
      obtain ⟨ts, n⟩ := x
      obtain ⟨v, rfl, tf, e4⟩ := hp
      obtain ⟨q, c, hv, hx⟩ := tf
      subst hv
      have tf : TextsFrom wr.heap.size w4 (.slice q ts.length c) ts := ⟨q, c, rfl, hx⟩
      have hps := parse_some HR.out
      have hlt := HL.out t
      obtain ⟨i0, hi0, hz0, hz1, hz2⟩ := info_parts infoTexts
      have OW := own_ext HD.out.own (e4.alloc (.cells #[.slice q ts.length c] 22))
      obtain ⟨gg, cap, w5, hr5, ho5, hg5, hat, _⟩ := run_append_lies (P := Tryd.prog) (w4.alloc (.cells #[.slice q ts.length c] 22)) 51 51 w.heap.size 22 i0 _ 1 24 Tryd.underlying51 hi0 hz0 hz1 hz2 rfl (by omega) u4 xs.length _ OW ⟨w4.heap.size, 0, none⟩ 1 1 [.slice q ts.length c] rfl (World.news_of_block (cs := #[.slice q ts.length c]) (fr := (0, 0)) (heap_alloc_new w4 _)) (by simp [Value.oneCell']) (by omega) (by unfold maxLen; omega) (by omega) (by rw [size_alloc]; have := HD.out.ext.le; have := e4.le; omega) _ rfl
      rw [size_alloc] at hat
      have NX := Lib.hid (td_next HD.out e4 tf hps.2.2.1 ho5 hg5 hat)
      have S := HS.out
      rw [told_ok HR.out] at S
      simp only at S hps
      have HR5 := Lib.hid hr5
      have k0 : (0 : Int) ≤ (n : Int) := by omega
      have k1 : (n : Int) ≤ (t.size : Int) := by omega
      have HE : Hid ((t.extract n t.size).data.toList = t.data.toList.drop n) := Lib.hid (drop_extract t n)
      have HZ : Hid ((t.extract n t.size).size = t.size - n) := Lib.hid (by rw [← HL.out, HE.out, List.length_drop, HL.out])
      have HS2 : Hid (T = ⟨(xs ++ [(ts, Value.slice q ts.length c)]).map (·.1) ++ (toldS (t.extract n t.size).data.toList).reqs, (toldS (t.extract n t.size).data.toList).e, (toldS (t.extract n t.size).data.toList).left⟩) := Lib.hid (by rw [HE.out, S]; simp)
      have hn1 : 1 ≤ n := hps.1
      have hn2 : n ≤ t.size := by omega
      clear tf hx hps OW hr5 ho5 hg5 hat S HS HD HR hi0 hz0 hz1 hz2
      go_wp2_with (at_builtin; refine wpList_append_run rfl _ _ 51 rfl _ _ _ _ rfl rfl HR5.out ?_)
      go_roundw
      case rel => exact ⟨_, _, rfl, by have := HZ.out; omega, by have := HZ.out; simp; omega, NX, HS2⟩
      case measure => have := HZ.out; simp; omega
end Go.Proofs.YtopdgmchkoaeeaaDoor
