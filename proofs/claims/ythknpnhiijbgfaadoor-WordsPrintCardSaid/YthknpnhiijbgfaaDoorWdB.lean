/- Words: strings.FieldsSeq over the words of the language. -/
import Derived.Test.YthknpnhiijbgfaaDoorWdM
import Derived.Test.YthknpnhiijbgfaaDoorRng
import Derived.Test.YthknpnhiijbgfaaDoorProg
import Derived.Lib.Space
import Derived.Lib.LaidTab
import Derived.Shelf.Abstract
import Derived.Shelf.RegionOpen
import Derived.WalkKit
import Derived.OwnWalkIn
import Derived.TacticsInMore
import Derived.LoopNIn
import Derived.LoopIn
import Derived.Lib.Strings
namespace Go.Proofs.YthknpnhiijbgfaaDoor
open Go.RowKit Go.Shelf
set_option linter.unusedVariables false
set_option linter.unusedSimpArgs false
attribute [local go_sem] Oper.semAt_some

def keyC : List UInt8 := [97, 110, 100, 32, 98, 114, 101, 97, 107, 32, 100, 111, 32, 101, 108, 115, 101, 32, 101, 108, 115, 101, 105, 102, 32, 101, 110, 100, 32, 102, 97, 108, 115, 101, 32, 102, 111, 114, 32, 102, 117, 110, 99, 116, 105, 111, 110, 32, 105, 102, 32, 105, 110, 32, 108, 111, 99, 97, 108, 32, 110, 105, 108, 32, 110, 111, 116, 32, 111, 114, 32, 114, 101, 116, 117, 114, 110, 32, 116, 104, 101, 110, 32, 116, 114, 117, 101, 32, 119, 104, 105, 108, 101]
def keyS : ByteArray := ⟨keyC.toArray⟩
def keyb (k : Nat) : UInt8 := keyC.getD k 0
def keyW : List ByteArray := keyL.map fun x => ⟨x.toArray⟩
/-- Behind k bytes: where the word that stands there began, and how many there were. -/
def stK : Nat → Option Nat × Nat
  | 0 => (none, 0)
  | k + 1 => match stK k with
    | (none, j) => if keyb k = 32 then (none, j) else (some k, j)
    | (some a, j) => if keyb k = 32 then (none, j + 1) else (some a, j)
def stZ : Option Nat → Int
  | none => -1
  | some a => a
def stC (k : Nat) : Bool := decide ((keyb k).toNat < 128) && (decide (Lib.isSp (keyb k) = decide (keyb k = 32))) && match stK k with
  | (none, j) => decide (keyb k ≠ 32)
  | (some a, j) => decide (a < k) && (decide (keyb k ≠ 32) || (decide (j < 19) && decide ((keyC.drop a).take (k - a) = keyL.getD j [])))
theorem stC_all : (List.range 93).all stC = true := by decide +kernel
theorem st_end : stK 93 = (some 88, 18) ∧ (keyC.drop 88).take (93 - 88) = keyL.getD 18 [] := by decide +kernel
theorem keyW_len : keyW.length = 19 := rfl
theorem keyS_size : keyS.size = 93 := rfl
theorem key_get (k : Nat) (h : k < keyS.size) : keyS[k]'h = keyb k := by
  have h' : k < keyC.length := h
  show keyC[k]'h' = _
  unfold keyb
  simp [List.getD, h']
theorem keyW_get (j : Nat) (h : j < 19) : keyW[j]'(by rw [keyW_len]; exact h) = ⟨(keyL.getD j []).toArray⟩ := by
  have h' : j < keyL.length := h
  simp [keyW, List.getD, h']
theorem ext_eq (a k : Nat) (h : k ≤ 93) (l : List UInt8) (e : (keyC.drop a).take (k - a) = l) : keyS.extract a k = ⟨l.toArray⟩ := by
  apply ByteArray.ext
  rw [← e]
  apply Array.ext'
  rw [ByteArray.data_extract]
  simp [keyS, List.drop_take]
theorem st_blank {k a j : Nat} (hk : k < 93) (hs : stK k = (some a, j)) (hb : keyb k = 32) : j < 19 ∧ stK (k + 1) = (none, j + 1) ∧ a < k ∧ ∃ h : j < keyW.length, keyS.extract a k = keyW[j]'h := by
  have h := List.all_eq_true.1 stC_all k (List.mem_range.2 hk)
  unfold stC at h
  rw [hs] at h
  simp only [Bool.and_eq_true, Bool.or_eq_true, decide_eq_true_eq] at h
  obtain ⟨_, h1, h2 | ⟨h2, h3⟩⟩ := h
  · exact absurd hb h2
  · refine ⟨h2, ?_, h1, h2, ?_⟩
    · rw [stK, hs]; simp [hb]
    · exact (ext_eq a k (by omega) _ h3).trans (keyW_get j h2).symm
theorem st_none {k j : Nat} (hk : k < 93) (hs : stK k = (none, j)) : keyb k ≠ 32 ∧ stK (k + 1) = (some k, j) := by
  have h := List.all_eq_true.1 stC_all k (List.mem_range.2 hk)
  unfold stC at h
  rw [hs] at h
  simp only [Bool.and_eq_true, decide_eq_true_eq] at h
  have h2 := h.2
  exact ⟨h2, by rw [stK, hs]; simp [h2]⟩
theorem st_more {k a j : Nat} (hs : stK k = (some a, j)) (hb : keyb k ≠ 32) : stK (k + 1) = (some a, j) := by rw [stK, hs]; simp [hb]
theorem st_byte {k : Nat} (hk : k < 93) : (keyb k).toNat < 128 ∧ Lib.isSp (keyb k) = decide (keyb k = 32) := by
  have h := List.all_eq_true.1 stC_all k (List.mem_range.2 hk)
  unfold stC at h
  simp only [Bool.and_eq_true, decide_eq_true_eq] at h
  exact h.1

/-- The library's table of blanks, as it is laid. -/
abbrev Asc (w : World) : Prop := Lib.TabIs Tryd.prog w "strings.asciiSpace" .u8 Lib.asciiSpaceTab
theorem ascG : Tryd.prog.globalNamed "strings.asciiSpace" = some 0 := by kernel_rfl
theorem Asc.of_same {w w' : World} (h : Asc w) (he : w'.heap[(0 : Nat)]? = w.heap[(0 : Nat)]?) : Asc w' := by
  unfold Asc Lib.TabIs World.var? at *
  simp only [ascG, Option.bind_some] at *
  rw [he]; exact h
theorem Asc.lt {w : World} (h : Asc w) : (0 : Nat) < w.heap.size := by
  have hc := h.cell ascG 0 (by rw [Lib.asciiSpaceTab_length]; omega)
  rcases Nat.lt_or_ge (0 : Nat) w.heap.size with h1 | h1
  · exact h1
  · simp [World.cell?, Array.getElem?_eq_none h1] at hc
theorem Asc.ext {w w' : World} (h : Asc w) (he : Ext w w') : Asc w' := h.of_same (he.block _ h.lt)
theorem Asc.at_ {w : World} (h : Asc w) (c : UInt8) : w.cell? ⟨(0 : Nat), c.toNat, none⟩ = some (.int .u8 (if Lib.isSp c = true then 1 else 0)) := by
  rw [h.cell ascG c.toNat (by rw [Lib.asciiSpaceTab_length]; exact c.toNat_lt), Lib.asciiSpaceTab_at _ c.toNat_lt, u8_of]
/-- What a round keeps: what lay below B, and the block b. -/
def KpB (B b : Nat) (W W' : World) : Prop := Below B W W' ∧ W'.heap[b]? = W.heap[b]?
theorem KpB.t {B b : Nat} {X Y Z : World} (h : KpB B b X Y) (k : KpB B b Y Z) : KpB B b X Z := ⟨h.1.trans k.1, k.2.trans h.2⟩
theorem KpB.b {B b : Nat} {w : World} (hB : B ≤ w.heap.size) (hb : b < w.heap.size) (W : World) (l : Nat) (o o' : Obj) (hl : w.heap.size ≤ l) (h : W.heap[l]? = some o) (h1 : o.isCells = false) (h2 : o.isWalk = false) : KpB B b W (W.putObj l o') :=
  ⟨belowK_b hB W l o o' hl h h1 h2, World.putObj_heap_other (by omega)⟩
theorem seq_in (F : Fence) (n : Nat) (hf : F.fn 49) (hro : F.round = none) (s : ByteArray) (w : World) :
    CallsIn F n Tryd.prog 49 #[.string s] w fun e w' => e = .returned (.func (.func 63) #[] #[.pointer (some ⟨w.heap.size, 0, none⟩)]) ∧ w.alloc (.cells #[.string s] 9) = w' := by
  refine callsIn_of_wp Tryd.func49 rfl hf ?_ hro
  simp only [Tryd.ntmps49, List.size_toArray, List.length_cons, List.length_nil, Nat.reduceAdd, Nat.reduceSub, Array.replicate_succ, Array.replicate_zero, List.push_toArray, List.append_toArray, List.nil_append, List.cons_append]
  gi_wp2
  go_ret
  exact ⟨rfl, rfl⟩
def RKey (pre : List ByteArray) (x : ByteArray) : Prop := ∃ (j : Nat) (h : j < keyW.length), pre = keyW.take j ∧ x = keyW[j]'h
set_option maxRecDepth 100000 in
set_option maxHeartbeats 2000000 in
theorem fields_in (F : Fence) (n : Nat) (hf : F.fn 63) (hro : F.round = none) (hn : 1 ≤ n) (B b : Nat) (s : ByteArray) (hs : Hid (s = keyS)) (w : World) (hBw : B ≤ w.heap.size)
    (hB : (0 : Nat) < B) (hb : b < w.heap.size) (hbs : Blk w b 9 #[.string s]) (ha : Asc w) :
    SeqR F n Tryd.prog 63 #[.pointer (some ⟨b, 0, none⟩)] (fun x : ByteArray => #[Value.string x]) (KpB B b) RKey (fun _ => True) (fun xs => xs = keyW) (fun _ => True) w := fun l J Jx W hW hJ hJx hY h0 => by
  have hbW := Lib.hid (show Blk W b 9 #[.string s] from (hW.block b hb).trans hbs)
  have haW := Lib.hid (ha.ext hW)
  clear hbs ha
  refine callsIn_of_wp Tryd.func63 rfl hf ?_ hro
  simp only [Tryd.ntmps63, List.size_toArray, List.length_cons, List.length_nil, Nat.reduceAdd, Nat.reduceSub, Array.replicate_succ, Array.replicate_zero, List.push_toArray, List.append_toArray, List.nil_append, List.cons_append]
  gi_wp2
  gi_loopw [3, 4] (fun v3 v4 wr => ∃ (k : Nat) (z : Int), k ≤ 93 ∧ v4 = .int .i64 (k : Int) ∧ v3 = .int .i64 z ∧ Hid (z = stZ (stK k).1) ∧ Hid (Blk wr b 9 #[.string s]) ∧ Hid (Asc wr) ∧ Hid (J (keyW.take (stK k).2) wr)) (fun _ v4 _ => 93 - (intOf v4).toNat)
  case atStart => exact ⟨0, -1, Nat.zero_le _, rfl, rfl, Lib.hid rfl, hbW, haW, Lib.hid h0⟩
  case round =>
    obtain ⟨k, z, hk, rfl, rfl, H3, HB, HA, HJ⟩ := hrel
    have c0 : wr.cell? ⟨b, 0, none⟩ = some (.string s) := HB.out.cell 0
    have hsz : s.size = 93 := by rw [hs.out]; rfl
    by_cases hkn : k < 93
    · have hks : k < s.size := by omega
      have d1 : decide ((k : Int) < (s.size : Int)) = true := decide_eq_true (by omega)
      have d1n : decide (k < s.size) = true := decide_eq_true hks
      obtain ⟨c, hc⟩ : ∃ c, s[k]'hks = c := ⟨_, rfl⟩
      have hck : c = keyb k := by have e := hs.out; subst e; exact hc.symm.trans (key_get k _)
      have hby := st_byte hkn
      rw [← hck] at hby
      have hc1 : (c.toNat : Int) < 128 := by have := hby.1; omega
      have hca := HA.out.at_ c
      rw [hby.2] at hca
      have HSP := Lib.hid hsz
      clear hby hsz
      by_cases hb32 : c = 32
      · have hb3 : keyb k = 32 := by rw [← hck, hb32]
        rw [if_pos (by simp [hb32])] at hca
        have HCK := Lib.hid hck
        have HB3 := Lib.hid hb32
        clear hck hb32
        obtain ⟨a?, j, hst⟩ : ∃ a? j, stK k = (a?, j) := ⟨_, _, rfl⟩
        cases a? with
        | none => exact absurd hb3 (st_none hkn hst).1
        | some a =>
          obtain ⟨hj, hst1, hak, hjl, hex⟩ := st_blank hkn hst hb3
          have hv := H3.out
          rw [hst] at hv
          obtain rfl : z = (a : Int) := hv
          have hJ0 := HJ.out
          rw [hst] at hJ0
          obtain ⟨fn, tmps, assign, body, hy, hR⟩ := hY (keyW.take j) (keyW[j]'hjl) wr hJ0 ⟨j, hjl, rfl, rfl⟩
          have hex' : keyW[j]'hjl = s.extract a k := by rw [← hex, hs.out]
          rw [hex'] at hy
          have d2 : a ≤ k := by omega
          have d3 : k ≤ s.size := by omega
          have HX := Lib.hid hex'
          have HST := Lib.hid hst
          have HST1 := Lib.hid hst1
          have HB4 := Lib.hid hb3
          clear hex hex' hst hst1 hb3 hJ0 H3 HJ
          gi_wp2
          refine hR.mono ?_
          rintro e W3 (⟨rfl, _, hJ3, hk3⟩ | ⟨rfl, hJx3⟩)
          · have c3 : W3.cell? ⟨b, 0, none⟩ = some (.string s) := by
              have h : Blk W3 b 9 #[.string s] := hk3.2.trans HB.out
              exact h.cell 0
            have HB3' := Lib.hid (show Blk W3 b 9 #[.string s] from hk3.2.trans HB.out)
            have HA3 := Lib.hid (HA.out.of_same (hk3.1.block _ hB))
            have HJ3 := Lib.hid (show J (keyW.take (j + 1)) W3 by rw [List.take_succ_eq_append_getElem hjl]; exact hJ3)
            clear hJ3 hk3
            gi_wp2
            go_roundw
            case rel => exact ⟨k + 1, -1, by omega, by go_num, rfl, Lib.hid (by rw [HST1.out]; rfl), HB3', HA3, by rw [HST1.out]; exact HJ3⟩
            case measure => simp [intOf]; omega
          · gi_wp2
            refine bodyPost_ret (results_none rfl _ _ _) rfl ?_
            exact ⟨⟨_, rfl⟩, .inr ⟨_, trivial, hJx3⟩⟩
      · have hb3 : keyb k ≠ 32 := by rw [← hck]; exact hb32
        rw [if_neg (by simp [hb32])] at hca
        have HCK := Lib.hid hck
        clear hck hb32
        obtain ⟨a?, j, hst⟩ : ∃ a? j, stK k = (a?, j) := ⟨_, _, rfl⟩
        cases a? with
        | none =>
          have hst1 := (st_none hkn hst).2
          have hv := H3.out
          rw [hst] at hv
          obtain rfl : z = (-1 : Int) := hv
          have HJ' := Lib.hid (show J (keyW.take (stK (k + 1)).2) wr by have h := HJ.out; rw [hst] at h; rw [hst1]; exact h)
          have HST1 := Lib.hid hst1
          clear hst hst1 hb3 H3 HJ
          gi_wp2
          go_roundw
          case rel => exact ⟨k + 1, k, by omega, by go_num, rfl, Lib.hid (by rw [HST1.out]; rfl), HB, HA, HJ'⟩
          case measure => simp [intOf]; omega
        | some a =>
          have hst1 := st_more hst hb3
          have hv := H3.out
          rw [hst] at hv
          obtain rfl : z = (a : Int) := hv
          have HJ' := Lib.hid (show J (keyW.take (stK (k + 1)).2) wr by have h := HJ.out; rw [hst] at h; rw [hst1]; exact h)
          have HST1 := Lib.hid hst1
          clear hst hst1 hb3 H3 HJ
          gi_wp2
          go_roundw
          case rel => exact ⟨k + 1, a, by omega, by go_num, rfl, Lib.hid (by rw [HST1.out]; rfl), HB, HA, HJ'⟩
          case measure => simp [intOf]; omega
    · obtain rfl : k = 93 := by omega
      have hv := H3.out
      rw [st_end.1] at hv
      obtain rfl : z = (88 : Int) := hv
      have hJ0 := HJ.out
      rw [st_end.1] at hJ0
      have hjl : 18 < keyW.length := by decide
      obtain ⟨fn, tmps, assign, body, hy, hR⟩ := hY (keyW.take 18) (keyW[18]'hjl) wr hJ0 ⟨18, hjl, rfl, rfl⟩
      have hex' : keyW[18]'hjl = s.extract 88 s.size := by
        rw [hsz, hs.out]
        exact ((ext_eq 88 93 (by omega) _ st_end.2).trans (keyW_get 18 (by omega)).symm).symm
      rw [hex'] at hy
      have d1 : decide ((93 : Int) < (s.size : Int)) = false := decide_eq_false (by omega)
      have d2 : 88 ≤ s.size := by omega
      have HX := Lib.hid hex'
      have HSP := Lib.hid hsz
      clear hex' hJ0 H3 HJ hsz
      gi_wp2
      refine hR.mono ?_
      rintro e W3 (⟨rfl, _, hJ3, hk3⟩ | ⟨rfl, hJx3⟩)
      · have HJ3 := Lib.hid (show J keyW W3 by
          have e : keyW = keyW.take 18 ++ [keyW[18]'hjl] := by rw [← List.take_succ_eq_append_getElem hjl]; rfl
          rw [e]; exact hJ3)
        clear hJ3 hk3
        gi_wp2
        go_end0
        exact ⟨⟨_, rfl⟩, .inl ⟨_, rfl, HJ3.out⟩⟩
      · gi_wp2
        go_end0
        exact ⟨⟨_, rfl⟩, .inr ⟨_, trivial, hJx3⟩⟩
end Go.Proofs.YthknpnhiijbgfaaDoor
