/- A request that is laid: the walk of Request. -/
import Derived.Test.YtopdgmchkoaeeaaDoorRtB
import Derived.Deep.LoopGhost
namespace Go.Proofs.YtopdgmchkoaeeaaDoor
open Go.RowKit
set_option linter.unusedVariables false
set_option linter.unusedSimpArgs false

/-- Bytes in blocks from a number on. -/
def BytesV (base : Nat) (w : World) (v : Value) (l : List UInt8) : Prop :=
  ∃ q c, v = .slice q l.length c ∧ BytesAt w q c l ∧ (∀ b o, q = some ⟨b, o, none⟩ → base ≤ b)
theorem BytesV.ext {base : Nat} {w w' : World} {v : Value} {l : List UInt8} (h : BytesV base w v l) (he : Ext w w') : BytesV base w' v l :=
  let ⟨q, c, e, hb, hc⟩ := h; ⟨q, c, e, hb.ext he, hc⟩
theorem bytes_nil_v (base : Nat) (w : World) : BytesV base w (.slice none 0 0) [] :=
  ⟨none, 0, rfl, ⟨fun k h => absurd h (by simp), by simp, .inl ⟨rfl, rfl⟩, ⟨Nat.le_refl _, by omega⟩⟩, fun b o e => by cases e⟩
theorem bytes_conv (w : World) (s : ByteArray) (hs : s.size ≤ 9223372036854775807) :
    BytesV w.heap.size (Lib.bytesWorld w 5 s) (.slice (some ⟨w.heap.size, 0, none⟩) s.size (grownCap w s.size 0 5)) s.data.toList := by
  have hl : s.data.toList.length = s.size := rfl
  refine ⟨_, _, by rw [hl], ⟨fun k hk => ⟨_, _, rfl, ?_⟩, by omega, .inr ⟨_, _, rfl, by rw [Lib.bytesWorld_size]; omega⟩, ⟨by rw [hl]; exact grownCap_ge w _ 0 _, by have := grownCap_le_maxLen w s.size 0 5 (by unfold maxLen; omega); unfold maxLen at this; omega⟩⟩, fun b o e => by cases e; omega⟩
  have := Lib.bytesWorld_cell w 5 s k hk
  rw [Nat.zero_add, this]
  simp [List.getD, List.getElem?_eq_getElem hk]
/-- What Request tells. -/
def reqOkB (ts : List ByteArray) : Bool := decide (1 ≤ ts.length) && decide (ts.length ≤ 65536) && decide (sumS ts ≤ 1048576)
theorem reqOk_iff (ts : List ByteArray) : reqOkB ts = true ↔ reqOk ts := by simp [reqOkB, reqOk, and_assoc]
def ReqE (w : World) (ts : List ByteArray) (e : Ending) (w' : World) : Prop :=
  Ext w w' ∧ (if reqOkB ts = true then ∃ v, e = .returned (.tuple #[v, .int .i64 0]) ∧ BytesV w.heap.size w' v (reqB ts) else e = .returned (.tuple #[.slice none 0 0, .int .i64 2]))
theorem ReqE.no {w w' : World} {ts : List ByteArray} {e : Ending} (h : ¬ reqOk ts) (he : e = .returned (.tuple #[.slice none 0 0, .int .i64 2])) (hw : Ext w w') : ReqE w ts e w' :=
  ⟨hw, by rw [if_neg (fun h' => h ((reqOk_iff ts).1 h'))]; exact he⟩
theorem ReqE.yes {w w' : World} {ts : List ByteArray} {e : Ending} (h : reqOk ts) (he : ∃ v, e = .returned (.tuple #[v, .int .i64 0]) ∧ BytesV w.heap.size w' v (reqB ts)) (hw : Ext w w') : ReqE w ts e w' :=
  ⟨hw, by rw [if_pos ((reqOk_iff ts).2 h)]; exact he⟩
theorem TxAt.blocks {w : World} {v : Value} {ts : List ByteArray} (h : TxAt w v ts) {g : Nat} (hg : w.heap.size ≤ g) : ∀ q c b o n, v = .slice q n c → q = some ⟨b, o, none⟩ → 0 < ts.length → b ≠ g := by
  obtain ⟨h0, q, c, e, hx⟩ := h
  rintro q' c' b o n rfl rfl hp
  injection e with e1 e2 e3
  obtain ⟨b', o', e', hx⟩ := hx hp
  rw [e'] at e1
  injection e1 with e1
  injection e1 with e1 e2
  have := cell_lt (hx 0 hp)
  simp only at this
  omega

set_option maxRecDepth 100000 in
set_option maxHeartbeats 2000000 in
theorem req_none (w : World) (q : Option Addr) (c : Nat) :
    Calls Tryd.prog 14 #[.slice q 0 c] w (ReqE w []) := by
  have hmf : ∀ (fn : Fn) (first cap : Array Value) (w : World), (Instr.makeFunc fn first cap).run Tryd.prog w = .ok (.func fn first cap) w := fun _ _ _ _ => rfl
  go_enter Tryd.func14, Tryd.ntmps14
  go_wp2_with fail
  go_ret2
  exact ReqE.no (fun h => by have := h.1; simp at this) rfl ((Ext.refl w).alloc _)
set_option maxRecDepth 100000 in
set_option maxHeartbeats 2000000 in
theorem req_many (w : World) (v : Value) (ts : List ByteArray) (h : TxAt w v ts) (hn : 65536 < ts.length) :
    Calls Tryd.prog 14 #[v] w (ReqE w ts) := by
  have hmf : ∀ (fn : Fn) (first cap : Array Value) (w : World), (Instr.makeFunc fn first cap).run Tryd.prog w = .ok (.func fn first cap) w := fun _ _ _ _ => rfl
  obtain ⟨h0, q, c, rfl, hx⟩ := h
  have e0 : ((ts.length : Int) == 0) = false := by simp; intro h; simp [h] at hn
  have e1 : decide ((65536 : Int) < (ts.length : Int)) = true := by simp; omega
  clear hx
  go_enter Tryd.func14, Tryd.ntmps14
  go_wp2_with fail
  go_ret2
  exact ReqE.no (fun h => by have := h.2.1; omega) rfl ((Ext.refl w).alloc _)
set_option maxRecDepth 100000 in
set_option maxHeartbeats 2000000 in
theorem req_long (w : World) (v : Value) (ts : List ByteArray) (h : TxAt w v ts) (h1 : 1 ≤ ts.length) (hn : ts.length ≤ 65536) (hs : 1048576 < sumS ts) :
    Calls Tryd.prog 14 #[v] w (ReqE w ts) := by
  have hmf : ∀ (fn : Fn) (first cap : Array Value) (w : World), (Instr.makeFunc fn first cap).run Tryd.prog w = .ok (.func fn first cap) w := fun _ _ _ _ => rfl
  have e0 : ((ts.length : Int) == 0) = false := by simp; intro h; simp [h] at h1
  have e1 : decide ((65536 : Int) < (ts.length : Int)) = false := by simp; omega
  have hC := Lib.hid (has_long (w.alloc (.cells #[.int .i64 1048576] 3)) w.heap.size 1048576 v ts (by exact Blk.new w _ _) (by omega) (h.ext ((Ext.refl w).alloc _)) (fun q c b o n e1 e2 => h.blocks (Nat.le_refl _) q c b o n e1 e2 (by omega)))
  have hd : decide (1048576 < sumS ts) = true := by simp [hs]
  rw [hd] at hC
  obtain ⟨h0, q, c, rfl, hx⟩ := h
  clear hx hd
  go_enter Tryd.func14, Tryd.ntmps14
  go_wp2_with fail
  refine hC.out.mono ?_
  rintro e w' ⟨rfl, o2⟩
  go_wp2_with fail
  go_ret2
  exact ReqE.no (fun h => by have := h.2.2; omega) rfl (Only.to_ext o2 ((Ext.refl w).alloc _) (Nat.le_refl _))

/-- A builder's state is kept by what makes new blocks alone. -/
theorem builder_ext {B b : Nat} {p : Value} {bs : List Value} {w w' : World} (h : Lib.BuilderAt 73 5 B b p bs w) (he : Ext w w') : Lib.BuilderAt 73 5 B b p bs w' := by
  obtain ⟨hB, v, hb, ho, hn⟩ := h
  have hlt : b < w.heap.size := by
    rcases Nat.lt_or_ge b w.heap.size with h | h
    · exact h
    · rw [Array.getElem?_eq_none h] at hb; cases hb
  exact ⟨hB, v, (he.block b hlt).trans hb, own_ext ho he, hn⟩
theorem Ext.below {a b c : World} {B : Nat} (h : Ext a b) (k : Below B b c) (hB : a.heap.size ≤ B) : Ext a c := Below.trans h (Below.mono k hB)
theorem textsB_snoc (ts : List ByteArray) (k : Nat) (h : k < ts.length) : textsB (ts.take (k + 1)) = textsB (ts.take k) ++ textB ts[k] := by
  have : ∀ (l m : List ByteArray), textsB (l ++ m) = textsB l ++ textsB m := fun l m => by
    induction l with
    | nil => rfl
    | cons x l ih => simp only [List.cons_append, textsB, ih, List.append_assoc]
  rw [List.take_succ_eq_append_getElem h, this]; simp [textsB]
theorem textB_len (s : ByteArray) (h : s.size ≤ 1048576) : (textB s).length ≤ s.size + 26 := by
  have h1 := Lib.itoa_length_le (s.size : Int) (by omega) (by omega)
  rw [Lib.itoa_nonneg] at h1
  have h2 : s.data.toList.length = s.size := rfl
  simp only [textB, lineB, List.length_cons, List.length_append, List.length_nil]
  omega
theorem textsB_len : ∀ (ts : List ByteArray), sumS ts ≤ 1048576 → (textsB ts).length ≤ sumS ts + 26 * ts.length
  | [], _ => Nat.zero_le _
  | s :: ts, h => by
    rw [sumS_cons] at h ⊢
    have h1 := textB_len s (by omega)
    have h2 := textsB_len ts (by omega)
    simp only [textsB, List.length_append, List.length_cons]
    omega
theorem itS_size (n : Nat) : (itS (n : Int)).data.toList = Lib.decDigits n := by
  unfold itS; rw [Lib.itoa_nonneg]
theorem its_len (n : Nat) (h : n ≤ 9223372036854775807) : (itS (n : Int)).size ≤ 21 := by
  have := Lib.itoa_length_le (n : Int) (by omega) (by omega)
  show (Lib.itoa (n : Int)).toArray.size ≤ 21
  simpa using this
theorem app_size (a b : ByteArray) : (a ++ b).size = a.size + b.size := ByteArray.size_append
theorem app_list (a b : ByteArray) : (a ++ b).data.toList = a.data.toList ++ b.data.toList := by simp
/-- A builder that holds bytes. -/
def BldAt (B b : Nat) (l : List UInt8) (w : World) : Prop := Lib.IsBuilder 73 5 B b (Lib.byteCells l) w
theorem BldAt.ext {B b : Nat} {l : List UInt8} {w w' : World} (h : BldAt B b l w) (he : Ext w w') : BldAt B b l w' := h.imp (fun h => builder_ext h he) (fun h => builder_ext h he)
theorem BldAt.new (w : World) : BldAt w.heap.size w.heap.size [] (w.alloc (.cells #[.pointer none, .slice none 0 0] 73)) := Lib.fresh_isBuilder 73 5 w
theorem hwrite (B b : Nat) (l : List UInt8) (s : ByteArray) (w : World) (h : BldAt B b l w) (hlen : l.length + s.size ≤ 140737488355328) (hB : B ≤ w.heap.size) :
    Calls Tryd.prog 37 #[.pointer (some ⟨b, 0, none⟩), .string s] w fun e w' => e = .returned (.tuple #[.int .i64 s.size, .nilIface]) ∧ BldAt B b (l ++ s.data.toList) w' ∧ Below B w w' ∧ Keep w w' := by
  refine (bwrite_any B b (Lib.byteCells l) s w h (by rw [Lib.byteCells_length]; exact hlen) hB).mono ?_
  rintro e w' ⟨rfl, h1, h2, h3⟩
  refine ⟨rfl, .inr ?_, h2, h3⟩
  rw [Lib.byteCells_append, ← Lib.strCells_eq]
  exact h1
theorem hstring (B b : Nat) (l : List UInt8) (w : World) (h : BldAt B b l w) (hB : B ≤ w.heap.size) :
    Calls Tryd.prog 39 #[.pointer (some ⟨b, 0, none⟩)] w fun e w' => e = .returned (.string ⟨l.toArray⟩) ∧ Below B w w' := Tryd.Builder_String_any B b l w h hB
set_option maxRecDepth 100000 in
set_option maxHeartbeats 4000000 in
theorem req_yes (w : World) (v : Value) (ts : List ByteArray) (h : TxAt w v ts) (hok : reqOk ts) (hpw : Pow w) :
    Calls Tryd.prog 14 #[v] w (ReqE w ts) := by
  have hmf : ∀ (fn : Fn) (first cap : Array Value) (w : World), (Instr.makeFunc fn first cap).run Tryd.prog w = .ok (.func fn first cap) w := fun _ _ _ _ => rfl
  have kc := fun (W : World) (s : ByteArray) => Lib.run_convert_string_bytes (P := Tryd.prog) W 9 25 5 s Tryd.underlying9 Tryd.underlying25 Tryd.underlying5
  have HOK := Lib.hid hok
  obtain ⟨h1, hn, hs⟩ := hok
  have e0 : ((ts.length : Int) == 0) = false := by simp; intro h; simp [h] at h1
  have e1 : decide ((65536 : Int) < (ts.length : Int)) = false := by simp; omega
  have hC := Lib.hid (has_long (w.alloc (.cells #[.int .i64 1048576] 3)) w.heap.size 1048576 v ts (by exact Blk.new w _ _) (by omega) (h.ext ((Ext.refl w).alloc _)) (fun q c b o n e1 e2 => h.blocks (Nat.le_refl _) q c b o n e1 e2 (by omega)))
  have hd : decide (1048576 < sumS ts) = false := by simp; omega
  rw [hd] at hC
  have HT := Lib.hid h
  have HP := Lib.hid hpw
  obtain ⟨h0, q, c, rfl, hx⟩ := h
  obtain ⟨tb, tof, hq, hy⟩ := hx (by omega)
  have HX := Lib.hid hy
  clear hx hy hd hpw hs h0
  subst hq
  go_enter Tryd.func14, Tryd.ntmps14
  go_wp2_with fail
  refine hC.out.mono ?_
  rintro e w1 ⟨rfl, o2⟩
  have E1 := Lib.hid (Only.to_ext o2 ((Ext.refl w).alloc _) (Nat.le_refl _))
  clear o2 hC e0 e1
  go_wp2_with fail
  have B0 := Lib.hid (BldAt.new w1)
  have E2 := Lib.hid (E1.out.alloc (.cells #[.pointer none, .slice none 0 0] 73))
  have L2 : Hid (w1.heap.size < (w1.alloc (.cells #[.pointer none, .slice none 0 0] 73)).heap.size) := Lib.hid (by rw [size_alloc]; omega)
  generalize w1.alloc (.cells #[.pointer none, .slice none 0 0] 73) = w2 at B0 E2 L2 ⊢
  refine (itoa_any (ts.length : Int) w2 (HP.out.ext E2.out) (by omega) (by omega)).mono ?_
  rintro e w3 ⟨rfl, e3⟩
  have E3 := Lib.hid (E2.out.trans e3)
  have L3 := Lib.hid (Nat.lt_of_lt_of_le L2.out e3.le)
  have B3 := Lib.hid (B0.out.ext e3)
  clear e3 B0 E2 L2
  have hz := its_len ts.length (by omega)
  have HD := Lib.hid (itS_size ts.length)
  generalize itS (ts.length : Int) = ds at hz HD ⊢
  have a1 : ¬ 9223372036854775807 < 1 + ds.size := by omega
  have a2 : ¬ 9223372036854775807 < 1 + ds.size + 2 := by omega
  go_wp2_with fail
  refine (hwrite w1.heap.size w1.heap.size [] _ w3 B3.out (by rw [app_size, app_size]; show 0 + (1 + ds.size + 2) ≤ _; omega) (Nat.le_of_lt L3.out)).mono ?_
  rintro e w4 ⟨rfl, h4, b4, k4⟩
  have E4 := Lib.hid (E3.out.below b4 E1.out.le)
  have L4 := Lib.hid (Nat.lt_of_lt_of_le L3.out b4.size)
  have B4 : Hid (BldAt w1.heap.size w1.heap.size (42 :: lineB (Lib.decDigits ts.length)) w4) := Lib.hid (by
    rw [app_list, app_list, HD.out] at h4
    exact h4)
  clear h4 b4 k4 B3 E3 L3 a1 a2 hz HD
  go_wp2_with fail
  go_loopw [31] (fun v31 wr => ∃ k : Nat, v31 = .int .i64 k ∧ k ≤ ts.length ∧ Hid (Ext w wr) ∧ Hid (w1.heap.size < wr.heap.size) ∧ Hid (BldAt w1.heap.size w1.heap.size (42 :: lineB (Lib.decDigits ts.length) ++ textsB (ts.take k)) wr)) (fun v31 _ => ts.length - (intOf v31).toNat)
  case atStart => exact ⟨0, rfl, Nat.zero_le _, E4, L4, by simpa [textsB] using B4⟩
  case round =>
    obtain ⟨k, rfl, hk, HE, HL, HB⟩ := hrel
    by_cases hlt : k < ts.length
    · have ck : wr.cell? ⟨tb, tof + k, none⟩ = some (.string ts[k]) := HE.out.cell (HX.out k hlt)
      have SN := Lib.hid (textsB_snoc ts k hlt)
      have hsz : ts[k].size ≤ 1048576 := by
        have h2 := sumS_next ts k hlt
        have h3 := sumS_take ts (k + 1)
        have h4 := HOK.out.2.2
        omega
      have HLN : Hid ((42 :: lineB (Lib.decDigits ts.length) ++ textsB (ts.take k)).length ≤ 4000000) := Lib.hid (by
        have h1 := textsB_len (ts.take k) (Nat.le_trans (sumS_take ts k) HOK.out.2.2)
        have h2 := sumS_take ts k
        have h3 := HOK.out.2.2
        have h4 := its_len ts.length (by omega)
        have h5 := congrArg List.length (itS_size ts.length)
        have h6 : (itS (ts.length : Int)).data.toList.length = (itS (ts.length : Int)).size := rfl
        have h7 : (ts.take k).length ≤ 65536 := by rw [List.length_take]; omega
        simp only [List.length_append, List.length_cons, lineB, List.length_nil]
        omega)
      generalize ts[k] = s at ck SN hsz
      have k0 : (0 : Int) ≤ (k : Int) := by omega
      have k1 : (k : Int) < (ts.length : Int) := by omega
      go_wp2_with fail
      refine (itoa_any (s.size : Int) wr (HP.out.ext HE.out) (by omega) (by omega)).mono ?_
      rintro e w5 ⟨rfl, e5⟩
      have E5 := Lib.hid (HE.out.trans e5)
      have L5 := Lib.hid (Nat.lt_of_lt_of_le HL.out e5.le)
      have B5 := Lib.hid (HB.out.ext e5)
      clear e5
      have hz := its_len s.size (by omega)
      have HD := Lib.hid (itS_size s.size)
      generalize itS (s.size : Int) = ds at hz HD ⊢
      have a1 : ¬ 9223372036854775807 < 1 + ds.size := by omega
      have a2 : ¬ 9223372036854775807 < 1 + ds.size + 2 := by omega
      have a3 : ¬ 9223372036854775807 < 1 + ds.size + 2 + s.size := by omega
      have a4 : ¬ 9223372036854775807 < 1 + ds.size + 2 + s.size + 2 := by omega
      go_wp2_with fail
      refine (hwrite w1.heap.size w1.heap.size _ _ w5 B5.out (by rw [app_size, app_size, app_size, app_size]; have := HLN.out; show _ + (1 + ds.size + 2 + s.size + 2) ≤ _; omega) (Nat.le_of_lt L5.out)).mono ?_
      rintro e w6 ⟨rfl, h6, b6, k6⟩
      have E6 := Lib.hid (E5.out.below b6 E1.out.le)
      have L6 := Lib.hid (Nat.lt_of_lt_of_le L5.out b6.size)
      have B6 : Hid (BldAt w1.heap.size w1.heap.size (42 :: lineB (Lib.decDigits ts.length) ++ textsB (ts.take (k + 1))) w6) := Lib.hid (by
        rw [app_list, app_list, app_list, app_list, HD.out] at h6
        rw [SN.out]
        simpa [textB, lineB] using h6)
      clear h6 b6 k6 B5 E5 L5 a1 a2 a3 a4 hz HD HLN
      go_wp2_with fail
      go_roundw
      case rel => exact ⟨k + 1, by go_num, by omega, E6, L6, B6⟩
      case measure => simp [intOf]; omega
    · obtain rfl : k = ts.length := by omega
      have B5 : Hid (BldAt w1.heap.size w1.heap.size (reqB ts) wr) := Lib.hid (by
        have := HB.out
        rw [List.take_length] at this
        exact this)
      go_wp2_with fail
      refine (hstring w1.heap.size w1.heap.size (reqB ts) wr B5.out (Nat.le_of_lt HL.out)).mono ?_
      rintro e w7 ⟨rfl, b7⟩
      have E7 := Lib.hid (HE.out.below b7 E1.out.le)
      clear b7
      go_wp2_with fail
      go_ret2
      have hlen : (reqB ts).length ≤ 9223372036854775807 := by
        have h1 := textsB_len ts HOK.out.2.2
        have h3 := HOK.out.2.2
        have h4 := its_len ts.length (by omega)
        have h5 := congrArg List.length (itS_size ts.length)
        have h6 : (itS (ts.length : Int)).data.toList.length = (itS (ts.length : Int)).size := rfl
        simp only [reqB, List.length_append, List.length_cons, lineB, List.length_nil]
        omega
      have hv := bytes_conv w7 ⟨(reqB ts).toArray⟩ hlen
      refine ReqE.yes HOK.out ⟨_, rfl, ?_⟩ (E7.out.trans (bytes_ext w7 5 _))
      obtain ⟨q', c', e', hb, hc⟩ := hv
      exact ⟨q', c', e', hb, fun b o e => Nat.le_trans E7.out.le (hc b o e)⟩
theorem req_any (w : World) (v : Value) (ts : List ByteArray) (h : TxAt w v ts) (hpw : Pow w) :
    Calls Tryd.prog 14 #[v] w (ReqE w ts) := by
  by_cases h0 : ts.length = 0
  · obtain rfl := List.eq_nil_of_length_eq_zero h0
    obtain ⟨_, q, c, rfl, _⟩ := h
    exact req_none w q c
  · by_cases h1 : 65536 < ts.length
    · exact req_many w v ts h h1
    · by_cases h2 : 1048576 < sumS ts
      · exact req_long w v ts h (by omega) (by omega) h2
      · exact req_yes w v ts h ⟨by omega, by omega, by omega⟩ hpw
end Go.Proofs.YtopdgmchkoaeeaaDoor
