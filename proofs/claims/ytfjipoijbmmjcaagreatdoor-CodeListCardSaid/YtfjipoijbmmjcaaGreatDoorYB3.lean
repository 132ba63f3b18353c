/- Numbers of a line. Digits of sixteen told back. -/
import Derived.Test.YtfjipoijbmmjcaaGreatDoorYClC
import Derived.Test.YtfjipoijbmmjcaaGreatDoorYB1
namespace Go.Proofs.YtfjipoijbmmjcaaGreatDoor
open Go.RowKit
set_option linter.unusedVariables false
set_option linter.unusedSimpArgs false

structure LLaid (w : World) : Prop where
 pow : Pow w
 syn : ∃ te pe, w.cell? ⟨2, 0, none⟩ = some (.iface te pe)
 rng : ∃ te pe, w.cell? ⟨3, 0, none⟩ = some (.iface te pe)
 mx : ∃ m, w.cell? ⟨1, 0, none⟩ = some (.int .i64 m)
theorem LLaid.ext {w w' : World} (h : LLaid w) (he : Ext w w') : LLaid w' :=
 ⟨h.pow.ext he, let ⟨a, b, c⟩ := h.syn; ⟨a, b, he.cell c⟩, let ⟨a, b, c⟩ := h.rng; ⟨a, b, he.cell c⟩, let ⟨a, c⟩ := h.mx; ⟨a, he.cell c⟩⟩
theorem atoi_same (l : List UInt8) : Lib.atoiAll l = Lib.parseIntB 64 l := by
 cases l with
 | nil => rfl
 | cons c r =>
  simp only [Lib.atoiAll, Lib.parseIntB, Lib.parseUintB_64]
  rfl
theorem atoi_bad (s : ByteArray) (hlim : s.size ≤ 281474976710656) (h : ∀ v, ¬ Lib.atoiAll s.data.toList = .ok v) (h' : ¬ Lib.atoiAll s.data.toList = .range) (ev : Value) (w : World) (hv : w.cell? ⟨2, 0, none⟩ = some ev) (hev : ev = .nilIface ∨ ∃ te pe, ev = .iface te pe) :
  Calls Tryz.prog 58 #[.string s] w fun e w' => ∃ T p, e = .returned (.tuple #[.int .i64 0, .iface T p]) ∧ Below w.heap.size w w' := by
 cases hp : Lib.atoiAll s.data.toList with
 | ok v => exact absurd hp (h v)
 | range => exact absurd hp h'
 | _ => exact (Any.strconv_Atoi_syntax Tryz.laysC172 s hlim hp ev w hv hev).mono fun e w' ⟨N, h1, _, _, h2⟩ => ⟨_, _, h1, h2⟩
theorem pint_bad (s : ByteArray) (hlim : s.size ≤ 281474976710656) (h : ∀ v, ¬ Lib.parseIntB 64 s.data.toList = .ok v) (h' : ¬ Lib.parseIntB 64 s.data.toList = .range) (ev : Value) (w : World) (hv : w.cell? ⟨2, 0, none⟩ = some ev) (hev : ev = .nilIface ∨ ∃ te pe, ev = .iface te pe) :
  Calls Tryz.prog 43 #[.string s, .int .i64 10, .int .i64 64] w fun e w' => ∃ T p, e = .returned (.tuple #[.int .i64 0, .iface T p]) ∧ Below w.heap.size w w' := by
 cases hp : Lib.parseIntB 64 s.data.toList with
 | ok v => exact absurd hp (h v)
 | range => exact absurd hp h'
 | _ => exact (Any.strconv_ParseInt_10_at64_syntax Tryz.laysC174 s hlim hp ev w hv hev).mono fun e w' ⟨N, h1, _, _, h2⟩ => ⟨_, _, h1, h2⟩
def AtoE (s : ByteArray) (w : World) (e : Ending) (w' : World) : Prop :=
 ∃ u ev, e = .returned (.tuple #[.int .i64 u, ev]) ∧ Ext w w' ∧ i64 u ∧ Hid ((Lib.parseIntB 64 s.data.toList = .ok u ∧ ev = .nilIface) ∨ ((∀ v, ¬ Lib.parseIntB 64 s.data.toList = .ok v) ∧ ∃ T p, ev = .iface T p))
theorem sat_i64 (l : List UInt8) : i64 (Lib.intSat 64 l) := by
 unfold Lib.intSat i64
 split <;> decide
theorem asat_i64 (l : List UInt8) : i64 (Lib.atoiSat l) := by
 unfold Lib.atoiSat i64
 split <;> decide
theorem ok_i64 {l : List UInt8} {v : Int} (h : Lib.parseIntB 64 l = .ok v) : i64 v := by
 rw [← atoi_same] at h
 exact Lib.atoiAll_bounds h
theorem atoi_any (s : ByteArray) (hs : s.size ≤ 281474976710656) (w : World) (hL : LLaid w) : Calls Tryz.prog 58 #[.string s] w (AtoE s w) := by
 cases hp : Lib.parseIntB 64 s.data.toList with
 | ok v =>
  refine (Tryz.strconv_Atoi_ok s (by omega) v (by rw [atoi_same]; exact hp) w).mono ?_
  rintro e w' ⟨rfl, hw⟩
  refine ⟨v, .nilIface, rfl, ?_, ok_i64 hp, Lib.hid (.inl ⟨hp, rfl⟩)⟩
  rcases hw with rfl | ⟨t, rfl⟩
  ·exact Ext.refl _
  ·exact Lib.bytesWorld_below w _ t
 | range =>
  obtain ⟨te, pe, hc⟩ := hL.rng
  refine (Tryz.strconv_Atoi_range s hs (by rw [atoi_same]; exact hp) _ w hc (.inr ⟨_, _, rfl⟩)).mono ?_
  rintro e w' ⟨n, rfl, _, _, hb⟩
  exact ⟨_, _, rfl, hb, asat_i64 _, Lib.hid (.inr ⟨fun v => (by rw [hp]; exact fun h => by cases h), _, _, rfl⟩)⟩
 | _ =>
  obtain ⟨te, pe, hc⟩ := hL.syn
  refine (atoi_bad s hs (fun v h => by rw [atoi_same, hp] at h; cases h) (fun h => by rw [atoi_same, hp] at h; cases h) _ w hc (.inr ⟨_, _, rfl⟩)).mono ?_
  rintro e w' ⟨T, p, rfl, hb⟩
  refine ⟨_, _, rfl, hb, ⟨by decide, by decide⟩, Lib.hid (.inr ⟨fun v => (by rw [hp]; exact fun h => by cases h), _, _, rfl⟩)⟩
theorem pint_any (s : ByteArray) (hs : s.size ≤ 281474976710656) (w : World) (hL : LLaid w) : Calls Tryz.prog 43 #[.string s, .int .i64 10, .int .i64 64] w (AtoE s w) := by
 cases hp : Lib.parseIntB 64 s.data.toList with
 | ok v =>
  refine (Tryz.strconv_ParseInt_10_at64_ok s (by omega) v hp w).mono ?_
  rintro e w' ⟨rfl, hw⟩
  refine ⟨v, .nilIface, rfl, ?_, ok_i64 hp, Lib.hid (.inl ⟨hp, rfl⟩)⟩
  rcases hw with rfl | ⟨t, rfl⟩
  ·exact Ext.refl _
  ·exact Lib.bytesWorld_below w _ t
 | range =>
  obtain ⟨te, pe, hc⟩ := hL.rng
  refine (Tryz.strconv_ParseInt_10_at64_range s hs hp _ w hc (.inr ⟨_, _, rfl⟩)).mono ?_
  rintro e w' ⟨n, rfl, _, _, hb⟩
  exact ⟨_, _, rfl, hb, sat_i64 _, Lib.hid (.inr ⟨fun v => (by rw [hp]; exact fun h => by cases h), _, _, rfl⟩)⟩
 | _ =>
  obtain ⟨te, pe, hc⟩ := hL.syn
  refine (pint_bad s hs (fun v h => by rw [hp] at h; cases h) (fun h => by rw [hp] at h; cases h) _ w hc (.inr ⟨_, _, rfl⟩)).mono ?_
  rintro e w' ⟨T, p, rfl, hb⟩
  exact ⟨_, _, rfl, hb, ⟨by decide, by decide⟩, Lib.hid (.inr ⟨fun v => (by rw [hp]; exact fun h => by cases h), _, _, rfl⟩)⟩
theorem infoInt : (Tryz.prog.info? 3).map (fun i => (i.zero, i.size, i.bytes)) = some (some (.int .i64 0), 1, 8) := by kernel_rfl
def OwnN (w : World) (B : Nat) (v : Value) (l : List Int) : Prop := w.ownsRow B 3 1 v l.length (l.map (Value.int .i64))
theorem OwnN.ext {w w' : World} {B : Nat} {v : Value} {l : List Int} (h : OwnN w B v l) (he : Ext w w') : OwnN w' B v l := own_ext h he
theorem OwnN.slice {w : World} {B : Nat} {v : Value} {l : List Int} (h : OwnN w B v l) : ∃ q c, v = .slice q l.length c := by
 rcases h.2 with ⟨rfl, h0⟩ | ⟨g, cap, cur, rfl, _⟩
 ·exact ⟨none, 0, by rw [h0]⟩
 ·exact ⟨_, _, rfl⟩
structure AppN (w : World) (B : Nat) (v : Value) (l : List Int) (w' : World) (v' : Value) : Prop where
 own : OwnN w' B v' l
 grow : w.grownBy w' v.ownBlock
 row : ∀ x, v.ownBlock = some x → B ≤ x
theorem app_int (W : World) (ty : TypeId) (B g : Nat) (v : Value) (l : List Int) (n : Int) (h : OwnN W B v l) (hb : Blk W g 3 #[.int .i64 n]) (hB : B ≤ W.heap.size) (hlen : l.length ≤ 1000000000) :
  ∃ v' w', AppRuns Tryz.prog 71 ty v (.slice (some ⟨g, 0, none⟩) 1 1) W v' w' ∧ AppN W B v (l ++ [n]) w' v' := by
 obtain ⟨i0, hi, hz0, hz1, hz2⟩ := info_parts infoInt
 obtain ⟨v', w', h1, h2, h3, _⟩ := run_append_own (P := Tryz.prog) W B 71 ty 3 i0 (.int .i64 0) 1 8 Tryz.underlying71 hi hz0 hz1 hz2 rfl (by omega) v l.length (l.map (Value.int .i64)) h ⟨g, 0, none⟩ 1 1 [.int .i64 n] rfl
  (fun j u hu => by
   have hadd : (⟨g, 0, none⟩ : Addr).add j = ⟨g, 0 + j, none⟩ := by unfold Addr.add; split <;> simp_all
   rw [hadd, hb.cell, Nat.zero_add]
   simpa using hu) (by intro u hu; simp at hu; subst hu; rfl) (by unfold maxLen; omega) (by omega) hB
 refine ⟨v', w', ⟨h1⟩, ?_, h3, own_block h⟩
 show w'.ownsRow B 3 1 v' (l ++ [n]).length ((l ++ [n]).map (Value.int .i64))
 rw [List.map_append, List.length_append]
 exact h2
def tnS (s : ByteArray) : Option Int := tnL s.data.toList
def NumsE (l : List ByteArray) (w : World) (e : Ending) (w' : World) : Prop :=
 ∃ v b, e = .returned (.tuple #[v, .bool b]) ∧ Ext w w' ∧ Hid ((b = true ∧ ∃ ns : List Int, l.map tnS = ns.map some ∧ (∀ n ∈ ns, i64 n) ∧ OwnN w' w.heap.size v ns) ∨ (b = false ∧ v = .slice none 0 0 ∧ ∃ s ∈ l, tnS s = none))
set_option maxRecDepth 100000 in
set_option maxHeartbeats 4000000 in
theorem numbers_any (l : List ByteArray) (v : Value) (w : World) (hL : LLaid w) (hv : TextsAt w v l) (hn : l.length ≤ 1000000000) (hs : ∀ s ∈ l, s.size ≤ 281474976710656) :
  Calls Tryz.prog 42 #[v] w (NumsE l w) := by
 obtain ⟨q, c, rfl, hy⟩ := hv
 obtain ⟨n, hnn⟩ : ∃ n, l.length = n := ⟨_, rfl⟩
 rw [hnn] at hn ⊢
 have HNN := Lib.hid hnn
 have HY := Lib.hid hy
 have HS := Lib.hid hs
 have HL := Lib.hid hL
 have hnI : (n : Int) ≤ 1000000000 := by omega
 clear hy hs hL hnn
 go_enter Tryz.func42, Tryz.ntmps42
 go_wp2_with fail
 go_loopw [4, 11] (fun s4 s11 wr => ∃ (j : Nat) (ns : List Int), s11 = .int .i64 (j : Int) ∧ j ≤ n ∧ ns.length = j ∧ Hid (OwnN wr w.heap.size s4 ns) ∧ Hid (Ext w wr) ∧ Hid ((l.take j).map tnS = ns.map some) ∧ Hid (∀ x ∈ ns, i64 x)) (fun _ s11 _ => n - (intOf s11).toNat)
 case atStart => exact ⟨0, [], rfl, Nat.zero_le _, rfl, Lib.hid (World.ownsRow_nil _ _ _ _), Lib.hid (Ext.refl _), Lib.hid rfl, Lib.hid (fun x hx => (List.not_mem_nil hx).elim)⟩
 case round =>
  obtain ⟨j, ns, rfl, hj, hnl, HO, HE, HM, HI⟩ := hrel
  obtain ⟨q0, k0, rfl⟩ := HO.out.slice
  rw [hnl] at HO ⊢
  have HNL := Lib.hid hnl
  clear hnl
  have hj0 : (0 : Int) ≤ (j : Int) := by omega
  by_cases hlt : j < n
  ·have hd : decide ((j : Int) < (n : Int)) = true := decide_eq_true (by omega)
   have hd' : decide (j < n) = true := decide_eq_true hlt
   have hltI : (j : Int) < (n : Int) := by omega
   have hjl : j < l.length := by rw [HNN.out]; exact hlt
   obtain ⟨b, o, rfl, hcell⟩ := HY.out (by omega)
   have c0 := HE.out.cell (hcell j hjl)
   have lb := cell_lt c0
   simp only at lb
   have hsz := HS.out _ (List.getElem_mem hjl)
   have hmem := List.getElem_mem hjl
   have htk := List.take_succ_eq_append_getElem hjl
   obtain ⟨s, hs0⟩ : ∃ s, l[j] = s := ⟨_, rfl⟩
   rw [hs0] at c0 hsz hmem htk
   have HSZ := Lib.hid hsz
   have HME := Lib.hid hmem
   have HTK := Lib.hid htk
   clear hcell hs0 hjl hsz hmem htk
   go_wp2_with fail
   refine (atoi_any s HSZ.out _ (HL.out.ext HE.out)).mono ?_
   rintro e w4 ⟨u, ev, rfl, e4, hu, H⟩
   have E4 := Lib.hid (HE.out.trans e4)
   have EW := Lib.hid e4
   have HU := Lib.hid hu
   clear e4 hu
   rcases H.out with ⟨hp, rfl⟩ | ⟨hp, T, p, rfl⟩
   ·have HP := Lib.hid hp
    clear hp H
    go_wp2_with fail
    refine (itoa_any u _ (HL.out.pow.ext E4.out) HU.out.1 HU.out.2).mono ?_
    rintro e w5 ⟨rfl, e5⟩
    have E5 := Lib.hid (E4.out.trans e5)
    have EW5 := Lib.hid (EW.out.trans e5)
    clear e5
    by_cases hE : Lib.itoa u = s.data.toList
    ·have hE0 : itS u = s := by apply ByteArray.ext; unfold itS; rw [hE]
     have hE1 : ((itS u).toList == s.toList) = true := by rw [hE0]; simp
     have HT : Hid (tnS s = some u) := Lib.hid (by unfold tnS tnL; rw [HP.out]; simp only; rw [if_pos hE])
     obtain ⟨v', w6, hrun, happ⟩ := app_int (w5.alloc (.cells #[.int .i64 u] 3)) 71 w.heap.size w5.heap.size (.slice q0 j k0) ns u (HO.out.ext (EW5.out.alloc _)) (Blk.new _ _ _) (by have := E5.out.le; rw [size_alloc]; omega) (by rw [HNL.out]; omega)
     have HRUN := Lib.hid hrun.run
     have HO6 := Lib.hid happ.own
     have HE6 := Lib.hid ((E5.out.alloc _).grown happ.grow happ.row)
     clear hrun happ hE hE0
     go_wp2_with (at_builtin; refine wpList_append_run rfl _ _ 71 rfl _ _ _ _ rfl rfl HRUN.out ?_)
     go_roundw
     case rel => exact ⟨j + 1, ns ++ [u], by go_num, by omega, by rw [List.length_append, HNL.out]; rfl, HO6, HE6, Lib.hid (by rw [HTK.out, List.map_append, HM.out]; simp [HT.out]), Lib.hid (fun x hx => by
      rcases List.mem_append.1 hx with hx | hx
      ·exact HI.out x hx
      ·rw [List.mem_singleton] at hx; rw [hx]; exact HU.out)⟩
     case measure => simp [intOf]; omega
    ·have hE1 : ((itS u).toList == s.toList) = false := by
      rw [beq_eq_false_iff_ne, Lib.toList_data, Lib.toList_data]
      exact fun h => hE (by simpa [itS] using h)
     have HT : Hid (tnS s = none) := Lib.hid (by unfold tnS tnL; rw [HP.out]; simp only; rw [if_neg hE])
     clear hE
     go_wp2_with fail
     go_ret2
     exact ⟨_, _, rfl, E5.out, Lib.hid (.inr ⟨rfl, rfl, s, HME.out, HT.out⟩)⟩
   ·have HT : Hid (tnS s = none) := Lib.hid (by
     unfold tnS tnL
     cases hq : Lib.parseIntB 64 s.data.toList with
     | ok v => exact absurd hq (hp v)
     | range => rfl
     | _ => rfl)
    clear hp H
    go_wp2_with fail
    go_ret2
    exact ⟨_, _, rfl, E4.out, Lib.hid (.inr ⟨rfl, rfl, s, HME.out, HT.out⟩)⟩
  ·obtain rfl : j = n := by omega
   have hd : decide ((j : Int) < (j : Int)) = false := decide_eq_false (by omega)
   have hd' : decide (j < j) = false := decide_eq_false (by omega)
   have HF : Hid (l.map tnS = ns.map some) := Lib.hid (by have h := HM.out; rwa [List.take_of_length_le (by rw [HNN.out]; exact Nat.le_refl _)] at h)
   go_wp2_with fail
   go_ret2
   exact ⟨_, _, rfl, HE.out, Lib.hid (.inl ⟨rfl, ns, HF.out, HI.out, HO.out⟩)⟩
end Go.Proofs.YtfjipoijbmmjcaaGreatDoor
namespace Go.Proofs.YtfjipoijbmmjcaaGreatDoor
open Go.RowKit
set_option linter.unusedVariables false
set_option linter.unusedSimpArgs false

def UnE (s : ByteArray) (w : World) (e : Ending) (w' : World) : Prop :=
 ∃ t b, e = .returned (.tuple #[.string t, .bool b]) ∧ Ext w w' ∧ t.size ≤ s.size ∧ Hid (∀ x : ByteArray, s.data.toList = hexS x.data.toList → b = true ∧ t = x)
theorem ib_ge (c : UInt8) : Lib.indexByte hexT c = -1 ∨ ∃ n : Nat, n < 16 ∧ Lib.indexByte hexT c = (n : Int) := by
 have hall : ∀ k : Fin 256, Lib.indexByte hexT (UInt8.ofNat k.val) = -1 ∨ ∃ n : Fin 16, Lib.indexByte hexT (UInt8.ofNat k.val) = (n.val : Int) := by decide +kernel
 have hc : UInt8.ofNat c.toNat = c := UInt8.ofNat_toNat
 rcases hall ⟨c.toNat, by have := c.toNat_lt; omega⟩ with h | ⟨n, h⟩
 ·rw [hc] at h; exact .inl h
 ·rw [hc] at h; exact .inr ⟨n.val, n.isLt, h⟩
theorem ib_hd (n : Nat) (h : n < 16) : Lib.indexByte hexT (hd n) = (n : Int) := by
 have hall : ∀ k : Fin 16, Lib.indexByte hexT (hd k.val) = (k.val : Int) := by decide +kernel
 exact hall ⟨n, h⟩
theorem hexL_at (x : List UInt8) (k : Nat) (h : k < x.length) : (hexL x)[2 * k]? = some (hd (x[k].toNat / 16)) ∧ (hexL x)[2 * k + 1]? = some (hd (x[k].toNat % 16)) := by
 induction x generalizing k with
 | nil => simp at h
 | cons a x ih =>
  have e : hexL (a :: x) = hd (a.toNat / 16) :: hd (a.toNat % 16) :: hexL x := rfl
  rw [e]
  cases k with
  | zero => exact ⟨rfl, rfl⟩
  | succ k =>
   obtain ⟨h1, h2⟩ := ih k (by simpa using h)
   rw [show 2 * (k + 1) = 2 * k + 1 + 1 by omega]
   simp only [List.getElem?_cons_succ, List.getElem_cons_succ]
   exact ⟨h1, h2⟩
theorem or16 (a b : Nat) (ha : a < 16) (hb : b < 16) : bits BinOp.or IntKind.i64 ((a : Int) * 16) (b : Int) = ((16 * a + b : Nat) : Int) := by
 have hall : ∀ a b : Fin 16, bits BinOp.or IntKind.i64 ((a.val : Int) * 16) (b.val : Int) = ((16 * a.val + b.val : Nat) : Int) := by decide +kernel
 exact hall ⟨a, ha⟩ ⟨b, hb⟩
theorem ib_call (c : UInt8) (v : Int) (h : Lib.indexByte hexT c = v) (W : World) : Calls Tryz.prog 39 #[.string ⟨#[48, 49, 50, 51, 52, 53, 54, 55, 56, 57, 97, 98, 99, 100, 101, 102]⟩, .int .u8 (c.toNat : Int)] W fun e w' => e = .returned (.int .i64 v) ∧ w' = W := by
 refine (Tryz.strings_IndexByte ⟨#[48, 49, 50, 51, 52, 53, 54, 55, 56, 57, 97, 98, 99, 100, 101, 102]⟩ (c.toNat : Int) W).mono ?_
 rintro e w' ⟨rfl, rfl⟩
 refine ⟨?_, rfl⟩
 rw [← h]
 have h1 : ((c.toNat : Int).toNat.toUInt8) = c := by simp
 rw [h1]
 rfl
set_option maxRecDepth 100000 in
set_option maxHeartbeats 4000000 in
theorem unhex_any (s : ByteArray) (hs : s.size ≤ 4194304) (w : World) : Calls Tryz.prog 44 #[.string s] w (UnE s w) := by
 obtain ⟨m, hm⟩ : ∃ m, s.size = m := ⟨_, rfl⟩
 have hlen : s.data.toList.length = m := by rw [← hm]; rfl
 rw [hm] at hs
 have HLL := Lib.hid hlen
 have hmI : (m : Int) ≤ 4194304 := by omega
 clear hlen
 go_enter Tryz.func44, Tryz.ntmps44
 go_wp2_with fail
 go_loopw [4, 5] (fun s4 s5 wr => ∃ (k : Nat) (acc : List UInt8), s5 = .int .i64 ((2 * k : Nat) : Int) ∧ acc.length = k ∧ 2 * k ≤ m + 1 ∧ Hid (OwnB wr w.heap.size s4 acc) ∧ Hid (Ext w wr) ∧ Hid (∀ x : List UInt8, x ≠ [] → s.data.toList = hexL x → acc = x.take k)) (fun _ s5 _ => m + 2 - (intOf s5).toNat)
 case atStart => exact ⟨0, [], rfl, rfl, by omega, Lib.hid (OwnB.nil _ _), Lib.hid (Ext.refl _), Lib.hid (fun x _ _ => rfl)⟩
 case round =>
  obtain ⟨k, acc, rfl, hk, hkm, HO, HE, HX⟩ := hrel
  obtain ⟨q0, k0, rfl⟩ := HO.out.slice
  rw [hk] at HO ⊢
  have HK := Lib.hid hk
  clear hk
  obtain ⟨i, hi⟩ : ∃ i, 2 * k = i := ⟨_, rfl⟩
  rw [hi] at hkm ⊢
  have HI := Lib.hid hi
  clear hi
  have hi0 : (0 : Int) ≤ (i : Int) := by omega
  by_cases hlt : i + 1 < m
  ·obtain ⟨i2, hi2⟩ : ∃ i2, i + 1 = i2 := ⟨_, rfl⟩
   have hII : (i : Int) + 1 = (i2 : Int) := by omega
   have hd1 : decide ((i2 : Int) < (m : Int)) = true := decide_eq_true (by omega)
   have hd2 : decide (i2 < m) = true := decide_eq_true (by omega)
   have hltI : (i2 : Int) < (m : Int) := by omega
   have hi20 : (0 : Int) ≤ (i2 : Int) := by omega
   have hltJ : (i : Int) < (m : Int) := by omega
   have hwr : IntKind.i64.wrap (i2 : Int) = (i2 : Int) := IntWalk.i64_in _ (by omega)
   have hj1 : i < s.size := by omega
   have hj2 : i2 < s.size := by omega
   have HC1 : Hid (s.data.toList[i]? = some (s[i]'hj1)) := Lib.hid (List.getElem?_eq_getElem (by have := HLL.out; omega))
   have HC2 : Hid (s.data.toList[i2]? = some (s[i2]'hj2)) := Lib.hid (List.getElem?_eq_getElem (by have := HLL.out; omega))
   obtain ⟨c1, hc1⟩ : ∃ c, s[i]'hj1 = c := ⟨_, rfl⟩
   obtain ⟨c2, hc2⟩ : ∃ c, s[i2]'hj2 = c := ⟨_, rfl⟩
   rw [hc1] at HC1
   rw [hc2] at HC2
   obtain ⟨va, hva⟩ : ∃ v, Lib.indexByte hexT c1 = v := ⟨_, rfl⟩
   obtain ⟨vb, hvb⟩ : ∃ v, Lib.indexByte hexT c2 = v := ⟨_, rfl⟩
   have D1 := Lib.hid (fun (W : World) => ib_call c1 va hva W)
   have D2 := Lib.hid (fun (W : World) => ib_call c2 vb hvb W)
   have HVA := Lib.hid hva
   have HVB := Lib.hid hvb
   have ga := ib_ge c1
   have gb := ib_ge c2
   rw [hva] at ga
   rw [hvb] at gb
   have GA := Lib.hid ga
   have GB := Lib.hid gb
   clear ga gb hva hvb
   have HI2 := Lib.hid hi2
   clear hi2 hlt
   have HST : Hid (∀ x : List UInt8, s.data.toList = hexS x → x ≠ [] ∧ s.data.toList = hexL x ∧ ∃ h : k < x.length, c1 = hd (x[k].toNat / 16) ∧ c2 = hd (x[k].toNat % 16)) := Lib.hid (fun x hx => by
    have h1 := HC1.out
    have h2 := HC2.out
    have h3 := HLL.out
    have h4 := HI.out
    have h5 := HI2.out
    rw [hx] at h1 h2 h3
    unfold hexS at h1 h2 h3 hx
    by_cases h0 : x = []
    ·rw [if_pos h0] at h3
     simp at h3
     omega
    ·rw [if_neg h0] at h1 h2 h3 hx
     rw [hexL_len] at h3
     have hk : k < x.length := by omega
     obtain ⟨e1, e2⟩ := hexL_at x k hk
     rw [← h5, ← h4] at h2
     rw [← h4] at h1
     rw [e1] at h1
     rw [e2] at h2
     exact ⟨h0, hx, hk, (Option.some.inj h1).symm, (Option.some.inj h2).symm⟩)
   rcases GA.out with rfl | ⟨na, hna, rfl⟩
   ·have HNO : Hid (∀ x : ByteArray, s.data.toList ≠ hexS x.data.toList) := Lib.hid (fun x h => by
     obtain ⟨_, _, hk, e1, _⟩ := HST.out _ h
     have := HVA.out
     rw [e1, ib_hd _ (by have := (x.data.toList[k]).toNat_lt; omega)] at this
     omega)
    go_wp2_with fail
    go_region_held3 (fun w' => True) (trivial)
     (first
      | (go_at_call 39; with_reducible refine Calls.mono (D1.out _) ?_; rintro e w1 ⟨rfl, rfl⟩)
      | (go_at_call 39; with_reducible refine Calls.mono (D2.out _) ?_; rintro e w1 ⟨rfl, rfl⟩))
    all_goals go_wp2_with fail
    all_goals (
     go_ret2
     exact ⟨_, _, rfl, HE.out.drew, Nat.zero_le _, Lib.hid (fun x h => (HNO.out x h).elim)⟩)
   rcases GB.out with rfl | ⟨nb, hnb, rfl⟩
   ·have HNO : Hid (∀ x : ByteArray, s.data.toList ≠ hexS x.data.toList) := Lib.hid (fun x h => by
     obtain ⟨_, _, hk, _, e2⟩ := HST.out _ h
     have := HVB.out
     rw [e2, ib_hd _ (by omega)] at this
     omega)
    have n1 : decide ((na : Int) < 0) = false := decide_eq_false (by omega)
    have n2 : ¬ ((na : Int) < 0) := by omega
    go_wp2_with fail
    go_region_held3 (fun w' => True) (trivial)
     (first
      | (go_at_call 39; with_reducible refine Calls.mono (D1.out _) ?_; rintro e w1 ⟨rfl, rfl⟩)
      | (go_at_call 39; with_reducible refine Calls.mono (D2.out _) ?_; rintro e w1 ⟨rfl, rfl⟩))
    all_goals go_wp2_with fail
    all_goals (
     go_ret2
     exact ⟨_, _, rfl, HE.out.drew, Nat.zero_le _, Lib.hid (fun x h => (HNO.out x h).elim)⟩)
   have n1 : decide ((na : Int) < 0) = false := decide_eq_false (by omega)
   have n2 : decide ((nb : Int) < 0) = false := decide_eq_false (by omega)
   obtain ⟨b0, hb0⟩ : ∃ b : UInt8, b.toNat = 16 * na + nb := ⟨UInt8.ofNat (16 * na + nb), by rw [UInt8.toNat_ofNat']; exact Nat.mod_eq_of_lt (by omega)⟩
   have hor : bits BinOp.or IntKind.i64 ((na : Int) * 16) (nb : Int) = (b0.toNat : Int) := by rw [or16 na nb hna hnb, hb0]
   have hmod : (b0.toNat : Int) % 256 = (b0.toNat : Int) := by omega
   have HB0 := Lib.hid hb0
   have EA := Lib.hid (((Ext.refl wr).alloc (.cells #[.int .u8 b0.toNat] 5)).drew)
   obtain ⟨v', w2, hrun, happ⟩ := app_at (wr.alloc (.cells #[.int .u8 b0.toNat] 5)).drew 46 w.heap.size wr.heap.size (.slice q0 k k0) acc [b0] (HO.out.ext EA.out) (Blk.new wr _ _).drew (Nat.le_trans HE.out.le EA.out.le) (by rw [HK.out]; have := HI.out; simp; omega)
   have E2 := Lib.hid (happ.ext (HE.out.trans EA.out) (Nat.le_refl _))
   have HA2 := Lib.hid happ.own
   have HRUN := Lib.hid hrun.run
   have HX2 : Hid (∀ x : List UInt8, x ≠ [] → s.data.toList = hexL x → acc ++ [b0] = x.take (k + 1)) := Lib.hid (fun x h0 hx => by
    obtain ⟨_, _, hk, e1, e2⟩ := HST.out x (by unfold hexS; rw [if_neg h0]; exact hx)
    rw [HX.out x h0 hx, List.take_succ_eq_append_getElem hk]
    congr 1
    have h1 := HVA.out
    have h2 := HVB.out
    rw [e1, ib_hd _ (by have := (x[k]).toNat_lt; omega)] at h1
    rw [e2, ib_hd _ (by omega)] at h2
    have h3 := HB0.out
    have : b0 = x[k] := by
     apply UInt8.toNat_inj.1
     omega
    rw [this])
   have hi2k : ((i : Int) + 2) = ((2 * (k + 1) : Nat) : Int) := by have := HI.out; omega
   clear happ hrun hb0
   go_wp2_with fail
   go_region_held3 (fun w' => True) (trivial)
    (first
     | (go_at_call 39; with_reducible refine Calls.mono (D1.out _) ?_; rintro e w1 ⟨rfl, rfl⟩)
     | (go_at_call 39; with_reducible refine Calls.mono (D2.out _) ?_; rintro e w1 ⟨rfl, rfl⟩))
   all_goals go_wp2_with (at_builtin; refine wpList_append_run rfl _ _ 46 rfl _ _ _ _ rfl rfl HRUN.out ?_)
   all_goals (
    go_roundw
    case rel => exact ⟨k + 1, acc ++ [b0], by go_num, by rw [List.length_append, HK.out]; rfl, by have := HI.out; have := HI2.out; omega, HA2, E2, HX2⟩
    case measure => have := HI.out; simp [intOf]; omega)
  ·have hd1 : decide ((i : Int) + 1 < (m : Int)) = false := decide_eq_false (by omega)
   have hd2 : decide (i + 1 < m) = false := decide_eq_false hlt
   have hcv := HO.out.conv
   by_cases hdash : s.data.toList = [45]
   ·have hz1 : (s.toList == [45]) = true := by rw [Lib.toList_data, hdash]; rfl
    have HF : Hid (∀ x : ByteArray, s.data.toList = hexS x.data.toList → (⟨#[]⟩ : ByteArray) = x) := Lib.hid (fun x h => by
     rw [hdash] at h
     unfold hexS at h
     by_cases h0 : x.data.toList = []
     ·apply ByteArray.ext
      apply Array.toList_inj.1
      rw [h0]
     ·rw [if_neg h0] at h
      have := congrArg List.length h
      rw [hexL_len] at this
      simp at this
      omega)
    clear hdash
    go_wp2_with fail
    go_ret2
    exact ⟨_, _, rfl, HE.out, Nat.zero_le _, Lib.hid (fun x h => ⟨rfl, HF.out x h⟩)⟩
   ·have hz1 : (s.toList == [45]) = false := by rw [Lib.toList_data]; simpa using hdash
    have HD := Lib.hid hdash
    have HF : Hid (∀ b, (m % 2 = 0 → m ≠ 0 → b = true) → ∀ x : ByteArray, s.data.toList = hexS x.data.toList → b = true ∧ (⟨acc.toArray⟩ : ByteArray) = x) := Lib.hid (fun b hb x h => by
     unfold hexS at h
     by_cases h0 : x.data.toList = []
     ·rw [if_pos h0] at h
      exact absurd h HD.out
     ·rw [if_neg h0] at h
      have hlen := congrArg List.length h
      rw [hexL_len, HLL.out] at hlen
      have hne : x.data.toList.length ≠ 0 := fun e => h0 (List.eq_nil_of_length_eq_zero e)
      refine ⟨hb (by omega) (by omega), ?_⟩
      have ha := HX.out x.data.toList h0 h
      rw [List.take_of_length_le (by have := HI.out; omega)] at ha
      apply ByteArray.ext
      apply Array.toList_inj.1
      simpa using ha)
    have HSZ : Hid (acc.length ≤ m) := Lib.hid (by rw [HK.out]; have := HI.out; omega)
    clear hdash
    have htm : Int.tmod (m : Int) 2 = (m : Int) % 2 := Int.tmod_eq_emod_of_nonneg (by omega)
    obtain ⟨r, hr⟩ : ∃ r, (m : Int) % 2 = r := ⟨_, rfl⟩
    rw [hr] at htm
    have HR := Lib.hid hr
    by_cases h2 : r = 0
    ·subst h2
     by_cases h3 : m = 0
     ·have hz2 : s.toList.isEmpty = true := by rw [Lib.toList_data, List.isEmpty_iff]; exact List.eq_nil_of_length_eq_zero (by rw [HLL.out]; exact h3)
      have hz3 : s.toList = [] := by simpa using hz2
      have H3 := Lib.hid h3
      clear h3
      go_wp2_with fail
      go_ret2
      exact ⟨_, _, rfl, HE.out, (by rw [hm]; exact HSZ.out), Lib.hid (fun x h => HF.out _ (fun _ h => absurd H3.out h) x h)⟩
     ·have hz3 : ¬ s.toList = [] := by rw [Lib.toList_data]; intro h; exact h3 (by rw [← HLL.out, h]; rfl)
      have hz2 : s.toList.isEmpty = false := by simpa using hz3
      have H3 := Lib.hid h3
      clear h3
      go_wp2_with fail
      go_ret2
      exact ⟨_, _, rfl, HE.out, (by rw [hm]; exact HSZ.out), Lib.hid (fun x h => HF.out _ (fun _ _ => rfl) x h)⟩
    ·have hr1 : (r == 0) = false := by simpa using h2
     have H2 := Lib.hid h2
     clear h2
     go_wp2_with fail
     go_ret2
     exact ⟨_, _, rfl, HE.out, (by rw [hm]; exact HSZ.out), Lib.hid (fun x h => HF.out _ (fun h _ => absurd (by rw [← HR.out]; omega) H2.out) x h)⟩
end Go.Proofs.YtfjipoijbmmjcaaGreatDoor
