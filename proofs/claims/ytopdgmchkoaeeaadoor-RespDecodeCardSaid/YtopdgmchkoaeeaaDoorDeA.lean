/- RespDecode: the statement's walk. -/
import Derived.Test.YtopdgmchkoaeeaaDoorReK
namespace Go.Proofs.YtopdgmchkoaeeaaDoor
open Go.RowKit
set_option linter.unusedVariables false
set_option linter.unusedSimpArgs false

def dR (l : List UInt8) : Rep := match decodeS l with | .ok x => x.1 | .error _ => .mk 0 0 ⟨#[]⟩ []
def dN (l : List UInt8) : Int := match decodeS l with | .ok x => (x.2.p : Int) | .error _ => 0
def dC (l : List UInt8) : Int := match decodeS l with | .ok _ => 0 | .error c => c
theorem dec_of {w w' : World} {l : List UInt8} {e : Ending} (hs : DecE w (decodeS l) e w') : ∃ q c, e = .returned (.tuple #[cellsV (dR l).k (dR l).n (dR l).s (.slice q (dR l).l.length c), .int .i64 (dN l), .int .i64 (dC l)]) ∧ Ext w w' ∧ ListAt (fun b => w.heap.size ≤ b) w' 100 (.slice q (dR l).l.length c) (dR l).l := by
  unfold dR dN dC
  cases hp : decodeS l with
  | ok x =>
    rw [hp] at hs
    obtain ⟨v, rfl, ⟨lv, rfl, hl⟩, he⟩ := hs
    obtain ⟨q, c, rfl⟩ := hl.slice
    exact ⟨q, c, rfl, he, hl⟩
  | error c => rw [hp] at hs; exact ⟨none, 0, hs.1, hs.2, nil_list _ _ _⟩
theorem d_it (l : List UInt8) : itR (dR l) ≤ 65536 := by
  unfold dR
  have hb := decode_br l
  cases hp : decodeS l with
  | error c => simp [itR, itL]
  | ok x =>
    rw [hp] at hb
    cases hq : decodeR l with
    | error e => rw [hq] at hb; exact False.elim hb
    | ok y =>
      obtain ⟨⟨y1, y2, y3⟩, y4⟩ := y
      rw [hq] at hb
      have h1 := (decode_was hq).2.1.2.2
      obtain ⟨e1, _⟩ := hb
      simp only at e1
      show itR x.1 ≤ 65536
      rw [e1]
      exact h1
theorem bytes_cutD {w : World} {q : Option Addr} {c : Nat} {l : List UInt8} (h : BytesAt w q c l) (n : Nat) (hn : n ≤ l.length) : BytesAt w q c (l.take n) := by
  have hr := h.room
  have hl := h.len
  refine ⟨fun k hk => ?_, by rw [List.length_take]; omega, h.slot, by rw [List.length_take]; omega⟩
  have hk' : k < l.length := by rw [List.length_take] at hk; omega
  obtain ⟨b, o, e, hc⟩ := h.bytes k hk'
  exact ⟨b, o, e, by rw [List.getElem_take]; exact hc⟩
set_option maxRecDepth 100000 in
set_option maxHeartbeats 4000000 in
theorem law_decode_many (w : World) (q : Option Addr) (c : Nat) (l : List UInt8) (h1 : 3000 < l.length) (hpw : Pow w) :
    Calls Tryd.prog 5 #[.slice q l.length c] w fun e w' => e = .returned (.bool true) ∧ Ext w w' := by
  have HW := Lib.hid (works_any w hpw)
  have d1 : decide ((3000 : Int) < (l.length : Int)) = true := decide_eq_true (by omega)
  clear hpw
  go_enter Tryd.func5, Tryd.ntmps5
  go_wp2_with fail
  refine HW.out.mono ?_
  rintro e w' ⟨rfl, he⟩
  have HE := Lib.hid he
  clear he
  go_wp2_with fail
  go_ret
  exact ⟨rfl, HE.out⟩
set_option maxRecDepth 100000 in
set_option maxHeartbeats 8000000 in
theorem law_decode_few (w : World) (q : Option Addr) (c : Nat) (l : List UInt8) (hb : BytesAt w q c l) (h1 : l.length ≤ 3000) (hpw : Pow w) :
    Calls Tryd.prog 5 #[.slice q l.length c] w fun e w' => e = .returned (.bool true) ∧ Ext w w' := by
  have d1 : decide ((3000 : Int) < (l.length : Int)) = false := decide_eq_false (by omega)
  obtain ⟨v3, w3, hr3, ho3, hg3⟩ := append_bytes (w.alloc (.cells #[] 5)) 25 w.heap.size _ [] (empty_own w) q c l (hb.ext ((Ext.refl w).alloc _)) (by simp; omega) (by rw [size_alloc]; omega)
  have E3 := Ext.grown ((Ext.refl w).alloc (.cells #[] 5)) hg3 (fun x hx => ((empty_own w).lt x hx).1)
  obtain ⟨v4, w4, hr4, ho4, hg4⟩ := append_bytes (w3.alloc (.cells #[.int .u8 77] 5)) 25 w.heap.size v3 l (own_ext ho3 ((Ext.refl w3).alloc _)) _ _ [77] (byte_new w3 77) (by simp; omega) (by rw [size_alloc]; have := E3.le; omega)
  have E4 : Ext w w4 := Ext.grown (E3.alloc (.cells #[.int .u8 77] 5)) hg4 (fun x hx => (ho3.lt x hx).1)
  obtain ⟨q3, c3, hv3, _⟩ := own_bytes ho3
  obtain ⟨q4, c4, hv4, hb4, _⟩ := own_bytes ho4
  obtain ⟨g4, c4', hv4', _, _⟩ := ho4.form (by simp)
  rw [hv4] at hv4'
  injection hv4' with hq4 _ hc4
  subst hq4 hc4
  subst hv3 hv4
  have hl4 : (l ++ [77]).length = l.length + 1 := by simp
  have hroom := hb4.room.1
  rw [hl4] at hr4 hroom
  have hlast : w4.cell? ⟨g4, l.length, none⟩ = some (.int .u8 77) := by
    obtain ⟨b, o, e, hc⟩ := hb4.bytes l.length (by simp)
    cases e
    simpa using hc
  have hbm : BytesAt w4 (some ⟨g4, 0, none⟩) c4 l := by
    have h9 := bytes_cutD hb4 l.length (by simp)
    rwa [List.take_left] at h9
  have HR3 := Lib.hid hr3
  have HR4 := Lib.hid hr4
  have HE4 := Lib.hid E4
  have HBM := Lib.hid hbm
  have HB := Lib.hid hb
  have HP := Lib.hid hpw
  have HLAST := Lib.hid hlast
  have HIT := Lib.hid (d_it l)
  have HSZ : Hid ((⟨l.toArray⟩ : ByteArray).size ≤ 9223372036854775000) := Lib.hid (by show l.toArray.size ≤ _; simp; omega)
  have k0 : (0 : Int) ≤ (l.length : Int) := by omega
  have k1 : (l.length : Int) ≤ (c4 : Int) := by omega
  have k2 : (l.length : Int) + 1 ≤ (c4 : Int) := by omega
  clear hb hpw hr3 ho3 hg3 E3 hr4 ho4 hg4 E4 hb4 hl4 hroom hlast hbm
  go_enter Tryd.func5, Tryd.ntmps5
  go_wp2_with (first | (at_builtin; refine wpList_append_run rfl _ _ 25 rfl _ _ _ _ rfl rfl HR3.out ?_) | (at_builtin; refine wpList_append_run rfl _ _ 25 rfl _ _ _ _ rfl rfl HR4.out ?_))
  clear HR3 HR4
  refine (decode_any w4 (some ⟨g4, 0, none⟩) c4 l HBM.out).mono ?_
  intro e w5 h5
  obtain ⟨q5, c5, rfl, e5, t5⟩ := dec_of h5
  obtain ⟨R, hR⟩ : ∃ R, dR l = R := ⟨_, rfl⟩
  obtain ⟨PN, hPN⟩ : ∃ PN, dN l = PN := ⟨_, rfl⟩
  obtain ⟨PC, hPC⟩ : ∃ PC, dC l = PC := ⟨_, rfl⟩
  rw [hR] at t5 HIT ⊢
  rw [hPN, hPC]
  have HRR := Lib.hid hR
  have HRN := Lib.hid hPN
  have HRC := Lib.hid hPC
  have E5' := (Ext.refl w5).alloc (.cells #[.int .i64 R.k, .int .i64 R.n, .string R.s, .slice q5 R.l.length c5] 41)
  have HE45 := Lib.hid (e5.trans E5')
  have HE5 := Lib.hid ((HE4.out.trans e5).trans E5')
  have HT5 := Lib.hid (t5.ext E5')
  have HX5 := Lib.hid (Blk.new w5 41 #[.int .i64 R.k, .int .i64 R.n, .string R.s, .slice q5 R.l.length c5])
  have cv1 := conv_any (HB.out.ext HE5.out)
  clear h5 e5 t5 E5' hR hPN hPC
  go_wp2_with fail
  have hP : Calls Tryd.prog 21 #[.string ⟨l.toArray⟩] (w5.alloc (.cells #[.int .i64 R.k, .int .i64 R.n, .string R.s, .slice q5 R.l.length c5] 41)) (DecE _ (decodeS l)) := rdecode_any _ ⟨l.toArray⟩ HSZ.out
  refine hP.mono ?_
  intro e w6 h6
  obtain ⟨q6, c6, rfl, e6, t6⟩ := dec_of h6
  rw [HRR.out] at t6 ⊢
  rw [HRN.out, HRC.out]
  have E6' := (Ext.refl w6).alloc (.cells #[.int .i64 R.k, .int .i64 R.n, .string R.s, .slice q6 R.l.length c6] 41)
  have X6 := HX5.out.ext e6
  have hlt := X6.lt
  have x0 := X6.cell 0
  have x1 := X6.cell 1
  have x2 := X6.cell 2
  have x3 := X6.cell 3
  simp only [List.getElem?_toArray, List.getElem?_cons_zero, List.getElem?_cons_succ] at x0 x1 x2 x3
  have HE46 := Lib.hid ((HE45.out.trans e6).trans E6')
  have HE6 := Lib.hid ((HE5.out.trans e6).trans E6')
  have hO := rsame_any 100 100 _ _ (w6.alloc (.cells #[.int .i64 R.k, .int .i64 R.n, .string R.s, .slice q6 R.l.length c6] 41)) R R _ _ ((HT5.out.ext e6).ext E6') (t6.ext E6') (by have := HIT.out; omega)
  rw [sameR_self] at hO
  have HO := Lib.hid hO
  clear hO hP h6 e6 t6 cv1 HT5 HE45 HE5 E6' X6 HX5 HRR HRN HRC HIT
  go_wp2_with fail
  refine HO.out.mono ?_
  rintro e w7 ⟨rfl, e7⟩
  have HE7 := Lib.hid (HE6.out.trans e7)
  have cv1 := conv_any (HB.out.ext HE7.out)
  have cv2 := conv_any (HBM.out.ext (HE46.out.trans e7))
  have cl := (HE46.out.trans e7).cell HLAST.out
  have HW := Lib.hid (works_any w7 (HP.out.ext HE7.out))
  clear e7 HO x0 x1 x2 x3
  generalize (⟨l.toArray⟩ : ByteArray) = S at cv1 cv2 ⊢
  go_wp2_with (go_at_call 16; refine (num_any _ _).mono ?_; rintro e w' ⟨rfl, rfl⟩)
  refine HW.out.mono ?_
  rintro e w8 ⟨rfl, e8⟩
  have HE8 := Lib.hid (HE7.out.trans e8)
  clear e8
  go_wp2_with fail
  go_ret
  exact ⟨rfl, HE8.out⟩
theorem law_decode (w : World) (q : Option Addr) (c : Nat) (l : List UInt8) (hb : BytesAt w q c l) (hpw : Pow w) :
    Calls Tryd.prog 5 #[.slice q l.length c] w fun e w' => e = .returned (.bool true) ∧ Ext w w' := by
  by_cases h : 3000 < l.length
  · exact law_decode_many w q c l h hpw
  · exact law_decode_few w q c l hb (by omega) hpw
end Go.Proofs.YtopdgmchkoaeeaaDoor
