/- The closed part of all statements: it holds. -/
import Derived.Test.YtopdgmchkoaeeaaDoorRtR
namespace Go.Proofs.YtopdgmchkoaeeaaDoor
open Go.RowKit
set_option linter.unusedVariables false
set_option linter.unusedSimpArgs false

theorem TextsFrom.tx {base : Nat} {w : World} {v : Value} {ts : List ByteArray} (h : TextsFrom base w v ts) (hl : ts.length ≤ 9223372036854775807) : TxAt w v ts := by
  obtain ⟨q, c, e, h⟩ := h
  exact ⟨hl, q, c, e, fun h0 => let ⟨b, e, _, hx⟩ := h h0; ⟨b, 0, e, fun i hi => by rw [Nat.zero_add]; exact hx i hi⟩⟩
theorem tx_new (w : World) (a b : ByteArray) : TxAt (w.alloc (.cells #[.string a, .string b] 9)) (.slice (some ⟨w.heap.size, 0, none⟩) 2 2) [a, b] := by
  refine ⟨by simp, _, _, rfl, fun _ => ⟨_, _, rfl, fun i hi => ?_⟩⟩
  have B := Blk.new w 9 #[.string a, .string b]
  match i, hi with
  | 0, _ => exact B.cell 0
  | 1, _ => exact B.cell 1
theorem byte_new (w : World) (b : UInt8) : BytesAt (w.alloc (.cells #[.int .u8 (b.toNat : Int)] 5)) (some ⟨w.heap.size, 0, none⟩) 1 [b] := by
  have B := Blk.new w 5 #[.int .u8 (b.toNat : Int)]
  refine ⟨fun k hk => ⟨_, _, rfl, ?_⟩, by simp, .inr ⟨_, _, rfl, by rw [size_alloc]; omega⟩, ⟨by simp, by omega⟩⟩
  obtain rfl : k = 0 := by simp at hk; omega
  exact B.cell 0
theorem empty_own (w : World) : (w.alloc (.cells #[] 5)).ownsRow w.heap.size 5 1 (.slice (some ⟨w.heap.size, 0, none⟩) 0 0) ([] : List UInt8).length (Lib.byteCells []) := World.ownsRow_lit w #[] 0 (Nat.le_refl _) (by unfold maxLen; omega) rfl
theorem gl_reqOkB : reqOkB gl = true := (reqOk_iff gl).2 gl_ok
theorem parse_gb9 : parseS (gb ++ [9]) = .ok (gl, 20) := by rw [← gb_eq, parseS_reads gl [9] gl_ok, gb_eq]; rfl
theorem parse_gb : parseS gb = .ok (gl, 20) := by
  have := parseS_reads gl [] gl_ok
  rw [List.append_nil, gb_eq] at this
  rw [this]; rfl
theorem parse_no : parseS [] = .error 130 := by rfl
theorem decode_xb : decodeS xb = .ok (xr, ⟨13, 1048576, 65534⟩) := by
  have := decodeS_reads xr [] ((repOk_iff xr).1 xr_ok) xr_64
  rw [List.append_nil, xb_eq] at this
  rw [this]; rfl

set_option maxRecDepth 100000 in
set_option maxHeartbeats 4000000 in
theorem works_any (w : World) (hpw : Pow w) : Calls Tryd.prog 13 #[] w fun e w' => e = .returned (.bool true) ∧ Ext w w' := by
  have HP := Lib.hid hpw
  have cR := Lib.hid (req_any _ _ gl (tx_new w ⟨#[71, 69, 84]⟩ ⟨#[97]⟩) (hpw.ext ((Ext.refl w).alloc _)))
  clear hpw
  go_enter Tryd.func13, Tryd.ntmps13
  go_wp2_with fail
  refine cR.out.mono ?_
  clear cR
  rintro e w2 ⟨e2, hif⟩
  rw [if_pos gl_reqOkB, gb_eq] at hif
  obtain ⟨v, rfl, q, c, rfl, hb, hbase⟩ := hif
  rw [gb_len]
  have E2 := Lib.hid (((Ext.refl w).alloc _).trans e2)
  obtain ⟨v3, w3, hr3, ho3, hg3⟩ := append_bytes (w2.alloc (.cells #[] 5)) 25 w2.heap.size _ [] (empty_own w2) q c gb (hb.ext ((Ext.refl w2).alloc _)) (by simp [gb_len]) (by rw [size_alloc]; omega)
  have E3 := Ext.grown ((Ext.refl w2).alloc (.cells #[] 5)) hg3 (fun x hx => ((empty_own w2).lt x hx).1)
  obtain ⟨v4, w4, hr4, ho4, hg4⟩ := append_bytes (w3.alloc (.cells #[.int .u8 9] 5)) 25 w2.heap.size v3 gb (own_ext ho3 ((Ext.refl w3).alloc _)) _ _ [9] (byte_new w3 9) (by simp [gb_len]) (by rw [size_alloc]; have := E3.le; omega)
  have E4 : Ext w2 w4 := Ext.grown (E3.alloc (.cells #[.int .u8 9] 5)) hg4 (fun x hx => (ho3.lt x hx).1)
  obtain ⟨q3, c3, hv3, _⟩ := own_bytes ho3
  obtain ⟨q4, c4, hv4, hb4, _⟩ := own_bytes ho4
  subst hv3 hv4
  rw [gb_len] at hr3
  have HR3 := Lib.hid hr3
  have HR4 := Lib.hid hr4
  have cP := parse_any w4 q4 c4 (gb ++ [9]) hb4
  rw [parse_gb9] at cP
  have hl9 : (gb ++ [9]).length = gb.length + 1 := rfl
  rw [hl9] at cP
  have CP := Lib.hid cP
  have HB := Lib.hid hb
  have HE4 := Lib.hid (E2.out.trans E4)
  have HE24 := Lib.hid E4
  clear e2 hr3 ho3 hg3 hr4 ho4 hg4 cP hb hb4 E3 E4
  go_wp2_with (first | (at_builtin; refine wpList_append_run rfl _ _ 25 rfl _ _ _ _ rfl rfl HR3.out ?_) | (at_builtin; refine wpList_append_run rfl _ _ 25 rfl _ _ _ _ rfl rfl HR4.out ?_))
  refine CP.out.mono ?_
  clear CP HR3 HR4
  rintro e w5 ⟨v5, rfl, hT5, e5⟩
  obtain ⟨q5, c5, hv5⟩ : ∃ q' c', v5 = .slice q' 2 c' := ⟨_, _, hT5.choose_spec.choose_spec.1⟩
  subst hv5
  have HT5 := Lib.hid hT5
  have HE5 := Lib.hid (HE4.out.trans e5)
  have HE25 := Lib.hid (HE24.out.trans e5)
  have BX := Blk.new w5 41 #[.int .i64 3, .int .i64 1, .string ⟨#[]⟩, .slice none 0 0, .int .i64 0, .int .i64 0, .string ⟨#[]⟩, .slice none 0 0]
  have CE : Calls Tryd.prog 27 #[.agg #[.int .i64 5, .int .i64 0, .string ⟨#[]⟩, .slice (some ⟨w5.heap.size, 0, none⟩) 2 2]] (w5.alloc (.cells #[.int .i64 3, .int .i64 1, .string ⟨#[]⟩, .slice none 0 0, .int .i64 0, .int .i64 0, .string ⟨#[]⟩, .slice none 0 0] 41)) (EncE (w5.alloc (.cells #[.int .i64 3, .int .i64 1, .string ⟨#[]⟩, .slice none 0 0, .int .i64 0, .int .i64 0, .string ⟨#[]⟩, .slice none 0 0] 41)) xr) :=
    encode_any _ xr (some ⟨w5.heap.size, 0, none⟩) 2 1 (by
      refine ⟨_, _, rfl, fun _ => ⟨w5.heap.size, 0, rfl, by show w5.heap.size < (w5.alloc _).heap.size; rw [size_alloc]; omega, fun i hi => ?_⟩⟩
      match i, hi with
      | 0, _ => exact ⟨BX.cell 0, BX.cell 1, BX.cell 2, _, BX.cell 3, rfl, none, 0, rfl⟩
      | 1, _ => exact ⟨BX.cell 4, BX.cell 5, BX.cell 6, _, BX.cell 7, rfl, none, 0, rfl⟩) xr_64 ((HP.out.ext HE5.out).ext ((Ext.refl w5).alloc _))
  have HCE := Lib.hid CE
  clear hT5 e5 BX CE
  go_wp2_with fail
  refine HCE.out.mono ?_
  clear HCE
  rintro e w6 ⟨e6, hif⟩
  rw [if_pos xr_ok, xb_eq] at hif
  obtain ⟨v6, rfl, q6, c6, rfl, hb6, _⟩ := hif
  have hl13 : xb.length = 13 := rfl
  have cD := decode_any w6 q6 c6 xb hb6
  rw [decode_xb, hl13] at cD
  rw [hl13]
  have HCD := Lib.hid cD
  have HB6 := Lib.hid hb6
  have HE56 := Lib.hid (((Ext.refl w5).alloc (.cells #[.int .i64 3, .int .i64 1, .string ⟨#[]⟩, .slice none 0 0, .int .i64 0, .int .i64 0, .string ⟨#[]⟩, .slice none 0 0] 41)).trans e6)
  clear e6 cD hb6 hl13
  go_wp2_with fail
  refine HCD.out.mono ?_
  clear HCD
  rintro e w7 ⟨v7, rfl, ⟨lv7, rfl, hL7⟩, e7⟩
  obtain ⟨q7, c7, hlv7⟩ : ∃ q' c', lv7 = .slice q' 2 c' := hL7.slice
  subst hlv7
  have HE67 := Lib.hid e7
  have HBX := Lib.hid (Blk.new w7 41 #[.int .i64 xr.k, .int .i64 xr.n, .string xr.s, .slice q7 2 c7])
  have HE78 := Lib.hid ((Ext.refl w7).alloc (.cells #[.int .i64 xr.k, .int .i64 xr.n, .string xr.s, .slice q7 2 c7] 41))
  clear hL7 e7
  go_wp2_with fail
  generalize w7.alloc (.cells #[.int .i64 xr.k, .int .i64 xr.n, .string xr.s, .slice q7 2 c7] 41) = w8 at HBX HE78 ⊢
  refine (new_reader w8).mono ?_
  rintro e w9 ⟨rfl, rd9, e9⟩
  have HE28 := Lib.hid (((HE25.out.trans HE56.out).trans HE67.out).trans HE78.out)
  have CF : Calls Tryd.prog 24 #[.pointer (some ⟨w8.heap.size, 0, none⟩), .slice q 20 c] w9 (FeedE w9 (w8.heap.size + 1) w8.heap.size [] gb 0) :=
    feed_any w9 _ _ [] gb 0 q c rd9 ((HB.out.ext HE28.out).ext e9) (by simp [gb_len])
  have HCF := Lib.hid CF
  have HE89 := Lib.hid e9
  clear CF rd9 e9
  go_wp2_with fail
  refine HCF.out.mono ?_
  clear HCF
  rintro e w10 ⟨rfl, rd10, hk, hos, htp, hout, hle⟩
  have E10 : Ext w8 w10 := ⟨hos.trans HE89.out.os, htp.trans HE89.out.tape, hout.trans HE89.out.output, Nat.le_trans HE89.out.le hle, fun k hk' => (hk k (by omega) (by omega)).trans (HE89.out.block k hk')⟩
  have cN := next_any w10 _ _ gb rd10 (by rw [gb_len]; omega)
  rw [parse_gb] at cN
  have HCN := Lib.hid cN
  have HE10 := Lib.hid E10
  have hs10 := rd10.hb
  clear rd10 hk hos htp hout hle E10 cN HE89
  go_wp2_with fail
  refine HCN.out.mono ?_
  clear HCN
  rintro e w11 ⟨o11, v11, rfl, hT11, rd11⟩
  obtain ⟨q11, c11, hv11⟩ : ∃ q' c', v11 = .slice q' 2 c' := ⟨_, _, hT11.choose_spec.choose_spec.1⟩
  subst hv11
  have hd : gb.drop 20 = [] := rfl
  have rd11' : RdAt w11 (w8.heap.size + 1) w8.heap.size [] 0 := rd11
  have cN := next_any w11 _ _ [] rd11' (by simp)
  rw [parse_no] at cN
  have HCN := Lib.hid cN
  have HO11 := Lib.hid o11
  have HT11 := Lib.hid hT11
  clear rd11 rd11' o11 hT11 cN hd
  go_wp2_with fail
  refine HCN.out.mono ?_
  clear HCN
  rintro e w12 ⟨o12, hx12⟩
  obtain ⟨rfl, _⟩ : e = .returned (.tuple #[.slice none 0 0, .int .i64 130]) ∧ _ := hx12
  have E12 : Ext w8 w12 := Only.to_ext (HO11.out.trans o12) HE10.out (Nat.le_refl _)
  have HT12 := Lib.hid ((HT11.out.low (fun b o x hb hc => o12.cell (by omega) hc)).tx (by decide))
  have HE12 := Lib.hid E12
  have HE212 := Lib.hid (HE28.out.trans E12)
  have HTA := Lib.hid ((HT5.out.low (fun b o x _ hc => ((((HE56.out.trans HE67.out).trans HE78.out).trans E12).cell hc))).tx (by decide))
  have x3 : w12.cell? ⟨w7.heap.size, 3, none⟩ = some (.slice q7 2 c7) := (HBX.out.ext E12).cell 3
  have k1 : (convert 25 9 (.slice q 20 c)).run Tryd.prog w12 = .ok (.string ⟨#[42, 50, 13, 10, 36, 51, 13, 10, 71, 69, 84, 13, 10, 36, 49, 13, 10, 97, 13, 10]⟩) w12 := conv_any (HB.out.ext HE212.out)
  have hsame : sameT gl gl = true := decide_eq_true rfl
  have hO1 := (one_any' _ _ _ gl gl (HTA.out.ext ((Ext.refl w12).alloc (.cells #[.string ⟨#[71, 69, 84]⟩, .string ⟨#[97]⟩] 9))) (tx_new w12 ⟨#[71, 69, 84]⟩ ⟨#[97]⟩))
  rw [hsame] at hO1
  have HO1 := Lib.hid hO1
  clear hO1
  have HS := Lib.hid hsame
  clear hsame
  have HB12 := Lib.hid (HB6.out.ext ((HE67.out.trans HE78.out).trans E12))
  clear o12 E12 HT11 HT5 HB
  go_wp2_with (go_at_call 16; refine (num_any _ _).mono ?_; rintro e w' ⟨rfl, rfl⟩)
  refine HO1.out.mono ?_
  clear HO1 k1 x3
  rintro e w13 ⟨rfl, e13⟩
  have E13 : Ext w12 w13 := ((Ext.refl w12).alloc _).trans e13
  have x3 : w13.cell? ⟨w7.heap.size, 3, none⟩ = some (.slice q7 2 c7) := (HBX.out.ext (HE12.out.trans E13)).cell 3
  have k2 : (convert 25 9 (.slice q6 13 c6)).run Tryd.prog w13 = .ok (.string ⟨#[42, 50, 13, 10, 58, 49, 13, 10, 36, 45, 49, 13, 10]⟩) w13 := conv_any (HB12.out.ext E13)
  have hO2 := (one_any' w13 _ _ gl gl (HT12.out.ext E13) (HTA.out.ext E13))
  rw [HS.out] at hO2
  have HO2 := Lib.hid hO2
  have HE13 := Lib.hid (HE212.out.trans E13)
  clear hO2 e13 E13 HB12 HBX
  go_wp2_with fail
  refine HO2.out.mono ?_
  clear HO2 k2 x3
  rintro e w14 ⟨rfl, e14⟩
  have HE14 := Lib.hid ((E2.out.trans HE13.out).trans e14)
  clear e14
  go_wp2_with (go_at_call 16; refine (num_any _ _).mono ?_; rintro e w' ⟨rfl, rfl⟩)
  go_ret
  exact ⟨rfl, HE14.out⟩
end Go.Proofs.YtopdgmchkoaeeaaDoor
