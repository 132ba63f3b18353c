/- RespBounds: the statement's walk. -/
import Derived.Test.YtopdgmchkoaeeaaDoorRbA
import Derived.Test.YtopdgmchkoaeeaaDoorRtT
namespace Go.Proofs.YtopdgmchkoaeeaaDoor
open Go.RowKit
set_option linter.unusedVariables false
set_option linter.unusedSimpArgs false

theorem lit1 {w : World} {g : Nat} {s : ByteArray} (hb : Blk w g 9 #[.string s]) : TxAt w (.slice (some ⟨g, 0, none⟩) 1 1) [s] := by
  refine ⟨by show 1 ≤ _; decide, some ⟨g, 0, none⟩, 1, rfl, fun _ => ⟨g, 0, rfl, fun i hi => ?_⟩⟩
  have hi0 : i = 0 := Nat.lt_one_iff.1 hi
  subst hi0
  exact hb.cell 0
theorem lit2 {w : World} {g : Nat} {s t : ByteArray} (hb : Blk w g 9 #[.string s, .string t]) : TxAt w (.slice (some ⟨g, 0, none⟩) 2 2) [s, t] := by
  refine ⟨by show 2 ≤ _; decide, some ⟨g, 0, none⟩, 2, rfl, fun _ => ⟨g, 0, rfl, fun i hi => ?_⟩⟩
  have hi2 : i = 0 ∨ i = 1 := by have : i < 2 := hi; omega
  rcases hi2 with rfl | rfl
  · exact hb.cell 0
  · exact hb.cell 1
theorem cat_at (w : World) (z : ByteArray) (hz : z.size = 1048576) :
    BytesAt (Lib.bytesWorld w 5 ({ data := #[42, 50, 13, 10, 36, 49, 48, 52, 56, 53, 55, 54, 13, 10] } ++ z ++ { data := #[13, 10, 36, 49] })) (some ⟨w.heap.size, 0, none⟩) (grownCap w (14 + z.size + 4) 0 5) ([42, 50, 13, 10, 36, 49, 48, 52, 56, 53, 55, 54, 13, 10] ++ z.data.toList ++ [13, 10, 36, 49]) := by
  have hs : (({ data := #[42, 50, 13, 10, 36, 49, 48, 52, 56, 53, 55, 54, 13, 10] } : ByteArray) ++ z ++ { data := #[13, 10, 36, 49] }).size = 14 + z.size + 4 := by rw [ByteArray.size_append, ByteArray.size_append]; rfl
  obtain ⟨q, c, e, h, _⟩ := bytes_conv w ({ data := #[42, 50, 13, 10, 36, 49, 48, 52, 56, 53, 55, 54, 13, 10] } ++ z ++ { data := #[13, 10, 36, 49] }) (by rw [hs]; omega)
  rw [hs] at e
  injection e with e1 e2 e3
  rw [← e1, ← e3] at h
  have hd : (({ data := #[42, 50, 13, 10, 36, 49, 48, 52, 56, 53, 55, 54, 13, 10] } : ByteArray) ++ z ++ { data := #[13, 10, 36, 49] }).data.toList = [42, 50, 13, 10, 36, 49, 48, 52, 56, 53, 55, 54, 13, 10] ++ z.data.toList ++ [13, 10, 36, 49] := by simp
  rw [hd] at h
  exact h
theorem cat_len (z : ByteArray) : ([42, 50, 13, 10, 36, 49, 48, 52, 56, 53, 55, 54, 13, 10] ++ z.data.toList ++ [13, 10, 36, 49] : List UInt8).length = 14 + z.size + 4 := by
  rw [List.length_append, List.length_append]
  rfl
theorem lists_len : ∀ n, (listsB n).length = 4 * n
  | 0 => rfl
  | n + 1 => by simp only [listsB, List.length_cons, lists_len n]; omega
theorem lists_snoc : ∀ n, listsB n ++ [42, 49, 13, 10] = listsB (n + 1)
  | 0 => rfl
  | n + 1 => by
    have h := lists_snoc n
    show 42 :: 49 :: 13 :: 10 :: (listsB n ++ [42, 49, 13, 10]) = _
    rw [h]
    rfl
theorem lists_app (s : ByteArray) (n : Nat) (h : s.data.toList = listsB n) : (s ++ ⟨#[42, 49, 13, 10]⟩).data.toList = listsB (n + 1) := by
  rw [← lists_snoc, ← h]
  simp
theorem str_len (s : ByteArray) (l : List UInt8) (n : Nat) (hn : l.length = n) (h : s.data.toList = listsB 100) : (listsB 100 ++ l).length = s.size + n := by
  rw [← h, List.length_append, hn]
  rfl
theorem str_at (w : World) (s : ByteArray) (l : List UInt8) (n : Nat) (hn : l.length = n) (h : s.data.toList = listsB 100) (hn2 : n ≤ 100 := by decide) :
    BytesAt (Lib.bytesWorld w 5 (s ++ ⟨l.toArray⟩)) (some ⟨w.heap.size, 0, none⟩) (grownCap w (s.size + n) 0 5) (listsB 100 ++ l) := by
  have hz : s.size = 400 := by show s.data.toList.length = _; rw [h, lists_len]
  have hs : (s ++ (⟨l.toArray⟩ : ByteArray)).size = s.size + n := by
    rw [ByteArray.size_append]
    show s.size + l.toArray.size = _
    rw [List.size_toArray, hn]
  obtain ⟨q, c, e, hb, _⟩ := bytes_conv w (s ++ ⟨l.toArray⟩) (by rw [hs]; omega)
  rw [hs] at e
  injection e with e1 e2 e3
  rw [← e1, ← e3] at hb
  have hd : (s ++ (⟨l.toArray⟩ : ByteArray)).data.toList = listsB 100 ++ l := by rw [← h]; simp
  rw [hd] at hb
  exact hb
set_option maxRecDepth 100000 in
set_option maxHeartbeats 8000000 in
theorem law_bounds (w : World) (hpw : Pow w) :
    Calls Tryd.prog 9 #[] w fun e w' => e = .returned (.bool true) ∧ Ext w w' := by
  have HP := Lib.hid hpw
  obtain ⟨cs, mk, hcs⟩ := mk_texts w
  have HT : Hid (Blk (w.alloc (.cells cs 9)) w.heap.size 9 cs) := Lib.hid (Blk.new w _ _)
  have HE := Lib.hid ((Ext.refl w).alloc (.cells cs 9))
  have HCS := Lib.hid hcs
  obtain ⟨B, hB⟩ : ∃ B, w.heap.size = B := ⟨_, rfl⟩
  rw [hB] at HT mk
  have HB := Lib.hid hB
  clear hcs hpw hB
  go_enter Tryd.func9, Tryd.ntmps9
  go_wp2_with fail
  clear mk
  generalize w.alloc (.cells cs 9) = w0 at HT HE ⊢
  obtain ⟨NA, hNA⟩ : ∃ NA, (reqB (List.replicate 65536 (⟨#[]⟩ : ByteArray))).length = NA := ⟨_, rfl⟩
  have HNA := Lib.hid hNA
  refine (req_yes2 w0 _ _ (txs_made HT.out HCS.out (k := 65536) (by decide)) (HP.out.ext HE.out) empty_ok).mono ?_
  rintro e w1 ⟨qa, ca, rfl, e1, ba⟩
  rw [hNA]
  clear hNA
  have HE1 := Lib.hid (HE.out.trans e1)
  have HT1 := Lib.hid (HT.out.ext e1)
  have HA := Lib.hid ba
  clear HT HE e1 ba
  go_wp2_with fail
  refine (req_not2 w1 _ _ (txs_made HT1.out HCS.out (k := 65537) (by decide)) (HP.out.ext HE1.out) empty_no).mono ?_
  rintro e w2 ⟨rfl, e2⟩
  have HE2 := Lib.hid (HE1.out.trans e2)
  have HA2 := Lib.hid (HA.out.ext e2)
  clear HT1 HE1 HA e2
  go_wp2_with fail
  have pe := parse_empty
  have hPA := prs_yes2 w2 qa ca _ HA2.out _ _ pe
  rw [HNA.out, List.length_replicate] at hPA
  refine hPA.mono ?_
  clear hPA pe
  rintro e w3 ⟨qm, cm, rfl, e3⟩
  have HE3 := Lib.hid (HE2.out.trans e3)
  clear HE2 HA2 e3
  obtain ⟨cb, mkb, hcb⟩ := mk_bytes w3
  have HBB := Lib.hid (Blk.new w3 5 cb)
  have HE4 := Lib.hid (HE3.out.alloc (.cells cb 5))
  obtain ⟨s, hs, kcs⟩ := mk_long HBB.out hcb
  have kc := kcs _ (Ext.refl _)
  obtain ⟨G, hG⟩ : ∃ G, w3.heap.size = G := ⟨_, rfl⟩
  rw [hG] at mkb kc
  have HCB := Lib.hid hcb
  have HCS := Lib.hid hs
  have h8 : (1048576 : Int) ≤ (s.size : Int) := by rw [hs]; decide
  obtain ⟨z, hz, hzs⟩ : ∃ z, s.extract 0 1048576 = z ∧ z.size = 1048576 := ⟨_, rfl, by rw [ByteArray.size_extract, hs]; rfl⟩
  have HZ := Lib.hid hzs
  clear hcb hs kcs hG hzs
  go_wp2_with fail
  clear mkb kc
  have HL := Lib.hid (new_at (W := w3.alloc (.cells cb 5)) (k := w3.heap.size + 1) (by rw [size_alloc]) 9 #[.string z])
  have HE5 := Lib.hid (HE4.out.alloc (.cells #[.string z] 9))
  generalize (w3.alloc (.cells cb 5)).alloc (.cells #[.string z] 9) = w5 at HL HE5 ⊢
  clear HBB HE4 HCB HE3
  refine (req_yes2 w5 _ _ (lit1 HL.out) (HP.out.ext HE5.out) (text1_ok z HZ.out)).mono ?_
  rintro e w6 ⟨qb, cb', rfl, e6, bb⟩
  have HE6 := Lib.hid (HE5.out.trans e6)
  have HBz := Lib.hid bb
  obtain ⟨NB, hNB⟩ : ∃ NB, (reqB [z]).length = NB := ⟨_, rfl⟩
  rw [hNB]
  have HNB := Lib.hid hNB
  clear HL HE5 e6 bb hNB
  go_wp2_with fail
  have HL := Lib.hid (new_at (W := w6) (k := w6.heap.size) rfl 9 #[.string ⟨#[97]⟩, .string z])
  have HE7 := Lib.hid (HE6.out.alloc (.cells #[.string ⟨#[97]⟩, .string z] 9))
  have HB7 := Lib.hid (HBz.out.ext ((Ext.refl _).alloc (.cells #[.string ⟨#[97]⟩, .string z] 9)))
  generalize w6.alloc (.cells #[.string ⟨#[97]⟩, .string z] 9) = w7 at HL HE7 HB7 ⊢
  refine (req_not2 w7 _ _ (lit2 HL.out) (HP.out.ext HE7.out) (two_no z ⟨#[97]⟩ (by decide) HZ.out)).mono ?_
  rintro e w8 ⟨rfl, e8⟩
  have HE8 := Lib.hid (HE7.out.trans e8)
  have HB8 := Lib.hid (HB7.out.ext e8)
  clear HL HE6 HE7 HBz HB7 e8
  go_wp2_with fail
  have hPB := prs_yes2 w8 qb cb' _ HB8.out _ _ (parse_one z HZ.out)
  rw [HNB.out] at hPB
  refine hPB.mono ?_
  clear hPB
  rintro e w9 ⟨qn, cn, rfl, e9⟩
  have HE9 := Lib.hid (HE8.out.trans e9)
  have HLE := Lib.hid HE9.out.le
  clear HE8 HB8 e9
  obtain ⟨cr, mkr, hcr⟩ := mk_reps w9
  have HRR := Lib.hid (Blk.new w9 41 cr)
  have HE10 := Lib.hid (HE9.out.alloc (.cells cr 41))
  have HCR := Lib.hid hcr
  clear hcr
  go_wp2_with fail
  have HM10 := Lib.hid (new_at (W := w9.alloc (.cells cr 41)) (k := w9.heap.size + 1) (by rw [size_alloc]) 41 #[.int .i64 5, .int .i64 0, .string ⟨#[]⟩, .slice (some ⟨w9.heap.size, 0, none⟩) 65537 65537])
  have HR10 := Lib.hid (HRR.out.alloc (.cells #[.int .i64 5, .int .i64 0, .string ⟨#[]⟩, .slice (some ⟨w9.heap.size, 0, none⟩) 65537 65537] 41))
  have HE11 := Lib.hid (HE10.out.alloc (.cells #[.int .i64 5, .int .i64 0, .string ⟨#[]⟩, .slice (some ⟨w9.heap.size, 0, none⟩) 65537 65537] 41))
  generalize (w9.alloc (.cells cr 41)).alloc (.cells #[.int .i64 5, .int .i64 0, .string ⟨#[]⟩, .slice (some ⟨w9.heap.size, 0, none⟩) 65537 65537] 41) = w11 at HM10 HR10 HE11 ⊢
  have HR11 := HR10
  have HM11 := HM10
  clear HRR HE10 HM10 HR10 mkr HE9
  refine (nested_any w11 99 (by decide)).mono ?_
  rintro e w12 ⟨q11, m11, c11, rfl, e11, l11⟩
  have HE12 := Lib.hid (HE11.out.trans e11)
  have HM12 := Lib.hid (HM11.out.ext e11)
  have HR12 := Lib.hid (HR11.out.ext e11)
  obtain ⟨q9, c9, e9⟩ := l11.slice
  injection e9 with e91 e92 e93
  have hC := chk_yes2 w12 (nestR 99) q11 m11 c11 99 e92.symm (l11.keep (fun _ _ _ _ h => h) (fun b hb _ => hb)) (nest_64 _) (HP.out.ext HE12.out) _ nest_ok
  rw [(nest_k 99).1, (nest_k 99).2.1, (nest_k 99).2.2] at hC
  have HC := Lib.hid hC
  clear hC l11 e11 HE11 HM11 HR11 e91 e92 e93
  go_wp2_with fail
  refine HC.out.mono ?_
  rintro e w13 ⟨rfl, e11⟩
  have HE13 := Lib.hid (HE12.out.trans e11)
  have HM13 := Lib.hid (HM12.out.ext e11)
  have HR13 := Lib.hid (HR12.out.ext e11)
  clear HC e11 HE12 HM12 HR12
  go_wp2_with fail
  refine (nested_any w13 100 (by decide)).mono ?_
  rintro e w14 ⟨q13, m13, c13, rfl, e13, l13⟩
  have HE14 := Lib.hid (HE13.out.trans e13)
  have HM14 := Lib.hid (HM13.out.ext e13)
  have HR14 := Lib.hid (HR13.out.ext e13)
  obtain ⟨q9, c9, e9⟩ := l13.slice
  injection e9 with e91 e92 e93
  have hC := chk_yes2 w14 (nestR 100) q13 m13 c13 100 e92.symm (l13.keep (fun _ _ _ _ h => h) (fun b hb _ => hb)) (nest_64 _) (HP.out.ext HE14.out) _ nest_no
  rw [(nest_k 100).1, (nest_k 100).2.1, (nest_k 100).2.2] at hC
  have HC := Lib.hid hC
  clear hC l13 e13 HE13 HM13 HR13 e91 e92 e93
  go_wp2_with fail
  refine HC.out.mono ?_
  rintro e w15 ⟨rfl, e13⟩
  have HE15 := Lib.hid (HE14.out.trans e13)
  have HM15 := Lib.hid (HM14.out.ext e13)
  have HR15 := Lib.hid (HR14.out.ext e13)
  clear HC e13 HE14 HM14 HR14
  have b0 := HM15.out.cell 0
  have b1 := HM15.out.cell 1
  have b2 := HM15.out.cell 2
  have b3 := HM15.out.cell 3
  have z0 := HM15.out.frozen 0
  have z1 := HM15.out.frozen 1
  have z2 := HM15.out.frozen 2
  have z3 := HM15.out.frozen 3
  simp only [List.getElem?_toArray, List.getElem?_cons_zero, List.getElem?_cons_succ] at b0 b1 b2 b3
  have hC := chk_yes2 w15 (manyR 65537) (some ⟨w9.heap.size, 0, none⟩) 65537 65537 1 List.length_replicate (reps_made HR15.out HR15.out.lt HCR.out (by decide)) (many_64 _) (HP.out.ext HE15.out) _ many_no
  have HC := Lib.hid hC
  clear hC
  go_wp2_with fail
  refine HC.out.mono ?_
  rintro e w16 ⟨rfl, e16⟩
  have HE16 := Lib.hid (HE15.out.trans e16)
  have HM16 := Lib.hid (HM15.out.ext e16)
  have HR16 := Lib.hid (HR15.out.ext e16)
  clear HC e16 HE15 HM15 HR15 b0 b1 b2 b3 z0 z1 z2 z3
  have b0 := HM16.out.cell 0
  have b1 := HM16.out.cell 1
  have b2 := HM16.out.cell 2
  have b3 := HM16.out.cell 3
  have z0 := HM16.out.frozen 0
  have z1 := HM16.out.frozen 1
  have z2 := HM16.out.frozen 2
  have z3 := HM16.out.frozen 3
  simp only [List.getElem?_toArray, List.getElem?_cons_zero, List.getElem?_cons_succ] at b0 b1 b2 b3
  go_wp2_with fail
  clear b0 b1 b2 b3 z0 z1 z2 z3
  have HE17 := Lib.hid (HE16.out.setCell (p := ⟨w9.heap.size + 1, 3, none⟩) (by have := HLE.out; show w.heap.size ≤ w9.heap.size + 1; omega) (.slice (some ⟨w9.heap.size, 0, none⟩) 65536 65537))
  have HR17 := Lib.hid (HR16.out.far (p := ⟨w9.heap.size + 1, 3, none⟩) (by show w9.heap.size ≠ w9.heap.size + 1; omega) (.slice (some ⟨w9.heap.size, 0, none⟩) 65536 65537))
  generalize w16.setCell ⟨w9.heap.size + 1, 3, none⟩ (.slice (some ⟨w9.heap.size, 0, none⟩) 65536 65537) = w17 at HE17 HR17 ⊢
  clear HM16 HE16 HR16
  have hE := enc_yes2 w17 (manyR 65536) (some ⟨w9.heap.size, 0, none⟩) 65536 65537 1 List.length_replicate (reps_made HR17.out HR17.out.lt HCR.out (by decide)) (many_64 _) (HP.out.ext HE17.out) many_ok
  obtain ⟨NC, hNC⟩ : ∃ NC, (encR (manyR 65536)).length = NC := ⟨_, rfl⟩
  rw [hNC] at hE
  have HNC := Lib.hid hNC
  refine hE.mono ?_
  clear hE hNC
  rintro e w18 ⟨qc, cc, rfl, e18, bc⟩
  have HE18 := Lib.hid (HE17.out.trans e18)
  have HB18 := Lib.hid bc
  clear HE17 HR17 e18 bc
  go_wp2_with fail
  obtain ⟨⟨y1, y2⟩, hy, rfl, hyp⟩ := decode_many
  have hD := dec_yes2 w18 qc cc _ HB18.out _ _ hy
  have hlen : (manyR 65536).l.length = 65536 := List.length_replicate
  rw [HNC.out, hyp, HNC.out, hlen] at hD
  refine hD.mono ?_
  clear hD hy hyp
  rintro e w19 ⟨qx, cx, rfl, e19⟩
  have HE19 := Lib.hid (HE18.out.trans e19)
  clear HE18 HB18 e19
  go_wp2_with fail
  have HX20 := Lib.hid (new_at (W := w19) (k := w19.heap.size) rfl 41 #[.int .i64 (manyR 65536).k, .int .i64 (manyR 65536).n, .string (manyR 65536).s, .slice qx 65536 cx])
  have HE20 := Lib.hid (HE19.out.alloc (.cells #[.int .i64 (manyR 65536).k, .int .i64 (manyR 65536).n, .string (manyR 65536).s, .slice qx 65536 cx] 41))
  generalize w19.alloc (.cells #[.int .i64 (manyR 65536).k, .int .i64 (manyR 65536).n, .string (manyR 65536).s, .slice qx 65536 cx] 41) = w20 at HX20 HE20 ⊢
  obtain ⟨X, hX⟩ : ∃ X, w19.heap.size = X := ⟨_, rfl⟩
  rw [hX] at HX20 ⊢
  clear HE19 hX hlen
  refine (chk_yes2 w20 (.mk 4 0 s []) none 0 0 0 rfl ⟨rfl, none, 0, rfl⟩ ⟨⟨by decide, by decide⟩, trivial⟩ (HP.out.ext HE20.out) _ (long_no s HCS.out)).mono ?_
  rintro e w21 ⟨rfl, e21⟩
  have HE21 := Lib.hid (HE20.out.trans e21)
  have HX21 := Lib.hid (HX20.out.ext e21)
  clear HE20 HX20 e21
  go_wp2_with fail
  refine (next_nil w21).mono ?_
  rintro e w22 ⟨v22, rfl, e22⟩
  have HE22 := Lib.hid (HE21.out.trans e22)
  have HX22 := Lib.hid (HX21.out.ext e22)
  clear HE21 HX21 e22
  have kb := fun (W : World) (C : Array Value) (n c : Nat) => Lib.run_convert_bytes_const (P := Tryd.prog) W 25 5 C n c Tryd.underlying25 Tryd.underlying5
  go_wp2_with fail
  have HB23 := Lib.hid (const_at w22 [42, 54, 53, 53, 51, 55, 13, 10] #[.int .u8 42, .int .u8 54, .int .u8 53, .int .u8 53, .int .u8 51, .int .u8 55, .int .u8 13, .int .u8 10] (8, 9) (by decide) (fun k hk => by
    have hk2 : k < 8 := hk
    (repeat' (first | (exfalso; omega; done) | (cases k with | zero => rfl | succ k => ?_)))))
  have HE23 := Lib.hid (HE22.out.alloc (.cells #[.int .u8 42, .int .u8 54, .int .u8 53, .int .u8 53, .int .u8 51, .int .u8 55, .int .u8 13, .int .u8 10] 5 (8, 9)))
  have HX23 := Lib.hid (HX22.out.alloc (.cells #[.int .u8 42, .int .u8 54, .int .u8 53, .int .u8 53, .int .u8 51, .int .u8 55, .int .u8 13, .int .u8 10] 5 (8, 9)))
  generalize w22.alloc (.cells #[.int .u8 42, .int .u8 54, .int .u8 53, .int .u8 53, .int .u8 51, .int .u8 55, .int .u8 13, .int .u8 10] 5 (8, 9)) = w23 at HB23 HE23 HX23 ⊢
  refine (prs_not2 w23 _ _ _ HB23.out 131 parse_65537).mono ?_
  rintro e w24 ⟨v22, rfl, e22⟩
  have HE24 := Lib.hid (HE23.out.trans e22)
  have HX24 := Lib.hid (HX23.out.ext e22)
  clear HE22 HX22 HE23 HX23 HB23 e22
  go_wp2_with fail
  have HB25 := Lib.hid (const_at w24 [42, 49, 13, 10, 36, 49, 48, 52, 56, 53, 55, 55] #[.int .u8 42, .int .u8 49, .int .u8 13, .int .u8 10, .int .u8 36, .int .u8 49, .int .u8 48, .int .u8 52, .int .u8 56, .int .u8 53, .int .u8 55, .int .u8 55] (12, 13) (by decide) (fun k hk => by
    have hk2 : k < 12 := hk
    (repeat' (first | (exfalso; omega; done) | (cases k with | zero => rfl | succ k => ?_)))))
  have HE25 := Lib.hid (HE24.out.alloc (.cells #[.int .u8 42, .int .u8 49, .int .u8 13, .int .u8 10, .int .u8 36, .int .u8 49, .int .u8 48, .int .u8 52, .int .u8 56, .int .u8 53, .int .u8 55, .int .u8 55] 5 (12, 13)))
  have HX25 := Lib.hid (HX24.out.alloc (.cells #[.int .u8 42, .int .u8 49, .int .u8 13, .int .u8 10, .int .u8 36, .int .u8 49, .int .u8 48, .int .u8 52, .int .u8 56, .int .u8 53, .int .u8 55, .int .u8 55] 5 (12, 13)))
  generalize w24.alloc (.cells #[.int .u8 42, .int .u8 49, .int .u8 13, .int .u8 10, .int .u8 36, .int .u8 49, .int .u8 48, .int .u8 52, .int .u8 56, .int .u8 53, .int .u8 55, .int .u8 55] 5 (12, 13)) = w25 at HB25 HE25 HX25 ⊢
  refine (prs_not2 w25 _ _ _ HB25.out 131 parse_long).mono ?_
  rintro e w26 ⟨v24, rfl, e24⟩
  have HE26 := Lib.hid (HE25.out.trans e24)
  have HX26 := Lib.hid (HX25.out.ext e24)
  clear HE24 HX24 HE25 HX25 HB25 e24
  have s1 : ¬ 9223372036854775807 < 14 + z.size := by rw [HZ.out]; decide
  have s2 : ¬ 9223372036854775807 < 14 + z.size + 4 := by rw [HZ.out]; decide
  have kc := fun (W : World) (s : ByteArray) => Lib.run_convert_string_bytes (P := Tryd.prog) W 9 25 5 s Tryd.underlying9 Tryd.underlying25 Tryd.underlying5
  go_wp2_with fail
  have HB27 := Lib.hid (cat_at w26 z HZ.out)
  have HE27 := Lib.hid (HE26.out.trans (bytes_ext w26 5 ({ data := #[42, 50, 13, 10, 36, 49, 48, 52, 56, 53, 55, 54, 13, 10] } ++ z ++ { data := #[13, 10, 36, 49] })))
  have HX27 := Lib.hid (HX26.out.ext (bytes_ext w26 5 ({ data := #[42, 50, 13, 10, 36, 49, 48, 52, 56, 53, 55, 54, 13, 10] } ++ z ++ { data := #[13, 10, 36, 49] })))
  generalize Lib.bytesWorld w26 5 ({ data := #[42, 50, 13, 10, 36, 49, 48, 52, 56, 53, 55, 54, 13, 10] } ++ z ++ { data := #[13, 10, 36, 49] }) = w27 at HB27 HE27 HX27 ⊢
  have hP := prs_not2 w27 _ _ _ HB27.out 131 (parse_two z HZ.out)
  rw [cat_len z] at hP
  refine hP.mono ?_
  clear hP
  rintro e w28 ⟨v26, rfl, e26⟩
  have HE28 := Lib.hid (HE27.out.trans e26)
  have HX28 := Lib.hid (HX27.out.ext e26)
  clear HE26 HX26 HE27 HX27 HB27 e26 s1 s2
  go_wp2_with fail
  have HL0 : Hid ((⟨#[]⟩ : ByteArray).data.toList = listsB 0) := Lib.hid rfl
  go_loopw [39, 40] (fun v39 v40 wr => ∃ (k : Nat) (sk : ByteArray), v40 = .int .i64 (k : Int) ∧ v39 = .string sk ∧ k ≤ 100 ∧ wr = w28 ∧ Hid (sk.data.toList = listsB k)) (fun _ v40 _ => 100 - (intOf v40).toNat)
  case atStart => exact ⟨0, ⟨#[]⟩, rfl, rfl, by omega, rfl, HL0⟩
  case round =>
    obtain ⟨k, sk, rfl, rfl, hk, rfl, HK⟩ := hrel
    clear HL0
    have hsz : sk.size = 4 * k := by show sk.data.toList.length = _; rw [HK.out, lists_len]
    have s3 : ¬ 9223372036854775807 < sk.size + 4 := by omega
    have s4 : ¬ 9223372036854775807 < sk.size + 2 := by omega
    clear hsz
    by_cases hk1 : k < 100
    · have d1 : decide ((k : Int) < 100) = true := decide_eq_true (by omega)
      have d1n : decide (k < 100) = true := decide_eq_true hk1
      go_wp2_with fail
      go_roundw
      case rel => exact ⟨k + 1, _, by simp, rfl, by omega, by first | rfl | trivial, Lib.hid (lists_app sk k HK.out)⟩
      case measure => simp [intOf]; omega
    · have d1 : decide ((k : Int) < 100) = false := decide_eq_false (by omega)
      have d1n : decide (k < 100) = false := decide_eq_false hk1
      have hk2 : k = 100 := by omega
      subst hk2
      clear d1 d1n hk hk1
      go_wp2_with fail
      have HB29 := Lib.hid (str_at wr sk [42, 48] 2 rfl HK.out)
      have HE29 := Lib.hid (HE28.out.trans (bytes_ext wr 5 (sk ++ ⟨#[42, 48]⟩)))
      have HX29 := Lib.hid (HX28.out.ext (bytes_ext wr 5 (sk ++ ⟨#[42, 48]⟩)))
      generalize Lib.bytesWorld wr 5 (sk ++ ⟨#[42, 48]⟩) = w29 at HB29 HE29 HX29 ⊢
      have hP := dec_not2 w29 _ _ _ HB29.out 131 deep_no
      rw [str_len sk [42, 48] 2 rfl HK.out] at hP
      refine hP.mono ?_
      clear hP
      rintro e w30 ⟨x30, q30, m30, c30, rfl, e30⟩
      have HE30 := Lib.hid (HE29.out.trans e30)
      have HX30 := Lib.hid (HX29.out.ext e30)
      clear HE28 HX28 HE29 HX29 HB29 e30 s4
      go_wp2_with fail
      have HX31 := Lib.hid (HX30.out.alloc (.cells #[.int .i64 x30.k, .int .i64 x30.n, .string x30.s, .slice q30 m30 c30] 41))
      have HE31 := Lib.hid (HE30.out.alloc (.cells #[.int .i64 x30.k, .int .i64 x30.n, .string x30.s, .slice q30 m30 c30] 41))
      have h31 : (w30.alloc (.cells #[.int .i64 x30.k, .int .i64 x30.n, .string x30.s, .slice q30 m30 c30] 41)).heap.size = w30.heap.size + 1 := size_alloc ..
      generalize w30.alloc (.cells #[.int .i64 x30.k, .int .i64 x30.n, .string x30.s, .slice q30 m30 c30] 41) = w31 at HX31 HE31 h31 ⊢
      have HB32 := Lib.hid (str_at w31 sk [58, 49, 13, 10] 4 rfl HK.out)
      rw [h31] at HB32
      have HE32 := Lib.hid (HE31.out.trans (bytes_ext w31 5 (sk ++ ⟨#[58, 49, 13, 10]⟩)))
      have HX32 := Lib.hid (HX31.out.ext (bytes_ext w31 5 (sk ++ ⟨#[58, 49, 13, 10]⟩)))
      generalize Lib.bytesWorld w31 5 (sk ++ ⟨#[58, 49, 13, 10]⟩) = w32 at HB32 HE32 HX32 ⊢
      obtain ⟨⟨x33, y33⟩, hy⟩ := deep_yes
      have hP := dec_yes2 w32 _ _ _ HB32.out _ _ hy
      rw [str_len sk [58, 49, 13, 10] 4 rfl HK.out] at hP
      refine hP.mono ?_
      clear hP hy h31
      rintro e w33 ⟨q33, c33, rfl, e33⟩
      have HE33 := Lib.hid (HE32.out.trans e33)
      have HX33 := Lib.hid (HX32.out.ext e33)
      clear HE30 HX30 HE31 HX31 HE32 HX32 HB32 e33 s3
      have hXlt := HX33.out.lt
      have hXn : ¬ X = w33.heap.size := by omega
      have hXm : ¬ w33.heap.size = X := by omega
      have b0 := HX33.out.cell 0
      have b1 := HX33.out.cell 1
      have b2 := HX33.out.cell 2
      have b3 := HX33.out.cell 3
      have z0 := HX33.out.frozen 0
      have z1 := HX33.out.frozen 1
      have z2 := HX33.out.frozen 2
      have z3 := HX33.out.frozen 3
      simp only [List.getElem?_toArray, List.getElem?_cons_zero, List.getElem?_cons_succ] at b0 b1 b2 b3
      go_wp2_with (go_at_call 16; refine (num_any _ _).mono ?_; rintro e w' ⟨rfl, rfl⟩)
      have HE34 := Lib.hid (HE33.out.alloc (.cells #[.int .i64 x33.k, .int .i64 x33.n, .string x33.s, .slice q33 x33.l.length c33] 41))
      generalize w33.alloc (.cells #[.int .i64 x33.k, .int .i64 x33.n, .string x33.s, .slice q33 x33.l.length c33] 41) = w34 at HE34 ⊢
      clear b0 b1 b2 b3 z0 z1 z2 z3 hXn hXm HE33
      refine (feed_nil w34).mono ?_
      rintro e w35 ⟨rfl, e35⟩
      have HE35 := Lib.hid (HE34.out.trans e35)
      clear HE34 e35
      go_wp2_with (go_at_call 16; refine (num_any _ _).mono ?_; rintro e w' ⟨rfl, rfl⟩)
      refine (works_any w35 (HP.out.ext HE35.out)).mono ?_
      rintro e w36 ⟨rfl, e36⟩
      have HE36 := Lib.hid (HE35.out.trans e36)
      clear HE35 e36
      go_wp2_with fail
      go_ret
      exact ⟨rfl, HE36.out⟩
end Go.Proofs.YtopdgmchkoaeeaaDoor
