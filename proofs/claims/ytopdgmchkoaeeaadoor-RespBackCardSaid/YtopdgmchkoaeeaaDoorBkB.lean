/- RespBack: the statement's walk. -/
import Derived.Test.YtopdgmchkoaeeaaDoorBkA
import Derived.Deep.CutRange
import Derived.Deep.RegionHeld3
namespace Go.Proofs.YtopdgmchkoaeeaaDoor
open Go.RowKit
set_option linter.unusedVariables false
set_option linter.unusedSimpArgs false

/-- What the walk knows of its arguments. -/
structure BkIn (w : World) (vl : Value) (ts : List ByteArray) (x y : Rep) (qx qy : Option Addr) (cx cy Dx Dy : Nat) (qn : Option Addr) (cn : Nat) (ln : List UInt8) : Prop where
  hts : TxAt w vl ts
  htz : ∀ s ∈ ts, s.size ≤ 9223372036854770000
  hx : ListAt (fun b => b < w.heap.size) w Dx (.slice qx x.l.length cx) x.l
  hy : ListAt (fun b => b < w.heap.size) w Dy (.slice qy y.l.length cy) y.l
  hx6 : i64R x
  hy6 : i64R y
  hn : BytesAt w qn cn ln
  hp : Pow w
theorem list_inB {w W : World} {D : Nat} {v : Value} {l : List Rep} (h : ListAt (fun b => b < w.heap.size) w D v l) (hW : Ext w W) : ListAt (fun b => b < W.heap.size) W D v l :=
  h.keep (fun _ _ _ _ hc => hW.cell hc) (fun b hb _ => Nat.lt_of_lt_of_le hb hW.le)
/-- The three boxes. -/
structure BkBox (w : World) (B : Nat) (x y : Rep) (qx qy : Option Addr) (cx cy : Nat) (qn : Option Addr) (cn : Nat) (ln : List UInt8) (cut : Int) : Prop where
  bX : Blk w B 41 #[.int .i64 x.k, .int .i64 x.n, .string x.s, .slice qx x.l.length cx]
  bY : Blk w (B + 1) 41 #[.int .i64 y.k, .int .i64 y.n, .string y.s, .slice qy y.l.length cy]
  bN : Blk w (B + 1 + 1) 66 #[.slice qn ln.length cn, .int .i64 cut]
theorem BkBox.ext {w w' : World} {B : Nat} {x y : Rep} {qx qy : Option Addr} {cx cy : Nat} {qn : Option Addr} {cn : Nat} {ln : List UInt8} {cut : Int} (h : BkBox w B x y qx qy cx cy qn cn ln cut) (he : Ext w w') : BkBox w' B x y qx qy cx cy qn cn ln cut := ⟨h.bX.ext he, h.bY.ext he, h.bN.ext he⟩
set_option maxRecDepth 100000 in
set_option maxHeartbeats 20000000 in
theorem law_back (w : World) (vl : Value) (ts : List ByteArray) (x y : Rep) (qx qy : Option Addr) (cx cy Dx Dy : Nat) (qn : Option Addr) (cn : Nat) (ln : List UInt8) (cut : Int) (h : BkIn w vl ts x y qx qy cx cy Dx Dy qn cn ln) :
    Calls Tryd.prog 11 #[vl, repV x qx cx, repV y qy cy, .agg #[.slice qn ln.length cn, .int .i64 cut]] w fun e w' => e = .returned (.bool true) ∧ Ext w w' := by
  obtain ⟨B, hB⟩ : ∃ B, w.heap.size = B := ⟨_, rfl⟩
  have HB := Lib.hid hB
  have HE0 := Lib.hid ((((Ext.refl w).alloc (.cells #[.int .i64 x.k, .int .i64 x.n, .string x.s, .slice qx x.l.length cx] 41)).alloc (.cells #[.int .i64 y.k, .int .i64 y.n, .string y.s, .slice qy y.l.length cy] 41)).alloc (.cells #[.slice qn ln.length cn, .int .i64 cut] 66))
  have HBX0 : Hid (BkBox (((w.alloc (.cells #[.int .i64 x.k, .int .i64 x.n, .string x.s, .slice qx x.l.length cx] 41)).alloc (.cells #[.int .i64 y.k, .int .i64 y.n, .string y.s, .slice qy y.l.length cy] 41)).alloc (.cells #[.slice qn ln.length cn, .int .i64 cut] 66)) w.heap.size x y qx qy cx cy qn cn ln cut) := Lib.hid ⟨((Blk.new w _ _).alloc _).alloc _, (new_at (by rw [size_alloc]) _ _ : Blk ((w.alloc (.cells #[.int .i64 x.k, .int .i64 x.n, .string x.s, .slice qx x.l.length cx] 41)).alloc (.cells #[.int .i64 y.k, .int .i64 y.n, .string y.s, .slice qy y.l.length cy] 41)) (w.heap.size + 1) 41 _).alloc _, new_at (by rw [size_alloc, size_alloc]) _ _⟩
  have cT : ∀ W, Ext w W → Calls Tryd.prog 12 #[vl] W fun e w' => e = .returned (.bool (fewB ts)) ∧ W = w' := fun W hW => few_any W vl ts (h.hts.ext hW) h.htz
  have cX : ∀ W, Ext w W → Calls Tryd.prog 28 #[cellsV x.k x.n x.s (.slice qx x.l.length cx), .int .i64 0] W fun e w' => e = .returned (.int .i64 (szR x 0 : Int)) ∧ Ext W w' := fun W hW => size_any Dx _ W x _ 0 (h.hx.ext hW) (by omega)
  have cY : ∀ W, Ext w W → Calls Tryd.prog 28 #[cellsV y.k y.n y.s (.slice qy y.l.length cy), .int .i64 0] W fun e w' => e = .returned (.int .i64 (szR y 0 : Int)) ∧ Ext W w' := fun W hW => size_any Dy _ W y _ 0 (h.hy.ext hW) (by omega)
  have CT := Lib.hid cT
  have CX := Lib.hid cX
  have CY := Lib.hid cY
  have HF : Hid (fewB ts = true → bulk ts ≤ 3000) := Lib.hid (fun h => of_decide_eq_true h)
  have HXF : Hid (szR x 0 ≤ 3000 → itR x ≤ 1000 ∧ txR x ≤ 3000) := Lib.hid (fun h => by have := szR_few x 0 (by omega) h; omega)
  have HYF : Hid (szR y 0 ≤ 3000 → itR y ≤ 1000 ∧ txR y ≤ 3000) := Lib.hid (fun h => by have := szR_few y 0 (by omega) h; omega)
  have HIN := Lib.hid h
  have HW := Lib.hid (fun W (hW : Ext w W) => works_any W (h.hp.ext hW))
  have HTV : Hid (∃ q c, vl = .slice q ts.length c) := Lib.hid (by obtain ⟨_, q, c, e, _⟩ := h.hts; exact ⟨q, c, e⟩)
  clear h cT cX cY hB
  generalize szR x 0 = SX at CX HXF
  generalize szR y 0 = SY at CY HYF
  generalize hfb : fewB ts = fb at CT HF
  clear hfb
  go_enter Tryd.func11, Tryd.ntmps11
  go_wp2_with fail
  generalize ((w.alloc (.cells #[.int .i64 x.k, .int .i64 x.n, .string x.s, .slice qx x.l.length cx] 41)).alloc (.cells #[.int .i64 y.k, .int .i64 y.n, .string y.s, .slice qy y.l.length cy] 41)).alloc (.cells #[.slice qn ln.length cn, .int .i64 cut] 66) = w0 at HE0 HBX0 ⊢
  have hB := HB.out
  rw [hB] at HBX0 ⊢
  clear hB
  refine (CT.out w0 HE0.out).mono ?_
  rintro e w' ⟨rfl, rfl⟩
  clear CT
  have x0 := HBX0.out.bX.cell 0
  have x1 := HBX0.out.bX.cell 1
  have x2 := HBX0.out.bX.cell 2
  have x3 := HBX0.out.bX.cell 3
  have y0 := HBX0.out.bY.cell 0
  have y1 := HBX0.out.bY.cell 1
  have y2 := HBX0.out.bY.cell 2
  have y3 := HBX0.out.bY.cell 3
  have n0 := HBX0.out.bN.cell 0
  have n1 := HBX0.out.bN.cell 1
  simp only [List.getElem?_toArray, List.getElem?_cons_zero, List.getElem?_cons_succ] at x0 x1 x2 x3 y0 y1 y2 y3 n0 n1
  cases fb with
  | false =>
    clear x0 x1 x2 x3 y0 y1 y2 y3 n0 n1
    go_wp2_with fail
    refine (HW.out _ HE0.out).mono ?_
    rintro e w9 ⟨rfl, e9⟩
    have HE9 := Lib.hid (HE0.out.trans e9)
    clear e9
    go_wp2_with fail
    go_ret
    exact ⟨rfl, HE9.out⟩
  | true =>
    have HBK := Lib.hid (HF.out rfl)
    clear HF
    go_wp2_with fail
    refine (CX.out w0 HE0.out).mono ?_
    rintro e w1 ⟨rfl, e1⟩
    have HE1 := Lib.hid (HE0.out.trans e1)
    have HBX1 := Lib.hid (HBX0.out.ext e1)
    clear HE0 HBX0 CX e1 x0 x1 x2 x3 y0 y1 y2 y3 n0 n1
    have y0 := HBX1.out.bY.cell 0
    have y1 := HBX1.out.bY.cell 1
    have y2 := HBX1.out.bY.cell 2
    have y3 := HBX1.out.bY.cell 3
    have n0 := HBX1.out.bN.cell 0
    have n1 := HBX1.out.bN.cell 1
    simp only [List.getElem?_toArray, List.getElem?_cons_zero, List.getElem?_cons_succ] at y0 y1 y2 y3 n0 n1
    by_cases hX : SX ≤ 3000
    · have hxf := HXF.out hX
      have HX3 := Lib.hid hxf
      have d1 : decide ((3000 : Int) < (SX : Int)) = false := decide_eq_false (by omega)
      have d1n : decide (3000 < SX) = false := decide_eq_false (by omega)
      clear HXF hX hxf
      go_wp2_with fail
      refine (CY.out w1 HE1.out).mono ?_
      rintro e w2 ⟨rfl, e2⟩
      have HE2 := Lib.hid (HE1.out.trans e2)
      have HBX2 := Lib.hid (HBX1.out.ext e2)
      clear HE1 HBX1 CY e2 d1 d1n y0 y1 y2 y3 n0 n1
      have n0 := HBX2.out.bN.cell 0
      have n1 := HBX2.out.bN.cell 1
      simp only [List.getElem?_toArray, List.getElem?_cons_zero, List.getElem?_cons_succ] at n0 n1
      by_cases hY : SY ≤ 3000
      · have hyf := HYF.out hY
        have HY3 := Lib.hid hyf
        have d1 : decide ((3000 : Int) < (SY : Int)) = false := decide_eq_false (by omega)
        have d1n : decide (3000 < SY) = false := decide_eq_false (by omega)
        clear HYF hY hyf
        by_cases hN : ln.length ≤ 3000
        · have HN3 := Lib.hid hN
          have d2 : decide ((3000 : Int) < (ln.length : Int)) = false := decide_eq_false (by omega)
          have d2n : decide (3000 < ln.length) = false := decide_eq_false (by omega)
          clear hN
          have cR := Lib.hid (req_form w2 vl ts (HIN.out.hts.ext HE2.out) (HIN.out.hp.ext HE2.out))
          go_wp2_with fail
          refine cR.out.mono ?_
          rintro e w3 ⟨q9, n9, c9, x10, rfl, e3, hp⟩
          have HE3 := Lib.hid (HE2.out.trans e3)
          have HBX3 := Lib.hid (HBX2.out.ext e3)
          have HP3 := Lib.hid hp
          clear HE2 HBX2 cR e3 hp d1 d1n d2 d2n n0 n1
          go_upto_if 53 with (go_at_call 16; refine (num_any _ _).mono ?_; rintro e w' ⟨rfl, rfl⟩)
          go_cut [] (fun wx => Hid (Ext w3 wx))
          case first =>
            as_aux_lemma =>
              rcases HP3.out with ⟨hok, rfl, hn9, hb9⟩ | rfl
              · have HOK := Lib.hid hok
                have HB9 := Lib.hid hb9
                have HN9 := Lib.hid hn9
                clear HP3 hok hb9 hn9
                go_upto_region 5 with (go_at_call 16; refine (num_any _ _).mono ?_; rintro e w' ⟨rfl, rfl⟩)
                have E3 : Ext w3 (w3.alloc (.cells #[] 5)).drew := ((Ext.refl w3).alloc _).drew
                have O3 := own_ext (empty_own w3) (Ext.refl (w3.alloc (.cells #[] 5))).drew
                have HRB : Hid ((reqB ts).length ≤ 100000) := Lib.hid (by
                  have h1 := HBK.out
                  unfold bulk at h1
                  have h2 := textsB_len ts (by omega)
                  have h3 := (show (Lib.decDigits ts.length).length ≤ 21 by have := Lib.itoa_length_le (ts.length : Int) (by omega) (by omega); rwa [Lib.itoa_nonneg] at this)
                  simp only [reqB, List.length_append, List.length_cons, lineB, List.length_nil]
                  omega)
                obtain ⟨v4, w4, hr4, ho4, hg4⟩ := append_bytes (w3.alloc (.cells #[] 5)).drew 25 w3.heap.size _ [] O3 q9 c9 (reqB ts) (HB9.out.ext E3) (by have := HRB.out; simp; omega) E3.le
                have E4 : Ext w3 w4 := Ext.grown E3 hg4 (fun x hx => (O3.lt x hx).1)
                obtain ⟨v5, w5, hr5, ho5, hg5⟩ := append_bytes w4 25 w3.heap.size v4 (reqB ts) ho4 qn cn ln (HIN.out.hn.ext (HE3.out.trans E4)) (by have := HRB.out; have := HN3.out; omega) E4.le
                have E5 : Ext w3 w5 := Ext.grown E4 hg5 (fun x hx => (ho4.lt x hx).1)
                obtain ⟨q4, c4, hv4, hb4, hl4⟩ := own_bytes ho4
                obtain ⟨q5, c5, hv5, hb5, hl5⟩ := own_bytes ho5
                subst hv4 hv5
                have cP := parse_form w5 q5 c5 (reqB ts ++ ln) hb5
                obtain ⟨M, hM⟩ : ∃ M, (reqB ts ++ ln).length = M := ⟨_, rfl⟩
                simp only [List.nil_append, List.length_nil] at hr4 hr5
                rw [hM] at hr5 cP
                rw [← HN9.out] at hr4 hr5
                have HMM := Lib.hid hM
                have CP := Lib.hid cP
                clear hM
                have n0 := HBX3.out.bN.cell 0
                simp only [List.getElem?_toArray, List.getElem?_cons_zero, List.getElem?_cons_succ] at n0
                have n04 : w4.cell? ⟨B + 1 + 1, 0, none⟩ = some (.slice qn ln.length cn) := E4.cell n0
                have n05 : w5.cell? ⟨B + 1 + 1, 0, none⟩ = some (.slice qn ln.length cn) := E5.cell n0
                have hlt : B + 1 + 1 < w3.heap.size := HBX3.out.bN.lt
                have HR4 := Lib.hid (AppRuns.mk hr4)
                have HR5 := Lib.hid (AppRuns.mk hr5)
                have HE35 := Lib.hid E5
                clear hr4 ho4 hg4 hr5 ho5 hg5 E3 E4 E5 hb5 cP O3 hb4 hl4 hl5
                go_cut [11, 12, 13] (fun s11 s12 s13 wx => ∃ n c, s12 = .int .i64 n ∧ s13 = .int .i64 c ∧ Hid (Ext w3 wx ∧ PrsP wx s11 n c (reqB ts ++ ln)))
                case first =>
                  go_region_held3 (fun w' => w'.cell? ⟨B + 1 + 1, 0, none⟩ = some (.slice qn ln.length cn)) (go_keep)
                    (first
                      | (refine step_append_run rfl _ _ 25 rfl _ _ _ _ rfl rfl HR4.out ?_)
                      | (refine step_append_run rfl _ _ 25 rfl _ _ _ _ rfl rfl HR5.out ?_)
                      | (go_at_call 18; (with_reducible refine CP.out.mono ?_); rintro e w6 ⟨v6, n6, c6, rfl, e6, p6⟩; have n06 := e6.cell n05; have HE6 := Lib.hid e6; have HP6 := Lib.hid p6; clear e6 p6))
                  all_goals
                    go_wp2_with fail
                    go_meet
                    exact ⟨_, _, rfl, rfl, Lib.hid ⟨HE35.out.trans HE6.out, HP6.out⟩⟩
                case rest =>
                  obtain ⟨n, c, rfl, rfl, HC⟩ := hcut
                  have hp := HC.out.2
                  unfold PrsP at hp
                  rw [parseS_reads ts ln HOK.out] at hp
                  simp only at hp
                  rw [← HN9.out] at hp
                  obtain ⟨rfl, rfl, tv⟩ := hp
                  have HEC := Lib.hid HC.out.1
                  have hO := one_any' wc u11 vl ts ts tv (HIN.out.hts.ext (HE3.out.trans HEC.out))
                  rw [show sameT ts ts = true from decide_eq_true rfl] at hO
                  have HO := Lib.hid hO
                  clear hO tv HC n0 n04 n05 hlt CP HR4 HR5 HMM HE35
                  go_wp2_with (go_at_call 16; refine (num_any _ _).mono ?_; rintro e w' ⟨rfl, rfl⟩)
                  refine HO.out.mono ?_
                  rintro e w7 ⟨rfl, e7⟩
                  have HE7 := Lib.hid (HEC.out.trans e7)
                  have HBX7 := Lib.hid (HBX3.out.ext HE7.out)
                  have HB97 := Lib.hid (HB9.out.ext HE7.out)
                  clear e7 HO HEC
                  have n1 := HBX7.out.bN.cell 1
                  simp only [List.getElem?_toArray, List.getElem?_cons_zero, List.getElem?_cons_succ] at n1
                  by_cases hc0 : 0 ≤ cut
                  · obtain ⟨C, rfl⟩ : ∃ C : Nat, cut = (C : Int) := ⟨cut.toNat, by omega⟩
                    have k0 : (0 : Int) ≤ (C : Int) := by omega
                    have k0d : decide ((0 : Int) ≤ (C : Int)) = true := decide_eq_true k0
                    by_cases hc1 : C < n9
                    · have k1 : decide ((C : Int) < (n9 : Int)) = true := decide_eq_true (by omega)
                      have k1n : decide (C < n9) = true := decide_eq_true hc1
                      have k2 : (C : Int) ≤ (c9 : Int) := by have := HB97.out.room.1; have := HN9.out; omega
                      have k2n : C ≤ c9 := by omega
                      have cQ := parse_form w7 q9 c9 ((reqB ts).take C) (bytes_cutB HB97.out C (by have := HN9.out; omega))
                      rw [List.length_take, Nat.min_eq_left (by have := HN9.out; omega)] at cQ
                      have HCQ := Lib.hid cQ
                      have HPC := Lib.hid (parseS_cut HOK.out (n := C) (by have := HN9.out; omega))
                      clear cQ hc0 hc1
                      go_wp2_with (go_at_call 16; refine (num_any _ _).mono ?_; rintro e w' ⟨rfl, rfl⟩)
                      refine HCQ.out.mono ?_
                      rintro e w8 ⟨v8, n8, c8, rfl, e8, p8⟩
                      unfold PrsP at p8
                      rw [HPC.out] at p8
                      obtain ⟨rfl, rfl⟩ := p8
                      have HE8 := Lib.hid (HE7.out.trans e8)
                      clear e8 HCQ n1
                      go_wp2_with (go_at_call 16; refine (num_any _ _).mono ?_; rintro e w' ⟨rfl, rfl⟩)
                      go_meet
                      exact HE8
                    · have k1 : decide ((C : Int) < (n9 : Int)) = false := decide_eq_false (by omega)
                      have k1n : decide (C < n9) = false := decide_eq_false hc1
                      clear hc0 hc1
                      go_wp2_with (go_at_call 16; refine (num_any _ _).mono ?_; rintro e w' ⟨rfl, rfl⟩)
                      go_meet
                      exact HE7
                  · have k0d : decide ((0 : Int) ≤ cut) = false := decide_eq_false hc0
                    clear hc0
                    go_wp2_with (go_at_call 16; refine (num_any _ _).mono ?_; rintro e w' ⟨rfl, rfl⟩)
                    go_meet
                    exact HE7
              · clear HP3
                go_wp2_with (go_at_call 16; refine (num_any _ _).mono ?_; rintro e w' ⟨rfl, rfl⟩)
                go_meet
                exact Lib.hid (Ext.refl _)
          case rest =>
            have HE4 := Lib.hid (HE3.out.trans hcut.out)
            have HBX4 := Lib.hid (HBX3.out.ext hcut.out)
            clear HE3 HBX3 HP3 hcut
            have x0 := HBX4.out.bX.cell 0
            have x1 := HBX4.out.bX.cell 1
            have x2 := HBX4.out.bX.cell 2
            have x3 := HBX4.out.bX.cell 3
            simp only [List.getElem?_toArray, List.getElem?_cons_zero, List.getElem?_cons_succ] at x0 x1 x2 x3
            have cA := Lib.hid (enc_form wc x qx cx Dx (list_inB HIN.out.hx HE4.out) HIN.out.hx6 (HIN.out.hp.ext HE4.out))
            go_wp2_with fail
            refine cA.out.mono ?_
            rintro e w5 ⟨q17, n17, c17, x17, rfl, e5, pa⟩
            have HE5 := Lib.hid (HE4.out.trans e5)
            have HBX5 := Lib.hid (HBX4.out.ext e5)
            have HPA := Lib.hid pa
            clear e5 pa cA x0 x1 x2 x3 HE4 HBX4
            have y0 := HBX5.out.bY.cell 0
            have y1 := HBX5.out.bY.cell 1
            have y2 := HBX5.out.bY.cell 2
            have y3 := HBX5.out.bY.cell 3
            simp only [List.getElem?_toArray, List.getElem?_cons_zero, List.getElem?_cons_succ] at y0 y1 y2 y3
            have cB := Lib.hid (enc_form w5 y qy cy Dy (list_inB HIN.out.hy HE5.out) HIN.out.hy6 (HIN.out.hp.ext HE5.out))
            go_wp2_with fail
            refine cB.out.mono ?_
            rintro e w6 ⟨q18, n18, c18, x18, rfl, e6, pb⟩
            have HE6 := Lib.hid (HE5.out.trans e6)
            have HBX6 := Lib.hid (HBX5.out.ext e6)
            have HPB := Lib.hid pb
            have HE56 := Lib.hid e6
            clear e6 pb cB y0 y1 y2 y3 HE5 HBX5
            rcases HPA.out with ⟨hokx, rfl, hn17, hb17⟩ | ⟨rfl, rfl⟩
            · have HOX := Lib.hid hokx
              have HB17 := Lib.hid (hb17.ext HE56.out)
              have HN17 := Lib.hid hn17
              clear hokx hb17 hn17 HPA
              have HLX : Hid ((encR x).length ≤ 100000) := Lib.hid (by
                have h1 := HX3.out
                have h2 := encR_len x HIN.out.hx6 (by omega) (by omega)
                omega)
              go_upto_region 16 with (go_at_call 16; refine (num_any _ _).mono ?_; rintro e w' ⟨rfl, rfl⟩)
              obtain ⟨M, hM⟩ : ∃ M, (encR x ++ ln).length = M := ⟨_, rfl⟩
              have HMM := Lib.hid hM
              clear hM
              have n0 := HBX6.out.bN.cell 0
              simp only [List.getElem?_toArray, List.getElem?_cons_zero, List.getElem?_cons_succ] at n0
              have hlt : B + 1 + 1 < w6.heap.size := HBX6.out.bN.lt
              have hne6 : ¬ B + 1 + 1 = w6.heap.size := Nat.ne_of_lt hlt
              have hme6 : ¬ w6.heap.size = B + 1 + 1 := Nat.ne_of_gt hlt
              have hne6b : ¬ B + 1 = w6.heap.size := by omega
              have hme6b : ¬ w6.heap.size = B + 1 := by omega
              have hne6c : ¬ B + 1 + 1 = w6.heap.size + 1 := by omega
              obtain ⟨L9, hL9⟩ : ∃ L9, encR x ++ ln = L9 := ⟨_, rfl⟩
              have HL9 := Lib.hid hL9
              clear hL9
              have HBIG : Hid ((encR x).length + ln.length ≤ 140737488355328) := Lib.hid (by have := HLX.out; have := HN3.out; omega)
              go_cut [20, 21, 22] (fun s20 s21 s22 wx => ∃ P q m c n e, s20 = .pointer (some ⟨P, 0, none⟩) ∧ s21 = .int .i64 n ∧ s22 = .int .i64 e ∧ Hid (Ext w6 wx ∧ ∃ z : Rep, Blk wx P 41 #[.int .i64 z.k, .int .i64 z.n, .string z.s, .slice q m c] ∧ DecP w6 wx z q m c n e L9))
              case first =>
                as_aux_lemma =>
                  go_region_held3 (fun w' => w'.cell? ⟨B + 1 + 1, 0, none⟩ = some (.slice qn ln.length cn)) (go_keep)
                    (first
                      | (refine step_append_bytes rfl _ _ rfl w6.heap.size (.slice (some ⟨w6.heap.size, 0, none⟩) 0 0) [] q17 n17 c17 n17 (encR x) rfl rfl HN17.out.symm HN17.out.symm (own0 w6) (HB17.out.ext ((Ext.refl w6).alloc (.cells #[] 5)).drew) (by have h9 := HBIG.out; simp; omega) ((Ext.refl w6).alloc (.cells #[] 5)).drew.le ?_; intro q7 c7 w7 ho7 hb7 hg7 hat7; have E7 : Ext w6 w7 := Ext.grown ((Ext.refl w6).alloc (.cells #[] 5)).drew hg7 (fun x hx => ((own0 w6).lt x hx).1); have n07 := E7.cell n0; have hlt7 : B + 1 + 1 < w7.heap.size := cell_lt n07; have hne7 : ¬ B + 1 + 1 = w7.heap.size := Nat.ne_of_lt hlt7; have hme7 : ¬ w7.heap.size = B + 1 + 1 := Nat.ne_of_gt hlt7; simp only [List.nil_append] at ho7; have HO7 := Lib.hid ho7; have HE7 := Lib.hid E7; clear ho7 hb7 hg7 hat7 E7)
                      | (refine step_append_bytes rfl _ _ rfl w6.heap.size (.slice (some ⟨w6.heap.size + 1, 0, none⟩) 0 0) [] q17 n17 c17 n17 (encR x) rfl rfl HN17.out.symm HN17.out.symm (own1 w6) (HB17.out.ext (((Ext.refl w6).alloc (.cells #[.int .i64 0, .int .i64 0, .string ⟨#[]⟩, .slice none 0 0] 41)).alloc (.cells #[] 5)).drew) (by have h9 := HBIG.out; simp; omega) (((Ext.refl w6).alloc (.cells #[.int .i64 0, .int .i64 0, .string ⟨#[]⟩, .slice none 0 0] 41)).alloc (.cells #[] 5)).drew.le ?_; intro q7 c7 w7 ho7 hb7 hg7 hat7; have E7 : Ext w6 w7 := Ext.grown (((Ext.refl w6).alloc (.cells #[.int .i64 0, .int .i64 0, .string ⟨#[]⟩, .slice none 0 0] 41)).alloc (.cells #[] 5)).drew hg7 (fun x hx => ((own1 w6).lt x hx).1); have n07 := E7.cell n0; have hlt7 : B + 1 + 1 < w7.heap.size := cell_lt n07; have hne7 : ¬ B + 1 + 1 = w7.heap.size := Nat.ne_of_lt hlt7; have hme7 : ¬ w7.heap.size = B + 1 + 1 := Nat.ne_of_gt hlt7; have HZ7 := Lib.hid (z_append (z_first w6) hg7 hat7); simp only [List.nil_append] at ho7; have HO7 := Lib.hid ho7; have HE7 := Lib.hid E7; clear ho7 hb7 hg7 hat7 E7)
                      | (refine step_append_bytes rfl _ _ rfl w6.heap.size (.slice (some ⟨w6.heap.size, 0, none⟩) 0 0) [] q17 n17 c17 n17 (encR x) rfl rfl HN17.out.symm HN17.out.symm (own2 w6) (HB17.out.ext (((Ext.refl w6).alloc (.cells #[] 5)).alloc (.cells #[.int .i64 0, .int .i64 0, .string ⟨#[]⟩, .slice none 0 0] 41)).drew) (by have h9 := HBIG.out; simp; omega) (((Ext.refl w6).alloc (.cells #[] 5)).alloc (.cells #[.int .i64 0, .int .i64 0, .string ⟨#[]⟩, .slice none 0 0] 41)).drew.le ?_; intro q7 c7 w7 ho7 hb7 hg7 hat7; have E7 : Ext w6 w7 := Ext.grown (((Ext.refl w6).alloc (.cells #[] 5)).alloc (.cells #[.int .i64 0, .int .i64 0, .string ⟨#[]⟩, .slice none 0 0] 41)).drew hg7 (fun x hx => ((own2 w6).lt x hx).1); have n07 := E7.cell n0; have hlt7 : B + 1 + 1 < w7.heap.size := cell_lt n07; have hne7 : ¬ B + 1 + 1 = w7.heap.size := Nat.ne_of_lt hlt7; have hme7 : ¬ w7.heap.size = B + 1 + 1 := Nat.ne_of_gt hlt7; have HZ7 := Lib.hid (z_append (z_second w6) hg7 hat7); simp only [List.nil_append] at ho7; have HO7 := Lib.hid ho7; have HE7 := Lib.hid E7; clear ho7 hb7 hg7 hat7 E7)
                      | (refine step_append_bytes rfl _ _ rfl w6.heap.size (.slice q7 n17 c7) (encR x) qn ln.length cn M ln rfl rfl rfl HMM.out HO7.out (HIN.out.hn.ext (HE6.out.trans HE7.out)) HBIG.out HE7.out.le ?_; intro q8 c8 w8 ho8 hb8 hg8 hat8; have E8 : Ext w6 w8 := Ext.grown HE7.out hg8 (fun x hx => (HO7.out.lt x hx).1); have n08 := E8.cell n0; have hlt8 : B + 1 + 1 < w8.heap.size := cell_lt n08; have hne8 : ¬ B + 1 + 1 = w8.heap.size := Nat.ne_of_lt hlt8; have hme8 : ¬ w8.heap.size = B + 1 + 1 := Nat.ne_of_gt hlt8; (try (have HZ8 := Lib.hid (z_append HZ7.out hg8 hat8))); have HO8 := Lib.hid ho8; have CP8 : Hid (∀ W, Ext w8 W → Calls Tryd.prog 20 #[.slice q8 M c8] W fun e w' => ∃ x q' m' c' n z, e = .returned (.tuple #[cellsV x.k x.n x.s (.slice q' m' c'), .int .i64 n, .int .i64 z]) ∧ Ext W w' ∧ DecP W w' x q' m' c' n z L9) := Lib.hid (fun W hW => by have h9 := decode_form W q8 c8 _ (hb8.ext hW); rw [HMM.out, HL9.out] at h9; exact h9); have HE8 := Lib.hid E8; clear ho8 hb8 hg8 hat8 E8)
                      | (refine step_append_bytes rfl _ _ rfl w6.heap.size (.slice q7 n17 c7) (encR x) qn ln.length cn M ln rfl rfl rfl HMM.out (own_ext HO7.out ((Ext.refl w7).alloc (.cells #[.int .i64 0, .int .i64 0, .string ⟨#[]⟩, .slice none 0 0] 41))) (HIN.out.hn.ext (HE6.out.trans (HE7.out.alloc (.cells #[.int .i64 0, .int .i64 0, .string ⟨#[]⟩, .slice none 0 0] 41)))) HBIG.out (HE7.out.alloc (.cells #[.int .i64 0, .int .i64 0, .string ⟨#[]⟩, .slice none 0 0] 41)).le ?_; intro q8 c8 w8 ho8 hb8 hg8 hat8; have E8 : Ext w6 w8 := Ext.grown (HE7.out.alloc (.cells #[.int .i64 0, .int .i64 0, .string ⟨#[]⟩, .slice none 0 0] 41)) hg8 (fun x hx => ((own_ext HO7.out ((Ext.refl w7).alloc (.cells #[.int .i64 0, .int .i64 0, .string ⟨#[]⟩, .slice none 0 0] 41))).lt x hx).1); have n08 := E8.cell n0; have hlt8 : B + 1 + 1 < w8.heap.size := cell_lt n08; have hne8 : ¬ B + 1 + 1 = w8.heap.size := Nat.ne_of_lt hlt8; have hme8 : ¬ w8.heap.size = B + 1 + 1 := Nat.ne_of_gt hlt8; (try (have HZ8 := Lib.hid (z_append (z_alloc HO7.out) hg8 hat8))); have HO8 := Lib.hid ho8; have CP8 : Hid (∀ W, Ext w8 W → Calls Tryd.prog 20 #[.slice q8 M c8] W fun e w' => ∃ x q' m' c' n z, e = .returned (.tuple #[cellsV x.k x.n x.s (.slice q' m' c'), .int .i64 n, .int .i64 z]) ∧ Ext W w' ∧ DecP W w' x q' m' c' n z L9) := Lib.hid (fun W hW => by have h9 := decode_form W q8 c8 _ (hb8.ext hW); rw [HMM.out, HL9.out] at h9; exact h9); have HE8 := Lib.hid E8; clear ho8 hb8 hg8 hat8 E8)
                      | (go_at_call 20; (with_reducible refine (CP8.out _ (Ext.refl w8)).mono ?_); rintro e w9 ⟨z9, q9, m9, c9, n9, e9, rfl, e10, p10⟩; have E9 := ((Ext.refl w8).trans e10); have n09 := E9.cell n08; have hlt9 : B + 1 + 1 < w9.heap.size := cell_lt n09; have hne9 : ¬ B + 1 + 1 = w9.heap.size := Nat.ne_of_lt hlt9; have hme9 : ¬ w9.heap.size = B + 1 + 1 := Nat.ne_of_gt hlt9; (try (have HZ9 := Lib.hid (HZ8.out.blk.ext e10); have a0 := HZ9.out.cell 0; have a1 := HZ9.out.cell 1; have a2 := HZ9.out.cell 2; have a3 := HZ9.out.cell 3; have b0 := HZ9.out.frozen 0; have b1 := HZ9.out.frozen 1; have b2 := HZ9.out.frozen 2; have b3 := HZ9.out.frozen 3; simp only [List.getElem?_toArray, List.getElem?_cons_zero, List.getElem?_cons_succ] at a0 a1 a2 a3)); have HE9 := Lib.hid (HE8.out.trans E9); have HP9 := Lib.hid p10; clear e10 p10 E9)
                      | (go_at_call 20; (with_reducible refine (CP8.out _ ((Ext.refl w8).alloc (.cells #[.int .i64 0, .int .i64 0, .string ⟨#[]⟩, .slice none 0 0] 41))).mono ?_); rintro e w9 ⟨z9, q9, m9, c9, n9, e9, rfl, e10, p10⟩; have E9 := (((Ext.refl w8).alloc (.cells #[.int .i64 0, .int .i64 0, .string ⟨#[]⟩, .slice none 0 0] 41)).trans e10); have n09 := E9.cell n08; have hlt9 : B + 1 + 1 < w9.heap.size := cell_lt n09; have hne9 : ¬ B + 1 + 1 = w9.heap.size := Nat.ne_of_lt hlt9; have hme9 : ¬ w9.heap.size = B + 1 + 1 := Nat.ne_of_gt hlt9; (try (have HZ9 := Lib.hid ((z_alloc HO8.out).blk.ext e10); have a0 := HZ9.out.cell 0; have a1 := HZ9.out.cell 1; have a2 := HZ9.out.cell 2; have a3 := HZ9.out.cell 3; have b0 := HZ9.out.frozen 0; have b1 := HZ9.out.frozen 1; have b2 := HZ9.out.frozen 2; have b3 := HZ9.out.frozen 3; simp only [List.getElem?_toArray, List.getElem?_cons_zero, List.getElem?_cons_succ] at a0 a1 a2 a3)); have HE9 := Lib.hid (HE8.out.trans E9); have HP9 := Lib.hid p10; clear e10 p10 E9))
                  all_goals
                    go_wp2_with fail
                    go_meet
                    refine ⟨_, q9, m9, c9, _, _, rfl, rfl, rfl, Lib.hid ?_⟩
                    first
                      | exact dec_new HE9.out HP9.out HE8.out.le
                      | exact dec_put HE9.out (by have := HE7.out.le; have := HE8.out.le; omega) (by first | exact HZ8.out.blk.lt | (rw [size_alloc]; omega)) HZ9.out HP9.out
              case rest =>
                obtain ⟨P, q, m, c, n, e, rfl, rfl, rfl, HC⟩ := hcut
                obtain ⟨hE, z, hb, hd⟩ := HC.out
                unfold DecP at hd
                rw [← HL9.out, decodeS_reads x ln HOX.out HIN.out.hx6] at hd
                simp only at hd
                rw [← HN17.out] at hd
                obtain ⟨hl, rfl, rfl, rfl⟩ := hd
                have HE7 := Lib.hid (HE6.out.trans hE)
                have HE67 := Lib.hid hE
                have HBX7 := Lib.hid (HBX6.out.ext hE)
                have hS := same_any 100 Dx _ _ wc z z _ _ hl (HIN.out.hx.ext HE7.out) (by have := HX3.out; omega)
                rw [sameR_self] at hS
                have HS := Lib.hid hS
                have p0 := hb.cell 0
                have p1 := hb.cell 1
                have p2 := hb.cell 2
                have p3 := hb.cell 3
                have x0 := HBX7.out.bX.cell 0
                have x1 := HBX7.out.bX.cell 1
                have x2 := HBX7.out.bX.cell 2
                have x3 := HBX7.out.bX.cell 3
                simp only [List.getElem?_toArray, List.getElem?_cons_zero, List.getElem?_cons_succ] at p0 p1 p2 p3 x0 x1 x2 x3
                clear hS hl hb hE HC n0 hlt hne6 hme6 hne6b hme6b hne6c HBIG HMM HL9
                go_wp2_with (go_at_call 16; refine (num_any _ _).mono ?_; rintro e w' ⟨rfl, rfl⟩)
                refine HS.out.mono ?_
                rintro e w9 ⟨rfl, e9⟩
                have HE9 := Lib.hid (HE7.out.trans e9)
                have HE69 := Lib.hid (HE67.out.trans e9)
                have HBX9 := Lib.hid (HBX7.out.ext e9)
                clear e9 HS p0 p1 p2 p3 x0 x1 x2 x3 HE7 HBX7 HE67
                have n1 := HBX9.out.bN.cell 1
                simp only [List.getElem?_toArray, List.getElem?_cons_zero, List.getElem?_cons_succ] at n1
                go_upto_region 19 with fail
                go_cut [156] (fun s156 wx => ∃ b : Bool, s156 = .bool b ∧ Hid (b = true → 0 ≤ cut ∧ cut < (n17 : Int)) ∧ Hid (Ext w9 wx))
                case first =>
                  as_aux_lemma =>
                    by_cases hc0 : 0 ≤ cut
                    · have k0d : decide ((0 : Int) ≤ cut) = true := decide_eq_true hc0
                      by_cases hc1 : cut < (n17 : Int)
                      · have k1d : decide (cut < (n17 : Int)) = true := decide_eq_true hc1
                        have HH := Lib.hid (And.intro hc0 hc1)
                        clear hc0 hc1
                        go_wp2_with fail
                        go_meet
                        exact ⟨true, rfl, Lib.hid (fun _ => HH.out), Lib.hid (Ext.refl _)⟩
                      · have k1d : decide (cut < (n17 : Int)) = false := decide_eq_false hc1
                        clear hc0 hc1
                        go_wp2_with fail
                        go_meet
                        exact ⟨false, rfl, Lib.hid (fun h => by cases h), Lib.hid (Ext.refl _)⟩
                    · have k0d : decide ((0 : Int) ≤ cut) = false := decide_eq_false hc0
                      clear hc0
                      go_wp2_with fail
                      go_meet
                      exact ⟨false, rfl, Lib.hid (fun h => by cases h), Lib.hid (Ext.refl _)⟩
                case rest =>
                  obtain ⟨b, rfl, HCB, HEX⟩ := hcut
                  obtain ⟨wd, rfl⟩ : ∃ wd : World, wd = wc := ⟨_, rfl⟩
                  have HE10 := Lib.hid (HE9.out.trans HEX.out)
                  have HE610 := Lib.hid (HE69.out.trans HEX.out)
                  have HBX10 := Lib.hid (HBX9.out.ext HEX.out)
                  clear n1 HE9 HE69 HBX9 HEX
                  go_upto_if 156 with fail
                  go_cut [] (fun wx => Hid (Ext wd wx))
                  case first =>
                    as_aux_lemma =>
                      cases b with
                      | false =>
                        go_wp2_with fail
                        go_meet
                        exact Lib.hid (Ext.refl _)
                      | true =>
                        obtain ⟨hc0, hc1⟩ := HCB.out rfl
                        obtain ⟨C, rfl⟩ : ∃ C : Nat, cut = (C : Int) := ⟨cut.toNat, by omega⟩
                        have n1 := HBX10.out.bN.cell 1
                        simp only [List.getElem?_toArray, List.getElem?_cons_zero, List.getElem?_cons_succ] at n1
                        have HB10 := Lib.hid (HB17.out.ext HE610.out)
                        have k0 : (0 : Int) ≤ (C : Int) := by omega
                        have k2 : (C : Int) ≤ (c17 : Int) := by have := HB10.out.room.1; have := HN17.out; omega
                        have k2n : C ≤ c17 := by omega
                        have cQ := decode_form wd q17 c17 ((encR z).take C) (bytes_cutB HB10.out C (by have := HN17.out; omega))
                        rw [List.length_take, Nat.min_eq_left (by have := HN17.out; omega)] at cQ
                        have HCQ := Lib.hid cQ
                        have HPC := Lib.hid (decodeS_cut HOX.out HIN.out.hx6 (n := C) (by have := HN17.out; omega))
                        clear cQ hc0 hc1 HCB
                        go_wp2_with (go_at_call 16; refine (num_any _ _).mono ?_; rintro e w' ⟨rfl, rfl⟩)
                        refine HCQ.out.mono ?_
                        rintro e w11 ⟨z8, q8, m8, c8, n8, e8, rfl, e11, p8⟩
                        unfold DecP at p8
                        rw [HPC.out] at p8
                        obtain ⟨_, rfl, rfl⟩ := p8
                        have HE11 := Lib.hid e11
                        clear e11 HCQ n1
                        go_wp2_with (go_at_call 16; refine (num_any _ _).mono ?_; rintro e w' ⟨rfl, rfl⟩)
                        go_meet
                        exact Lib.hid (HE11.out.trans (by first | exact (Ext.refl _).alloc _ | exact Ext.refl _))
                  case rest =>
                    have HEF := Lib.hid (HE10.out.trans hcut.out)
                    have HE6F := Lib.hid (HE610.out.trans hcut.out)
                    have HBXF := Lib.hid (HBX10.out.ext hcut.out)
                    clear hcut HE10 HE610 HBX10 HCB
                    rcases HPB.out with ⟨hoky, rfl, hn18, hb18⟩ | ⟨rfl, rfl⟩
                    · as_aux_lemma =>
                        have HOY := Lib.hid hoky
                        have HN18 := Lib.hid hn18
                        have HB18 := Lib.hid hb18
                        clear hoky hn18 hb18 HPB
                        obtain ⟨S1, hS1⟩ : ∃ S1 : ByteArray, (⟨(encR z).toArray⟩ : ByteArray) = S1 := ⟨_, rfl⟩
                        obtain ⟨S2, hS2⟩ : ∃ S2 : ByteArray, (⟨(encR y).toArray⟩ : ByteArray) = S2 := ⟨_, rfl⟩
                        have l1 : S1.data.toList = encR z := by rw [← hS1]
                        have l2 : S2.data.toList = encR y := by rw [← hS2]
                        have CV1 : Hid (∀ wq, Ext wc wq → (convert 25 9 (.slice q17 n17 c17)).run Tryd.prog wq = .ok (.string S1) wq) := Lib.hid (fun wq hq => by
                          have := conv_any (HB17.out.ext (HE6F.out.trans hq))
                          rwa [← HN17.out, hS1] at this)
                        have CV2 : Hid (∀ wq, Ext wc wq → (convert 25 9 (.slice q18 n18 c18)).run Tryd.prog wq = .ok (.string S2) wq) := Lib.hid (fun wq hq => by
                          have := conv_any (HB18.out.ext (HE6F.out.trans hq))
                          rwa [← HN18.out, hS2] at this)
                        have CSM : Hid (∀ wq, Ext w wq → Calls Tryd.prog 33 #[cellsV z.k z.n z.s (.slice qx z.l.length cx), cellsV y.k y.n y.s (.slice qy y.l.length cy)] wq fun e w' => e = .returned (.bool (sameR z y)) ∧ Ext wq w') := Lib.hid (fun wq hq => same_any Dx Dy _ _ wq z y _ _ (HIN.out.hx.ext hq) (HIN.out.hy.ext hq) (by have := HX3.out; omega))
                        have z1 : S1.size ≤ 1000000000 := by
                          have h9 : S1.data.toList.length = S1.size := rfl
                          have h2 := HLX.out
                          rw [l1] at h9
                          omega
                        have z2 : S2.size ≤ 1000000000 := by
                          have h9 : S2.data.toList.length = S2.size := rfl
                          have h1 := HY3.out
                          have h2 := encR_len y HIN.out.hy6 (by omega) (by omega)
                          rw [l2] at h9
                          omega
                        have g1 : S1.size = (encR z).length := by rw [← l1]; rfl
                        have g2 : S2.size = (encR y).length := by rw [← l2]; rfl
                        have CB1 := Lib.hid (fun wq => (begins_no S1 S2 wq z1 (by rw [g1, g2, l1, l2]; exact enc_begins HOX.out HIN.out.hx6 HOY.out HIN.out.hy6)).mono (fun e w' h => (⟨h.1, h.2 ▸ Ext.refl wq⟩ : e = .returned (.bool false) ∧ Ext wq w')))
                        have CB2 := Lib.hid (fun wq => (begins_no S2 S1 wq z2 (by rw [g1, g2, l1, l2]; exact enc_begins HOY.out HIN.out.hy6 HOX.out HIN.out.hx6)).mono (fun e w' h => (⟨h.1, h.2 ▸ Ext.refl wq⟩ : e = .returned (.bool false) ∧ Ext wq w')))
                        have HQ : Hid ((sameR z y = true ∧ S2 = S1) ∨ (sameR z y = false ∧ (S1.toList == S2.toList) = false)) := Lib.hid (by
                          by_cases hxy : z = y
                          · exact .inl ⟨(sameR_iff z y).2 hxy, by rw [← hS1, ← hS2, hxy]⟩
                          · refine .inr ⟨?_, str_ne (fun e => hxy ((enc_eq HOX.out HIN.out.hx6 HOY.out HIN.out.hy6).1 (by rw [← l1, ← l2, e])))⟩
                            cases hb : sameR z y with
                            | false => rfl
                            | true => exact absurd ((sameR_iff z y).1 hb) hxy)
                        have x0 := HBXF.out.bX.cell 0
                        have x1 := HBXF.out.bX.cell 1
                        have x2 := HBXF.out.bX.cell 2
                        have x3 := HBXF.out.bX.cell 3
                        have y0 := HBXF.out.bY.cell 0
                        have y1 := HBXF.out.bY.cell 1
                        have y2 := HBXF.out.bY.cell 2
                        have y3 := HBXF.out.bY.cell 3
                        simp only [List.getElem?_toArray, List.getElem?_cons_zero, List.getElem?_cons_succ] at x0 x1 x2 x3 y0 y1 y2 y3
                        clear hS1 hS2 l1 l2 z1 z2 g1 g2
                        rcases HQ.out with ⟨hs, rfl⟩ | ⟨hs, e1⟩
                        · rw [hs] at CSM
                          clear hs HQ
                          go_wp2_with fail
                          refine wp_region_ext (by kernel_rfl) (by kernel_rfl) ?_
                          repeat (
                            first
                              | go_big_quiet_skip
                              | (go_big_quiet_want
                                 go_big_quiet_op
                                 first
                                   | go_big_quiet_on
                                   | (apply Exists.intro
                                      refine ⟨fun wq hq => ?_, ?_⟩
                                      focus (
                                        have x0 := hq.cell x0
                                        have x1 := hq.cell x1
                                        have x2 := hq.cell x2
                                        have x3 := hq.cell x3
                                        have y0 := hq.cell y0
                                        have y1 := hq.cell y1
                                        have y2 := hq.cell y2
                                        have y3 := hq.cell y3
                                        have v1 := CV1.out wq hq
                                        have v2 := CV2.out wq hq
                                        first
                                          | (go_at_call 16; exact Calls.ext_of hq (num_extB _ _); done)
                                          | (go_at_call 13; exact Calls.ext_of hq (HW.out wq (HEF.out.trans hq)); done)
                                          | (go_at_call 33; exact Calls.ext_of hq (CSM.out wq (HEF.out.trans hq)); done)
                                          | (go_at_call 34; ((with_reducible refine Calls.ext_of hq (CB1.out _)); done))
                                          | (go_at_call 34; ((with_reducible refine Calls.ext_of hq (CB2.out _)); done))
                                          | (go_simp; exact rfl))
                                      go_big_quiet_on)))
                          refine wpQuiet_nil ?_
                          intro we hwe
                          clear x0 x1 x2 x3 y0 y1 y2 y3
                          go_wp2_with fail
                          go_ret
                          exact ⟨rfl, HEF.out.trans hwe⟩
                        · rw [hs] at CSM
                          clear hs HQ
                          go_wp2_with fail
                          refine wp_region_ext (by kernel_rfl) (by kernel_rfl) ?_
                          repeat (
                            first
                              | go_big_quiet_skip
                              | (go_big_quiet_want
                                 go_big_quiet_op
                                 first
                                   | go_big_quiet_on
                                   | (apply Exists.intro
                                      refine ⟨fun wq hq => ?_, ?_⟩
                                      focus (
                                        have x0 := hq.cell x0
                                        have x1 := hq.cell x1
                                        have x2 := hq.cell x2
                                        have x3 := hq.cell x3
                                        have y0 := hq.cell y0
                                        have y1 := hq.cell y1
                                        have y2 := hq.cell y2
                                        have y3 := hq.cell y3
                                        have v1 := CV1.out wq hq
                                        have v2 := CV2.out wq hq
                                        first
                                          | (go_at_call 16; exact Calls.ext_of hq (num_extB _ _); done)
                                          | (go_at_call 13; exact Calls.ext_of hq (HW.out wq (HEF.out.trans hq)); done)
                                          | (go_at_call 33; exact Calls.ext_of hq (CSM.out wq (HEF.out.trans hq)); done)
                                          | (go_at_call 34; ((with_reducible refine Calls.ext_of hq (CB1.out _)); done))
                                          | (go_at_call 34; ((with_reducible refine Calls.ext_of hq (CB2.out _)); done))
                                          | (go_simp; exact rfl))
                                      go_big_quiet_on)))
                          refine wpQuiet_nil ?_
                          intro we hwe
                          clear x0 x1 x2 x3 y0 y1 y2 y3
                          go_wp2_with fail
                          go_ret
                          exact ⟨rfl, HEF.out.trans hwe⟩
                    · as_aux_lemma =>
                        clear HPB
                        go_wp2_with fail
                        refine wp_region_ext (by kernel_rfl) (by kernel_rfl) ?_
                        repeat (
                          first
                            | go_big_quiet_skip
                            | (go_big_quiet_want
                               go_big_quiet_op
                               first
                                 | go_big_quiet_on
                                 | (apply Exists.intro
                                    refine ⟨fun wq hq => ?_, ?_⟩
                                    focus (
                                      first
                                        | (go_at_call 16; exact Calls.ext_of hq (num_extB _ _); done)
                                        | (go_at_call 13; exact Calls.ext_of hq (HW.out wq (HEF.out.trans hq)); done)
                                        | (go_simp; exact rfl))
                                    go_big_quiet_on)))
                        refine wpQuiet_nil ?_
                        intro we hwe
                        go_wp2_with fail
                        go_ret
                        exact ⟨rfl, HEF.out.trans hwe⟩
            · clear HPA HPB
              go_wp2_with (go_at_call 16; refine (num_any _ _).mono ?_; rintro e w' ⟨rfl, rfl⟩)
              refine (HW.out w6 HE6.out).mono ?_
              rintro e w9 ⟨rfl, e9⟩
              have HE9 := Lib.hid (HE6.out.trans e9)
              clear e9
              go_wp2_with fail
              go_ret
              exact ⟨rfl, HE9.out⟩
        · have d2 : decide ((3000 : Int) < (ln.length : Int)) = true := decide_eq_true (by omega)
          have d2n : decide (3000 < ln.length) = true := decide_eq_true (by omega)
          go_wp2_with fail
          refine (HW.out _ HE2.out).mono ?_
          rintro e w9 ⟨rfl, e9⟩
          have HE9 := Lib.hid (HE2.out.trans e9)
          clear e9
          go_wp2_with fail
          go_ret
          exact ⟨rfl, HE9.out⟩
      · have d1 : decide ((3000 : Int) < (SY : Int)) = true := decide_eq_true (by omega)
        have d1n : decide (3000 < SY) = true := decide_eq_true (by omega)
        go_wp2_with fail
        refine (HW.out _ HE2.out).mono ?_
        rintro e w9 ⟨rfl, e9⟩
        have HE9 := Lib.hid (HE2.out.trans e9)
        clear e9
        go_wp2_with fail
        go_ret
        exact ⟨rfl, HE9.out⟩
    · have d1 : decide ((3000 : Int) < (SX : Int)) = true := decide_eq_true (by omega)
      have d1n : decide (3000 < SX) = true := decide_eq_true (by omega)
      go_wp2_with fail
      refine (HW.out _ HE1.out).mono ?_
      rintro e w9 ⟨rfl, e9⟩
      have HE9 := Lib.hid (HE1.out.trans e9)
      clear e9
      go_wp2_with fail
      go_ret
      exact ⟨rfl, HE9.out⟩
end Go.Proofs.YtopdgmchkoaeeaaDoor
