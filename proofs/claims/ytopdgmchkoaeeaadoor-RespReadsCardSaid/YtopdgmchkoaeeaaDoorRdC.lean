/- RespReads: the statement's walk. -/
import Derived.Test.YtopdgmchkoaeeaaDoorRdB
namespace Go.Proofs.YtopdgmchkoaeeaaDoor
open Go.RowKit
set_option linter.unusedVariables false
set_option linter.unusedSimpArgs false

theorem told_head {l : List UInt8} {x : List ByteArray} {xs : List (List ByteArray)} {e : Int} {r : List UInt8} (h : toldS l = ⟨x :: xs, e, r⟩) : ∃ n, parseS l = .ok (x, n) ∧ toldS (l.drop n) = ⟨xs, e, r⟩ ∧ n ≤ l.length := by
  cases hp : parseS l with
  | error c => rw [told_err hp] at h; cases h
  | ok y =>
    rw [told_ok hp] at h
    injection h with h1 h2 h3
    injection h1 with h4 h5
    subst h4 h2 h3
    refine ⟨y.2, rfl, ?_, (parse_some hp).2.1⟩
    rw [← h5]
theorem told_nil {l : List UInt8} {e : Int} {r : List UInt8} (h : toldS l = ⟨[], e, r⟩) : parseS l = .error e ∧ r = l := by
  cases hp : parseS l with
  | error c => rw [told_err hp] at h; injection h with h1 h2 h3; exact ⟨by rw [h2], h3.symm⟩
  | ok y => rw [told_ok hp] at h; injection h with h1; cases h1
/-- The pieces as they lie. -/
def PiecesAt (w : World) (q : Option Addr) (pss : List (List UInt8)) : Prop :=
  0 < pss.length → ∃ b o, q = some ⟨b, o, none⟩ ∧ ∀ i (h : i < pss.length), ∃ qi ci, w.cell? ⟨b, o + i, none⟩ = some (.slice qi (pss[i]).length ci) ∧ PieceV w qi ci pss[i]
def bulkP (pss : List (List UInt8)) : Nat := (pss.map fun p => 5 + p.length).sum
theorem bulkP_next (l : List (List UInt8)) (k : Nat) (h : k < l.length) : bulkP (l.take (k + 1)) = bulkP (l.take k) + 5 + l[k].length := by
  unfold bulkP
  rw [List.take_succ_eq_append_getElem h, List.map_append, List.sum_append]
  simp; omega
theorem bulkP_take (l : List (List UInt8)) (k : Nat) : bulkP (l.take k) ≤ bulkP l := by
  unfold bulkP
  conv => rhs; rw [← List.take_append_drop k l]
  rw [List.map_append, List.sum_append]
  omega
theorem flat_next (l : List (List UInt8)) (k : Nat) (h : k < l.length) : (l.take (k + 1)).flatten = (l.take k).flatten ++ l[k] := by
  rw [List.take_succ_eq_append_getElem h, List.flatten_append]
  simp
theorem flat_len : ∀ (l : List (List UInt8)), l.flatten.length ≤ bulkP l
  | [] => by simp [bulkP]
  | p :: l => by
    have := flat_len l
    simp only [bulkP, List.map_cons, List.sum_cons, List.flatten_cons, List.length_append] at this ⊢
    omega
/-- Where the reader stands between the pieces: what is left begins none. -/
def RdRest (wr : World) (B g : Nat) (l : List UInt8) (c : Int) : Prop :=
  ∃ e, RdAt wr B g l e ∧ ((e = 0 ∧ c = 130) ∨ (e = 131 ∧ c = 131))
/-- A row's block whose cells are bytes. -/
def BytesIn (w : World) (g n : Nat) : Prop := ∃ cs : Array Value, Blk w g 5 cs ∧ ∀ j, j < n → ∃ z : Int, cs[j]? = some (.int .u8 z)
theorem BytesIn.set {w : World} {g n : Nat} (h : BytesIn w g n) (k : Nat) (z : Int) : BytesIn (w.setCell ⟨g, k, none⟩ (.int .u8 z)) g n := by
  obtain ⟨cs, hb, hc⟩ := h
  refine ⟨_, hb.set_ k (.int .u8 z), fun j hj => ?_⟩
  obtain ⟨z', hz⟩ := hc j hj
  have hlt : j < cs.size := by
    rcases Nat.lt_or_ge j cs.size with h | h
    · exact h
    · rw [Array.getElem?_eq_none h] at hz; cases hz
  by_cases hjk : k = j
  · subst hjk
    exact ⟨z, by rw [Array.getElem?_setIfInBounds]; simp [hlt]⟩
  · exact ⟨z', by rw [Array.getElem?_setIfInBounds]; simp [hjk, hz]⟩
theorem bytes_in {w : World} {base : Nat} {l : List UInt8} {g c : Nat} (h : w.ownsRow base 5 1 (.slice (some ⟨g, 0, none⟩) l.length c) l.length (Lib.byteCells l)) : BytesIn w g l.length := by
  obtain ⟨_, ⟨e, _⟩ | ⟨g', cap, cur, e, hb, hh, hnc, hcap, hsz, htk⟩⟩ := h
  · cases e
  · cases e
    refine ⟨cur, hh, fun j hj => ⟨(l[j].toNat : Int), ?_⟩⟩
    have h2 : (Lib.byteCells l)[j]? = some (.int .u8 (l[j].toNat : Int)) := by simp [Lib.byteCells, List.getElem?_map, List.getElem?_eq_getElem hj]
    rw [← htk, List.getElem?_take] at h2
    split at h2
    · simpa using h2
    · cases h2
/-- The reader has been fed; the piece's own row may be turned. -/
structure InLoop (w wq : World) (g gm : Nat) (l : List UInt8) (e : Int) (n : Nat) : Prop where
  ext : Ext w wq
  ex : ∃ v, Blk wq g 95 #[v, .bool true, .int .i64 e] ∧ wq.ownsRow (g + 1) 5 1 v l.length (Lib.byteCells l) ∧ v.ownBlock ≠ some gm
  hb : g + 1 ≤ wq.heap.size
  bytes : 0 < n → BytesIn wq gm n ∧ g + 1 ≤ gm
  hw : w.heap.size = g
theorem InLoop.set {w wq : World} {g gm : Nat} {l : List UInt8} {e : Int} {n : Nat} (h : InLoop w wq g gm l e n) (hn : 0 < n) (k : Nat) (z : Int) : InLoop w (wq.setCell ⟨gm, k, none⟩ (.int .u8 z)) g gm l e n := by
  obtain ⟨v, hb, ho, hv⟩ := h.ex
  have h1 := h.bytes hn
  have h2 := h.hw
  refine ⟨h.ext.setCell (by show w.heap.size ≤ gm; omega) _, ⟨v, hb.far (by show g ≠ gm; omega) _, ?_, hv⟩, by rw [World.size_setCell]; exact h.hb, fun _ => ⟨h1.1.set k z, h1.2⟩, h2⟩
  obtain ⟨hl, hr⟩ := ho
  refine ⟨hl, hr.imp id (fun ⟨g', cap, cur, e1, h3, h4, h5⟩ => ⟨g', cap, cur, e1, h3, ?_, h5⟩)⟩
  rw [Below.heap_setCell wq ⟨gm, k, none⟩ _ g' (by
    show g' ≠ gm
    rintro rfl
    exact hv (by rw [e1]; rfl))]
  exact h4
theorem InLoop.rd {w wq : World} {g gm : Nat} {l : List UInt8} {e : Int} {n : Nat} (h : InLoop w wq g gm l e n) : RdAt wq (g + 1) g l e :=
  let ⟨v, hb, ho, _⟩ := h.ex; ⟨⟨v, hb, ho⟩, Nat.lt_succ_self g, h.hb⟩
theorem in_start {w wo w3 w4 : World} {g : Nat} {vr v4 q3 : Value} {l m : List UInt8} {e : Int} (hw : w.heap.size = g) (E0 : Ext w wo) (E3 : Ext wo w3) (hor : wo.ownsRow (g + 1) 5 1 vr l.length (Lib.byteCells l))
    (ho3 : w3.ownsRow wo.heap.size 5 1 q3 m.length (Lib.byteCells m)) (hg1 : g + 1 ≤ wo.heap.size) (hF : FeedR w3 (g + 1) g vr (l ++ m) e w4 v4) :
    ∃ gm, (0 < m.length → ∃ cap, q3 = .slice (some ⟨gm, 0, none⟩) m.length cap) ∧ InLoop w w4 g gm (l ++ m) e m.length := by
  obtain ⟨f1, f2, f3, f4, f5, f6, f7, f8⟩ := hF
  have h3 := E3.le
  have hvr : ∀ k, vr.ownBlock = some k → g + 1 ≤ k ∧ k < wo.heap.size := fun k hk => hor.lt k hk
  have EW : Ext w w4 := ⟨f5.trans (E0.trans E3).os, f6.trans (E0.trans E3).tape, f7.trans (E0.trans E3).output, Nat.le_trans (E0.trans E3).le f8, fun k hk => (f3 k (by omega) (by omega) (fun e => by have := hvr k e; omega)).trans ((E0.trans E3).block k hk)⟩
  rcases Nat.eq_zero_or_pos m.length with h0 | h0
  · refine ⟨g, fun h => by omega, EW, ⟨v4, f1, f2, fun e => ?_⟩, by omega, fun h => by omega, hw⟩
    have := (f2.lt g e).1
    omega
  · obtain ⟨gm, cap, e1, hb, hlt⟩ := ho3.form h0
    subst e1
    have hne : vr.ownBlock ≠ some gm := fun e => by have := hvr gm e; omega
    refine ⟨gm, fun _ => ⟨cap, rfl⟩, EW, ⟨v4, f1, f2, fun e => ?_⟩, by omega, fun _ => ⟨?_, by omega⟩, hw⟩
    · rcases f4 with f4 | f4
      · rw [f4] at e; exact hne e
      · rw [f4] at e; injection e with e; omega
    · obtain ⟨cs, hc, hx⟩ := bytes_in ho3
      exact ⟨cs, (f3 gm hlt (by omega) hne).trans hc, hx⟩
theorem told_many : ∀ (k : Nat) (l : List UInt8), l.length < k → (toldS l).reqs.length ≤ l.length
  | 0, l, h => absurd h (by omega)
  | k + 1, l, h => by
    cases hp : parseS l with
    | error c => rw [told_err hp]; exact Nat.zero_le _
    | ok x =>
      have h1 := parse_some hp
      have h2 : (l.drop x.2).length = l.length - x.2 := List.length_drop
      have h3 := told_many k (l.drop x.2) (by omega)
      rw [told_ok hp]
      show (toldS (l.drop x.2)).reqs.length + 1 ≤ l.length
      omega
/-- Where the statement stands among the requests of a piece. -/
structure NxAt (w6 wq : World) (g : Nat) (er : Int) (U : Told) (j : Nat) : Prop where
  only : Only g w6 wq
  rd : ∃ l, RdAt wq (g + 1) g l er ∧ toldS l = ⟨U.reqs.drop j, U.e, U.left⟩ ∧ l.length ≤ 10000
theorem nx_next {w6 wq : World} {g : Nat} {U : Told} {j : Nat} (h : NxAt w6 wq g 0 U j) (hj : j < U.reqs.length) :
    Calls Tryd.prog 26 #[.pointer (some ⟨g, 0, none⟩)] wq fun e w' => ∃ v, e = .returned (.tuple #[v, .int .i64 0]) ∧ TxAt w' v U.reqs[j] ∧ Only g wq w' ∧ NxAt w6 w' g 0 U (j + 1) := by
  obtain ⟨l, hr, ht, hl⟩ := h.rd
  rw [List.drop_eq_getElem_cons hj] at ht
  obtain ⟨n, hp, hd, hn⟩ := told_head ht
  refine (next_any wq (g + 1) g l hr (by omega)).mono ?_
  intro e w' hs
  rw [hp] at hs
  obtain ⟨ho, v, rfl, tf, hr'⟩ := hs
  have hps := parse_some hp
  refine ⟨v, rfl, tf.tx (Nat.le_trans hps.2.2.1 (by decide)), ho, h.only.trans ho, _, hr', hd, by rw [List.length_drop]; omega⟩
theorem nx_last {w6 wq : World} {g : Nat} {er : Int} {U : Told} (h : NxAt w6 wq g er U U.reqs.length) (he : er = 0 ∨ (er = 131 ∧ U.e = 131)) :
    Calls Tryd.prog 26 #[.pointer (some ⟨g, 0, none⟩)] wq fun e w' => e = .returned (.tuple #[.slice none 0 0, .int .i64 U.e]) ∧ Only g wq w' ∧ RdRest w' (g + 1) g U.left U.e := by
  obtain ⟨l, hr, ht, hl⟩ := h.rd
  rw [List.drop_length] at ht
  obtain ⟨hp, hle⟩ := told_nil ht
  rcases he with rfl | ⟨rfl, hue⟩
  · refine (next_any wq (g + 1) g l hr (by omega)).mono ?_
    intro e w' hs
    rw [hp] at hs
    obtain ⟨ho, rfl, hr'⟩ := hs
    refine ⟨rfl, ho, ?_⟩
    rw [hle]
    rcases parse_none hp with h1 | ⟨h1, _⟩
    · rw [h1] at hr' ⊢
      exact ⟨0, hr', .inl ⟨rfl, rfl⟩⟩
    · rw [h1] at hr' ⊢
      exact ⟨131, hr', .inr ⟨rfl, rfl⟩⟩
  · refine (next_ended wq (g + 1) g l 131 (by decide) hr).mono ?_
    rintro e w' ⟨rfl, he⟩
    rw [hue, hle]
    exact ⟨rfl, Only.of_ext he, 131, hr.ext he, .inr ⟨rfl, rfl⟩⟩
set_option maxRecDepth 100000 in
set_option maxHeartbeats 8000000 in
theorem law_reads (w : World) (q : Option Addr) (c : Nat) (pss : List (List UInt8)) (hp : PiecesAt w q pss) (hz : ∀ p ∈ pss, p.length ≤ 9223372036854770000) (hpw : Pow w) :
    Calls Tryd.prog 6 #[.slice q pss.length c] w fun e w' => e = .returned (.bool true) ∧ Ext w w' := by
  have HP := Lib.hid hp
  have HZ := Lib.hid hz
  have HW := Lib.hid (fun W (hW : Ext w W) => works_any W (hpw.ext hW))
  clear hp hz hpw
  go_enter Tryd.func6, Tryd.ntmps6
  go_wp2_with fail
  go_loop [3, 4] (fun v3 v4 => ∃ n k : Nat, v3 = .int .i64 n ∧ v4 = .int .i64 k ∧ k ≤ pss.length ∧ 5 * k ≤ n ∧ n ≤ 9223372036854774000 ∧ Hid (bulkP (pss.take k) = n)) (fun _ v4 => pss.length - (intOf v4).toNat)
  case atStart => exact ⟨0, 0, rfl, rfl, Nat.zero_le _, by omega, by omega, Lib.hid rfl⟩
  case round =>
    obtain ⟨n, k, rfl, rfl, hk, hk5, hn, HN⟩ := hrel
    by_cases hlt : k < pss.length
    · by_cases hn3 : n ≤ 3000
      · obtain ⟨b, o, hq, hx⟩ := HP.out (by omega)
        obtain ⟨qi, ci, ck, _⟩ := hx k hlt
        have hs : (pss[k]).length ≤ 9223372036854770000 := HZ.out _ (List.getElem_mem hlt)
        have BN := Lib.hid (bulkP_next pss k hlt)
        generalize (pss[k]).length = s at ck hs BN
        subst hq
        have k0 : (0 : Int) ≤ (k : Int) := by omega
        have k1 : (k : Int) < (pss.length : Int) := by omega
        have d1 : decide ((k : Int) < (pss.length : Int)) = true := decide_eq_true k1
        have d2 : decide ((n : Int) ≤ 3000) = true := decide_eq_true (by omega)
        clear hx HP
        go_wp2_with fail
        go_round
        case rel => exact ⟨n + 5 + s, k + 1, by first | rfl | go_num, by go_num, by omega, by omega, by omega, Lib.hid (by rw [BN.out, HN.out])⟩
        case measure => simp [intOf]; omega
      · have d1 : decide ((k : Int) < (pss.length : Int)) = true := decide_eq_true (by omega)
        have d2 : decide ((n : Int) ≤ 3000) = false := decide_eq_false (by omega)
        have d3 : decide ((3000 : Int) < (n : Int)) = true := decide_eq_true (by omega)
        have d3n : decide (3000 < n) = true := decide_eq_true (by omega)
        go_wp2_with fail
        refine (HW.out w (Ext.refl w)).mono ?_
        rintro e w9 ⟨rfl, e9⟩
        have HE9 := Lib.hid e9
        clear e9
        go_wp2_with fail
        go_ret
        exact ⟨rfl, HE9.out⟩
    · obtain rfl : k = pss.length := by omega
      have hb := HN.out
      rw [List.take_length] at hb
      by_cases hn3 : n ≤ 3000
      · have HB3 : Hid (bulkP pss ≤ 3000) := Lib.hid (by omega)
        have hB6 : pss.length ≤ 600 := by omega
        have d2 : decide ((n : Int) ≤ 3000) = true := decide_eq_true (by omega)
        have d3 : decide ((3000 : Int) < (n : Int)) = false := decide_eq_false (by omega)
        have d3n : decide (3000 < n) = false := decide_eq_false (by omega)
        clear hb HN
        go_wp2_with fail
        refine (new_reader w).mono ?_
        rintro e w1 ⟨rfl, r1, e1⟩
        have HE1 := Lib.hid e1
        have HR1 := Lib.hid r1
        clear e1 r1 d2 d3 d3n hn3 hn hk hk5
        go_wp2_with fail
        obtain ⟨g, hg⟩ : ∃ g, w.heap.size = g := ⟨_, rfl⟩
        rw [hg] at HR1 ⊢
        have HGG := Lib.hid hg
        clear hg
        have HI0 : Hid (toldS [] = ⟨[], 130, []⟩) := Lib.hid (told_err rfl)
        go_loopw [6, 7, 8] (fun v6 v7 v8 wr => ∃ (S : ByteArray) (a i : Nat), v6 = .string S ∧ v7 = .int .i64 a ∧ v8 = .int .i64 i ∧ i ≤ pss.length ∧ a ≤ 100000 ∧ S.size ≤ 3000 ∧ Hid (S.data.toList = (pss.take i).flatten) ∧ Hid (a = (toldS S.data.toList).reqs.length) ∧ Hid (Ext w wr) ∧ Hid (RdRest wr (g + 1) g (toldS S.data.toList).left (toldS S.data.toList).e)) (fun _ _ v8 _ => pss.length - (intOf v8).toNat)
        case atStart =>
          have e0 : (⟨#[]⟩ : ByteArray).data.toList = [] := rfl
          refine ⟨⟨#[]⟩, 0, 0, rfl, rfl, rfl, Nat.zero_le _, by omega, by decide, Lib.hid (by simp), Lib.hid ?_, HE1, Lib.hid ?_⟩
          · rw [e0, HI0.out]; rfl
          · rw [e0, HI0.out]; exact ⟨0, HR1.out, .inl ⟨rfl, rfl⟩⟩
        case round =>
          obtain ⟨S, a, i, rfl, rfl, rfl, hi, ha, hS, HSF, HA, HE, HRR⟩ := hrel
          clear HI0 HR1 HE1
          obtain ⟨wo, rfl⟩ : ∃ wo : World, wo = wr := ⟨_, rfl⟩
          by_cases hlt : i < pss.length
          · obtain ⟨pb, po, hq, hx⟩ := HP.out (by omega)
            obtain ⟨qi, ci, ck, hpv⟩ := hx i hlt
            have HCK := Lib.hid ck
            have FN := Lib.hid (flat_next pss i hlt)
            have BN := bulkP_next pss i hlt
            have BT := bulkP_take pss (i + 1)
            have SZ : S.size = (pss.take i).flatten.length := by rw [← HSF.out]; rfl
            have SL := flat_len (pss.take i)
            have HB3' := HB3.out
            obtain ⟨m, hm⟩ : ∃ m, pss[i] = m := ⟨_, rfl⟩
            rw [hm] at HCK FN BN hpv ck
            have HPV := Lib.hid hpv
            have hml : S.size + m.length ≤ 3000 := by omega
            have ck := HE.out.cell HCK.out
            obtain ⟨v3, w3, hr3, ho3, hg3, _⟩ := append_piece (wo.alloc (.cells #[] 5)) 25 wo.heap.size _ [] (empty_own wo) qi ci m ((hpv.ext HE.out).ext ((Ext.refl wo).alloc _)) (by simp; omega) (by rw [size_alloc]; omega)
            have E3 : Ext wo w3 := Ext.grown ((Ext.refl wo).alloc (.cells #[] 5)) hg3 (fun x hx => ((empty_own wo).lt x hx).1)
            simp only [List.nil_append, List.length_nil] at hr3 ho3
            obtain ⟨q3, c3, hv3, hb3, _⟩ := own_bytes ho3
            subst hv3
            obtain ⟨er, hrd, hcase⟩ := HRR.out
            obtain ⟨vr, hbr, hor⟩ := hrd.ex
            have hTL := (told_left ((S.data.toList).length + 1) S.data.toList (Nat.lt_succ_self _))
            have HTL := Lib.hid hTL
            have hST : S.data.toList.length = S.size := rfl
            have hF := feed_row w3 (g + 1) g vr (toldS S.data.toList).left m er q3 c3 (hbr.ext E3) (own_ext hor E3) (by omega) (Nat.le_trans hrd.hb E3.le) hb3 (by have := hTL.2; omega)
            have HF := Lib.hid hF
            have HIS := Lib.hid (fun w4 v4 (h : FeedR w3 (g + 1) g vr ((toldS S.data.toList).left ++ m) er w4 v4) => in_start HGG.out HE.out E3 hor ho3 hrd.hb h)
            have HR3 := Lib.hid hr3
            have HCASE := Lib.hid hcase
            have k0 : (0 : Int) ≤ (i : Int) := by omega
            have k1 : (i : Int) < (pss.length : Int) := by omega
            have d1 : decide ((i : Int) < (pss.length : Int)) = true := decide_eq_true k1
            have d1n : decide (i < pss.length) = true := decide_eq_true hlt
            have hpb : pb < wo.heap.size := cell_lt ck
            have hpbn : ¬ pb = wo.heap.size := by omega
            clear hx hm hpv BN BT SZ SL HB3' hr3 ho3 hg3 E3 hb3 hbr hor hF hcase hTL hST HRR
            subst hq
            go_wp2_with (at_builtin; refine wpList_append_run rfl _ _ 25 rfl _ _ _ _ rfl rfl HR3.out ?_)
            refine HF.out.mono ?_
            rintro e w4 ⟨rfl, v4, hf⟩
            obtain ⟨gm, hgm, hin⟩ := HIS.out w4 v4 hf
            have HGM := Lib.hid hgm
            have HIN := Lib.hid hin
            clear hf hgm hin HF HIS HR3 ck hpb hpbn hrd
            go_wp2_with fail
            clear d1 d1n
            go_loopw [11] (fun v11 wq => ∃ k : Nat, v11 = .int .i64 k ∧ k ≤ m.length ∧ Hid (InLoop w wq g gm ((toldS S.data.toList).left ++ m) er m.length)) (fun v11 _ => m.length - (intOf v11).toNat)
            case atStart => exact ⟨0, rfl, Nat.zero_le _, HIN⟩
            case round =>
              obtain ⟨k, rfl, hk, HK⟩ := hrel
              clear HIN
              by_cases hkm : k < m.length
              · obtain ⟨cap, hv3⟩ := HGM.out (by omega)
                injection hv3 with hq3 _ hc3
                subst hq3 hc3
                have hb := (HK.out.bytes (by omega)).1
                obtain ⟨cs, hbk, hcs⟩ := hb
                obtain ⟨z, hzk⟩ := hcs k hkm
                have ckk : wr.cell? ⟨gm, k, none⟩ = some (.int .u8 z) := (hbk.cell k).trans hzk
                have zkk := hbk.frozen k
                have j0 : (0 : Int) ≤ (k : Int) := by omega
                have j1 : (k : Int) < (m.length : Int) := by omega
                have d1 : decide ((k : Int) < (m.length : Int)) = true := decide_eq_true j1
                have d1n : decide (k < m.length) = true := decide_eq_true hkm
                have HNX := Lib.hid (fun z => HK.out.set (by omega) k z)
                clear hbk hcs hzk HK
                go_wp2_with fail
                go_roundw
                case rel => exact ⟨k + 1, by go_num, by omega, Lib.hid (HNX.out _)⟩
                case measure => simp [intOf]; omega
              · have d1 : decide ((k : Int) < (m.length : Int)) = false := decide_eq_false (by omega)
                have d1n : decide (k < m.length) = false := decide_eq_false hkm
                obtain ⟨wb, rfl⟩ : ∃ wb : World, wb = wr := ⟨_, rfl⟩
                have HKR := Lib.hid HK.out.rd
                have HKE := Lib.hid HK.out.ext
                have ck := HKE.out.cell HCK.out
                have cv := conv_piece (HPV.out.ext HKE.out)
                obtain ⟨P, hP⟩ : ∃ P : ByteArray, (⟨m.toArray⟩ : ByteArray) = P := ⟨_, rfl⟩
                have hPl : P.data.toList = m := by rw [← hP]
                have hPs : P.size = m.length := by rw [← hPl]; rfl
                rw [hP] at cv
                have HPL := Lib.hid hPl
                have a1 : ¬ 9223372036854775807 < S.size + P.size := by omega
                have HSP : Hid ((S ++ P).size ≤ 3000) := Lib.hid (by rw [app_size]; omega)
                clear hP hPl hPs HK HGM
                go_wp2_with fail
                refine (told_any wb (S ++ P) (by have := HSP.out; omega)).mono ?_
                rintro e w6 ⟨v12, rfl, e6, l12⟩
                obtain ⟨U, hU⟩ : ∃ U, toldS ((toldS S.data.toList).left ++ m) = U := ⟨_, rfl⟩
                have hT : toldS (S ++ P).data.toList = ⟨(toldS S.data.toList).reqs ++ U.reqs, U.e, U.left⟩ := by
                  rw [app_list, HPL.out, told_more m (S.data.toList.length + 1) S.data.toList (Nat.lt_succ_self _), hU]
                have HT := Lib.hid hT
                have hUE : er = 0 ∨ (er = 131 ∧ U.e = 131 ∧ U.reqs = []) := by
                  rcases HCASE.out with ⟨h1, _⟩ | ⟨h1, h2⟩
                  · exact .inl h1
                  · have h3 := HTL.out.1
                    rw [h2] at h3
                    rcases parse_none h3 with h4 | ⟨_, h4⟩
                    · exact absurd h4 (by decide)
                    · have h5 := told_err (h4 m)
                      rw [hU] at h5
                      exact .inr ⟨h1, by rw [h5], by rw [h5]⟩
                have HUE := Lib.hid hUE
                have HN0 : Hid (NxAt w6 w6 g er U 0) := Lib.hid ⟨Only.refl g w6, _, HKR.out.ext e6, by rw [List.drop_zero, hU], by
                  have h1 := HTL.out.2
                  have h2 := hml
                  have h3 : S.data.toList.length = S.size := rfl
                  rw [List.length_append]; omega⟩
                rw [hT] at l12 ⊢
                simp only at l12 ⊢
                have HE6 := Lib.hid (HKE.out.trans e6)
                have hbg : g < wb.heap.size := HKR.out.hb
                have hAl := HA.out
                obtain ⟨A, hA⟩ : ∃ A, (toldS S.data.toList).reqs = A := ⟨_, rfl⟩
                rw [hA] at l12 hAl HT
                have HL12 := Lib.hid l12
                obtain ⟨q12, c12, hv12, _⟩ := l12
                obtain ⟨K, hK⟩ : ∃ K, (A ++ U.reqs).length = K := ⟨_, rfl⟩
                rw [hK] at hv12
                subst hv12
                have hKa : K = a + U.reqs.length := by rw [← hK, List.length_append, hAl]
                have HAL := Lib.hid hAl
                have HKA := Lib.hid hKa
                clear hKa
                have hUl : U.reqs.length ≤ 100000 := by
                  have h1 := told_many (((toldS S.data.toList).left ++ m).length + 1) ((toldS S.data.toList).left ++ m) (Nat.lt_succ_self _)
                  rw [hU, List.length_append] at h1
                  have h2 := HTL.out.2
                  have h3 : S.data.toList.length = S.size := rfl
                  omega
                clear hU hT hUE e6 hA hAl hK HKR HKE HTL HCASE HA ck cv a1
                go_wp2_with fail
                clear d1 d1n
                go_loopw [7] (fun v7 wq => ∃ j : Nat, v7 = .int .i64 ((a + j : Nat) : Int) ∧ j ≤ U.reqs.length ∧ Hid (NxAt w6 wq g er U j)) (fun v7 _ => K - (intOf v7).toNat)
                case atStart => exact ⟨0, by go_num, Nat.zero_le _, HN0⟩
                case round =>
                  obtain ⟨j, rfl, hj, HJ⟩ := hrel
                  clear HN0
                  obtain ⟨wn, rfl⟩ : ∃ wn : World, wn = wr := ⟨_, rfl⟩
                  obtain ⟨aj, haj⟩ : ∃ aj, a + j = aj := ⟨_, rfl⟩
                  rw [haj]
                  have haj2 : aj ≤ 300000 := by omega
                  by_cases hjl : j < U.reqs.length
                  · have hlt2 : aj < K := by have := HKA.out; omega
                    have er0 : er = 0 := by
                      rcases HUE.out with h1 | ⟨_, _, h1⟩
                      · exact h1
                      · rw [h1] at hjl; simp at hjl
                    subst er0
                    have HNX := Lib.hid (nx_next HJ.out hjl)
                    have HLL := Lib.hid (HL12.out.only HJ.out.only hbg)
                    have d1 : decide ((aj : Int) < (K : Int)) = true := decide_eq_true (by omega)
                    have d1n : decide (aj < K) = true := decide_eq_true hlt2
                    have j0 : (0 : Int) ≤ (aj : Int) := by omega
                    have j1 : (aj : Int) < (K : Int) := by omega
                    have HX : Hid (∃ hh : aj < (A ++ U.reqs).length, (A ++ U.reqs)[aj] = U.reqs[j]) := Lib.hid (by
                      have h1 := HAL.out
                      subst haj
                      refine ⟨by rw [List.length_append]; omega, ?_⟩
                      rw [List.getElem_append_right (by omega)]
                      congr 1
                      omega)
                    have HHAJ := Lib.hid haj
                    generalize U.reqs[j] = rq at HNX HX
                    clear haj
                    go_wp2_with fail
                    refine HNX.out.mono ?_
                    rintro e w7 ⟨v14, rfl, t14, o7, n7⟩
                    obtain ⟨hh, hrq⟩ := HX.out
                    obtain ⟨q0, c0, e0, hx0⟩ := HLL.out.only o7 hbg
                    obtain ⟨b, o, hq0, _, hx1⟩ := hx0 (by omega)
                    obtain ⟨vi, h1, h2, h3⟩ := hx1 aj hh
                    rw [hrq] at h2 h3
                    injection e0 with e1 e2 e3
                    subst e1
                    subst hq0
                    have hO := one_any' w7 v14 vi rq rq t14 (h2.tx (by omega))
                    rw [show sameT rq rq = true from decide_eq_true rfl] at hO
                    obtain ⟨qv, cv, hvi, _⟩ := h2
                    subst hvi
                    have HO := Lib.hid hO
                    have HN7 := Lib.hid n7
                    clear t14 o7 n7 hx0 hx1 hh hrq hO h3 e2 e3 HX HNX HLL
                    go_wp2_with (go_at_call 16; refine (num_any _ _).mono ?_; rintro e w' ⟨rfl, rfl⟩)
                    refine HO.out.mono ?_
                    rintro e w8 ⟨rfl, e8⟩
                    have HN8 : Hid (NxAt w6 w8 g 0 U (j + 1)) := Lib.hid (by
                      obtain ⟨l9, r9, t9, b9⟩ := HN7.out.rd
                      exact ⟨HN7.out.only.ext e8, l9, r9.ext e8, t9, b9⟩)
                    clear e8 HO HN7 h1
                    go_wp2_with fail
                    go_roundw
                    case rel => exact ⟨j + 1, int_eq (by have := HHAJ.out; omega), by omega, HN8⟩
                    case measure => have := HKA.out; have := HHAJ.out; simp [intOf]; omega
                  · obtain rfl : j = U.reqs.length := by omega
                    have HLX := Lib.hid (nx_last HJ.out (HUE.out.imp id (fun h => ⟨h.1, h.2.1⟩)))
                    have d1 : decide ((aj : Int) < (K : Int)) = false := decide_eq_false (by have := HKA.out; omega)
                    have d1n : decide (aj < K) = false := decide_eq_false (by have := HKA.out; omega)
                    have HHAJ := Lib.hid haj
                    clear haj
                    go_wp2_with fail
                    refine HLX.out.mono ?_
                    rintro e w9 ⟨rfl, o9, r9⟩
                    have HO9 := Lib.hid (HJ.out.only.trans o9)
                    have HR9 := Lib.hid r9
                    clear o9 r9 HLX
                    go_wp2_with (go_at_call 16; refine (num_any _ _).mono ?_; rintro e w' ⟨rfl, rfl⟩)
                    go_roundw
                    case rel =>
                      have haj3 : aj ≤ 100000 := by
                        have h1 := told_many ((S ++ P).data.toList.length + 1) (S ++ P).data.toList (Nat.lt_succ_self _)
                        have h2 : (S ++ P).data.toList.length = (S ++ P).size := rfl
                        have h3 := HSP.out
                        rw [HT.out] at h1
                        have h4 : (A ++ U.reqs).length ≤ (S ++ P).data.toList.length := h1
                        rw [List.length_append] at h4
                        have h5 := HAL.out
                        have h6 := HHAJ.out
                        omega
                      refine ⟨S ++ P, aj, i + 1, rfl, rfl, by go_num, by omega, haj3, HSP.out, Lib.hid ?_, Lib.hid ?_, Lib.hid ?_, Lib.hid ?_⟩
                      · rw [app_list, HSF.out, HPL.out, FN.out]
                      · rw [HT.out]
                        have h1 := HAL.out
                        have h2 := HHAJ.out
                        show aj = (A ++ U.reqs).length
                        rw [List.length_append]
                        omega
                      · exact Only.to_ext HO9.out HE6.out (by have := HGG.out; omega)
                      · rw [HT.out]
                        show RdRest w9 (g + 1) g U.left U.e
                        exact HR9.out
                    case measure => simp [intOf]; omega
          · have d1 : decide ((i : Int) < (pss.length : Int)) = false := decide_eq_false (by omega)
            have d1n : decide (i < pss.length) = false := decide_eq_false hlt
            go_wp2_with fail
            refine (HW.out wo HE.out).mono ?_
            rintro e w9 ⟨rfl, e9⟩
            have HE9 := Lib.hid (HE.out.trans e9)
            clear e9
            go_wp2_with fail
            go_ret
            exact ⟨rfl, HE9.out⟩
      · have d2 : decide ((n : Int) ≤ 3000) = false := decide_eq_false (by omega)
        have d3 : decide ((3000 : Int) < (n : Int)) = true := decide_eq_true (by omega)
        have d3n : decide (3000 < n) = true := decide_eq_true (by omega)
        clear hb HN
        go_wp2_with fail
        refine (HW.out w (Ext.refl w)).mono ?_
        rintro e w9 ⟨rfl, e9⟩
        have HE9 := Lib.hid e9
        clear e9
        go_wp2_with fail
        go_ret
        exact ⟨rfl, HE9.out⟩
end Go.Proofs.YtopdgmchkoaeeaaDoor
