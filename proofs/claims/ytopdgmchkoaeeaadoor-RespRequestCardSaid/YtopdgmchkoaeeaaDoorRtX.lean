/- RespRequest: the statement's walk. -/
import Derived.Test.YtopdgmchkoaeeaaDoorRtW
import Derived.Test.YtopdgmchkoaeeaaDoorRtT
namespace Go.Proofs.YtopdgmchkoaeeaaDoor
open Go.RowKit
set_option linter.unusedVariables false
set_option linter.unusedSimpArgs false

theorem append_to_none {P : Program} (w : World) (base : Nat) (t ty e : TypeId) (i : TypeInfo) (size : Nat) (ht : P.underlying t = some (.slice e)) (hi : P.info? e = some i) (v : Value) (n : Nat) (xs : List Value) (ho : w.ownsRow base e size v n xs) (c : Nat) :
    (Builtin.append_ #[t, t] ty #[v, .slice none 0 c]).run P w = .ok v w := by
  obtain ⟨_, ⟨rfl, rfl⟩ | ⟨g, cap, cur, rfl, _, _, hn, _⟩⟩ := ho
  · simp [Builtin.append_, run_underlying ht, sizeOf, typeInfo, hi, Builtin.lenOf, Builtin.firstCells]
  · simp [Builtin.append_, run_underlying ht, sizeOf, typeInfo, hi, Builtin.lenOf, Builtin.firstCells, hn, storeCells]
theorem append_texts (w : World) (ty : TypeId) (base : Nat) (v : Value) (l : List ByteArray) (ho : w.ownsRow base 9 1 v l.length (l.map Value.string)) (q : Option Addr) (c : Nat) (m : List ByteArray) (hm : TxAt w (.slice q m.length c) m)
    (hlen : l.length + m.length ≤ 100000) (hbase : base ≤ w.heap.size) :
    ∃ v' w', (Builtin.append_ #[22, 22] ty #[v, .slice q m.length c]).run Tryd.prog w = .ok v' w' ∧ w'.ownsRow base 9 1 v' (l ++ m).length ((l ++ m).map Value.string) ∧ w.grownBy w' v.ownBlock := by
  obtain ⟨i0, hi, hz0, hz1, hz2⟩ := info_parts infoStr
  obtain ⟨_, q', c', e, hx⟩ := hm
  injection e with e1 e2 e3
  subst e1 e3
  have hone : ∀ u ∈ m.map Value.string, u.oneCell' = true := by
    intro u hu
    simp only [List.mem_map] at hu
    obtain ⟨s, _, rfl⟩ := hu
    rfl
  rcases Nat.eq_zero_or_pos m.length with h0 | h0
  · obtain rfl := List.eq_nil_of_length_eq_zero h0
    cases q with
    | none => exact ⟨v, w, append_to_none w base _ ty _ i0 1 Tryd.underlying22 hi v l.length _ ho c, by simpa using ho, World.grownBy.refl w _⟩
    | some a =>
      obtain ⟨v', w', h1, h2, h3, _⟩ := run_append_own (P := Tryd.prog) w base 22 ty 9 i0 (.string ⟨#[]⟩) 1 16 Tryd.underlying22 hi hz0 hz1 hz2 rfl (by omega) v l.length (l.map Value.string) ho a 0 c [] rfl (fun j u hu => by simp at hu) (fun u hu => by simp at hu) (by unfold maxLen; omega) (by omega) hbase
      exact ⟨v', w', h1, by simpa using h2, h3⟩
  · obtain ⟨b, o, hq, hy⟩ := hx h0
    subst hq
    obtain ⟨v', w', h1, h2, h3, _⟩ := run_append_own (P := Tryd.prog) w base 22 ty 9 i0 (.string ⟨#[]⟩) 1 16 Tryd.underlying22 hi hz0 hz1 hz2 rfl (by omega) v l.length (l.map Value.string) ho ⟨b, o, none⟩ m.length c (m.map Value.string) (by simp) (by
      intro j u hu
      have hj : j < m.length := by
        have := (List.getElem?_eq_some_iff.1 hu).1
        simpa using this
      have hadd : (⟨b, o, none⟩ : Addr).add j = ⟨b, o + j, none⟩ := by unfold Addr.add; split <;> simp_all
      rw [hadd, hy j hj, ← hu]
      simp [List.getElem?_map, List.getElem?_eq_getElem hj]) hone (by unfold maxLen; omega) (by omega) hbase
    exact ⟨v', w', h1, by rw [List.map_append, List.length_append]; exact h2, h3⟩
theorem own_texts {w : World} {base g cap : Nat} {l : List ByteArray} (h : w.ownsRow base 9 1 (.slice (some ⟨g, 0, none⟩) l.length cap) l.length (l.map Value.string)) : ∀ i (hi : i < l.length), w.cell? ⟨g, 0 + i, none⟩ = some (.string l[i]) := by
  intro i hi
  have h1 := World.ownsRow.cells h (g := g) rfl i (.string l[i]) (by simp [List.getElem?_map, List.getElem?_eq_getElem hi])
  have hadd : (⟨g, 0, none⟩ : Addr).add i = ⟨g, 0 + i, none⟩ := by unfold Addr.add; split <;> simp_all
  rwa [hadd] at h1
theorem tx_one (w : World) (a : ByteArray) : TxAt (w.alloc (.cells #[.string a] 9)) (.slice (some ⟨w.heap.size, 0, none⟩) 1 1) [a] := by
  refine ⟨by simp, _, _, rfl, fun _ => ⟨_, _, rfl, fun i hi => ?_⟩⟩
  have B := Blk.new w 9 #[.string a]
  obtain rfl : i = 0 := by simp at hi; omega
  exact B.cell 0
theorem empty_texts (w : World) : (w.alloc (.cells #[] 9)).ownsRow w.heap.size 9 1 (.slice (some ⟨w.heap.size, 0, none⟩) 0 0) ([] : List ByteArray).length (([] : List ByteArray).map Value.string) := World.ownsRow_lit w #[] 0 (Nat.le_refl _) (by unfold maxLen; omega) rfl
def wantS (ts : List ByteArray) : ByteArray := if ts.length = 0 then ⟨#[]⟩ else ⟨(reqB ts).toArray⟩
def wantE (ts : List ByteArray) : Int := if ts.length = 0 then 2 else 0
theorem req_want (w : World) (v : Value) (ts : List ByteArray) (h : TxAt w v ts) (hb : bulk ts ≤ 3000) (hpw : Pow w) :
    Calls Tryd.prog 14 #[v] w fun e w' => Ext w w' ∧ ∃ q n c, e = .returned (.tuple #[.slice q n c, .int .i64 (wantE ts)]) ∧ ∀ w2, Ext w' w2 → (convert 25 9 (.slice q n c)).run Tryd.prog w2 = .ok (.string (wantS ts)) w2 := by
  refine (req_any w v ts h hpw).mono ?_
  rintro e w' ⟨he, hif⟩
  refine ⟨he, ?_⟩
  unfold wantE wantS
  by_cases h0 : ts.length = 0
  · rw [if_neg (by rw [reqOk_iff]; exact fun h => by have := h.1; omega)] at hif
    rw [if_pos h0, if_pos h0]
    exact ⟨_, _, _, hif, fun w2 _ => conv_nil w2 0 0⟩
  · rw [if_pos ((reqOk_iff ts).2 ⟨by omega, by unfold bulk at hb; omega, by unfold bulk at hb; omega⟩)] at hif
    obtain ⟨v, rfl, q, c, rfl, hb, _⟩ := hif
    rw [if_neg h0, if_neg h0]
    exact ⟨_, _, _, rfl, fun w2 h2 => conv_any (hb.ext h2)⟩
theorem rreq_want (w : World) (v : Value) (ts : List ByteArray) (h : TxAt w v ts) (hb : bulk ts ≤ 3000) (hpw : Pow w) :
    Calls Tryd.prog 15 #[v] w fun e w' => e = .returned (.tuple #[.string (wantS ts), .int .i64 (wantE ts)]) ∧ Ext w w' := by
  refine (rreq_any w v ts h hb hpw).mono ?_
  rintro e w' ⟨he, rfl⟩
  refine ⟨?_, he⟩
  unfold wantE wantS
  by_cases h0 : ts.length = 0
  · rw [if_pos h0, if_pos h0, if_pos h0]
  · rw [if_neg h0, if_neg h0, if_neg h0]
def spare : ByteArray := ⟨#[115, 112, 97, 114, 101]⟩
set_option maxRecDepth 100000 in
set_option maxHeartbeats 4000000 in
theorem law_request_many (w : World) (v : Value) (ts : List ByteArray) (h : TxAt w v ts) (hz : ∀ s ∈ ts, s.size ≤ 9223372036854770000) (hb : fewB ts = false) (hpw : Pow w) :
    Calls Tryd.prog 3 #[v] w fun e w' => e = .returned (.bool true) ∧ Ext w w' := by
  have hF := few_any w v ts h hz
  rw [hb] at hF
  have HF := Lib.hid hF
  have HW := Lib.hid (works_any w hpw)
  obtain ⟨_, q, c, rfl, _⟩ := h
  clear hF hpw hb hz
  go_enter Tryd.func3, Tryd.ntmps3
  go_wp2_with fail
  refine HF.out.mono ?_
  rintro e w' ⟨rfl, rfl⟩
  go_wp2_with fail
  refine HW.out.mono ?_
  rintro e w' ⟨rfl, he⟩
  have HE := Lib.hid he
  clear he
  go_wp2_with fail
  go_ret
  exact ⟨rfl, HE.out⟩
set_option maxRecDepth 100000 in
set_option maxHeartbeats 4000000 in
theorem law_request_few (w : World) (v : Value) (ts : List ByteArray) (h : TxAt w v ts) (hz : ∀ s ∈ ts, s.size ≤ 9223372036854770000) (hb : fewB ts = true) (hpw : Pow w) :
    Calls Tryd.prog 3 #[v] w fun e w' => e = .returned (.bool true) ∧ Ext w w' := by
  have hF := few_any w v ts h hz
  rw [hb] at hF
  have HF := Lib.hid hF
  have hbulk : bulk ts ≤ 3000 := of_decide_eq_true hb
  have hlen : ts.length ≤ 600 := by unfold bulk at hbulk; omega
  have HT := Lib.hid h
  have HP := Lib.hid hpw
  have HBK := Lib.hid hbulk
  obtain ⟨q, c, hv⟩ : ∃ q c, v = .slice q ts.length c := ⟨_, _, h.2.choose_spec.choose_spec.1⟩
  subst hv
  obtain ⟨v3, w3, hr3, ho3, hg3⟩ := append_texts (w.alloc (.cells #[] 9)) 22 w.heap.size _ [] (empty_texts w) q c ts (h.ext ((Ext.refl w).alloc _)) (by simp; omega) (by rw [size_alloc]; omega)
  have E3 := Ext.grown ((Ext.refl w).alloc (.cells #[] 9)) hg3 (fun x hx => ((empty_texts w).lt x hx).1)
  obtain ⟨v4, w4, hr4, ho4, hg4⟩ := append_texts (w3.alloc (.cells #[.string spare] 9)) 22 w.heap.size v3 ts (own_ext ho3 ((Ext.refl w3).alloc _)) _ _ [spare] (tx_one w3 spare) (by simp; omega) (by rw [size_alloc]; have := E3.le; omega)
  have E4 : Ext w w4 := Ext.grown (E3.alloc (.cells #[.string spare] 9)) hg4 (fun x hx => (ho3.lt x hx).1)
  obtain ⟨q3, c3, hv3⟩ : ∃ q' c', v3 = .slice q' ts.length c' := by
    rcases ho3.2 with ⟨rfl, h0⟩ | ⟨g, cap, cur, rfl, _⟩
    · simp at h0; exact ⟨none, 0, by simp [h0]⟩
    · exact ⟨_, _, rfl⟩
  obtain ⟨g4, c4, hv4, hgb, hgl⟩ := ho4.form (by simp)
  subst hv3 hv4
  have hl4 : (ts ++ [spare]).length = ts.length + 1 := by simp
  rw [hl4] at ho4 hr4
  have hcell := own_texts (l := ts ++ [spare]) (by rw [hl4]; exact ho4)
  have hcap : ts.length + 1 ≤ c4 := by
    rcases ho4.2 with ⟨e, _⟩ | ⟨g, cap, cur, e, _, _, hnc, _⟩
    · cases e
    · injection e with _ _ e; omega
  have hTm : TxAt w4 (.slice (some ⟨g4, 0, none⟩) ts.length c4) ts := ⟨by omega, _, _, rfl, fun _ => ⟨_, _, rfl, fun i hi => by
    have h1 := hcell i (by simp; omega)
    rw [List.getElem_append_left hi] at h1
    exact h1⟩⟩
  have hsp : w4.cell? ⟨g4, ts.length, none⟩ = some (.string spare) := by
    have h1 := hcell ts.length (by simp)
    simpa using h1
  have HR3 := Lib.hid hr3
  have HR4 := Lib.hid hr4
  have HE4 := Lib.hid E4
  have HTM := Lib.hid hTm
  have HSP := Lib.hid hsp
  have HCQ := Lib.hid (req_want w4 _ ts hTm hbulk (hpw.ext E4))
  have k0 : (0 : Int) ≤ (ts.length : Int) := by omega
  have k1 : (ts.length : Int) ≤ (c4 : Int) := by omega
  have k2 : (ts.length : Int) + 1 ≤ (c4 : Int) := by omega
  clear h hz hb hpw hF hbulk hr3 ho3 hg3 E3 hr4 ho4 hg4 E4 hcell hTm hsp hl4
  go_enter Tryd.func3, Tryd.ntmps3
  go_wp2_with fail
  refine HF.out.mono ?_
  rintro e w' ⟨rfl, rfl⟩
  go_wp2_with (first | (at_builtin; refine wpList_append_run rfl _ _ 22 rfl _ _ _ _ rfl rfl HR3.out ?_) | (at_builtin; refine wpList_append_run rfl _ _ 22 rfl _ _ _ _ rfl rfl HR4.out ?_))
  refine HCQ.out.mono ?_
  rintro e w5 ⟨e5, qb, nb, cb, rfl, hconv⟩
  have HE5 := Lib.hid (HE4.out.trans e5)
  have HR := Lib.hid (rreq_want w5 _ ts (HT.out.ext (HE4.out.trans e5)) HBK.out (HP.out.ext (HE4.out.trans e5)))
  have HCV := Lib.hid hconv
  have HE45 := Lib.hid e5
  clear e5 hconv HCQ HR3 HR4
  go_wp2_with fail
  refine HR.out.mono ?_
  rintro e w6 ⟨rfl, e6⟩
  have hcv := HCV.out w6 e6
  have HE6 := Lib.hid (HE5.out.trans e6)
  have hsm : sameT ts ts = true := decide_eq_true rfl
  have hO := one_any' w6 _ _ ts ts (HTM.out.ext (HE45.out.trans e6)) (HT.out.ext (HE5.out.trans e6))
  rw [hsm] at hO
  have HO := Lib.hid hO
  have HE46 := Lib.hid (HE45.out.trans e6)
  clear e6 hO hsm HR HCV
  generalize wantE ts = E
  generalize wantS ts = S at hcv ⊢
  go_wp2_with (go_at_call 16; refine (num_any _ _).mono ?_; rintro e w' ⟨rfl, rfl⟩)
  refine HO.out.mono ?_
  rintro e w7 ⟨rfl, e7⟩
  have hs7 : w7.cell? ⟨g4, ts.length, none⟩ = some (.string ⟨#[115, 112, 97, 114, 101]⟩) := (HE46.out.trans e7).cell HSP.out
  have HE7 := Lib.hid (HE6.out.trans e7)
  have HW := Lib.hid (works_any w7 (HP.out.ext (HE6.out.trans e7)))
  clear hcv e7 HO
  go_wp2_with fail
  refine HW.out.mono ?_
  rintro e w8 ⟨rfl, e8⟩
  have HE8 := Lib.hid (HE7.out.trans e8)
  clear e8
  go_wp2_with fail
  go_ret
  exact ⟨rfl, HE8.out⟩
theorem law_request (w : World) (v : Value) (ts : List ByteArray) (h : TxAt w v ts) (hz : ∀ s ∈ ts, s.size ≤ 9223372036854770000) (hpw : Pow w) :
    Calls Tryd.prog 3 #[v] w fun e w' => e = .returned (.bool true) ∧ Ext w w' := by
  cases hb : fewB ts with
  | true => exact law_request_few w v ts h hz hb hpw
  | false => exact law_request_many w v ts h hz hb hpw
end Go.Proofs.YtopdgmchkoaeeaaDoor
