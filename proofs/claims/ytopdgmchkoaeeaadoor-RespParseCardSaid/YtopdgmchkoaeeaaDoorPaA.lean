/- RespParse: the statement's walk. -/
import Derived.Test.YtopdgmchkoaeeaaDoorReD
namespace Go.Proofs.YtopdgmchkoaeeaaDoor
open Go.RowKit
set_option linter.unusedVariables false
set_option linter.unusedSimpArgs false

def pT (l : List UInt8) : List ByteArray := match parseS l with | .ok x => x.1 | .error _ => []
def pN (l : List UInt8) : Int := match parseS l with | .ok x => (x.2 : Int) | .error _ => 0
def pC (l : List UInt8) : Int := match parseS l with | .ok _ => 0 | .error c => c
theorem tx_none (w : World) : TxAt w (.slice none 0 0) [] := ⟨by simp, _, _, rfl, fun h => absurd h (by simp)⟩
theorem prs_of {w w' : World} {l : List UInt8} {e : Ending} (hs : ParseE w (parseS l) e w') : ∃ v, e = .returned (.tuple #[v, .int .i64 (pN l), .int .i64 (pC l)]) ∧ Ext w w' ∧ TxAt w' v (pT l) := by
  unfold pN pC pT
  cases hp : parseS l with
  | ok x =>
    rw [hp] at hs
    obtain ⟨v, rfl, ht, he⟩ := hs
    refine ⟨_, rfl, he, ht.tx ?_⟩
    cases hq : parseR l with
    | ok y =>
      obtain ⟨ts, r⟩ := y
      have h1 := parse_was hq
      rw [parseS_of hq] at hp
      injection hp with hp
      subst hp
      have := h1.2.2.1
      exact Nat.le_trans this (by decide)
    | error e => rw [parseS_err hq] at hp; cases hp
  | error c => rw [hp] at hs; exact ⟨_, hs.1, hs.2, tx_none _⟩
theorem bytes_cut {w : World} {q : Option Addr} {c : Nat} {l : List UInt8} (h : BytesAt w q c l) (n : Nat) (hn : n ≤ l.length) : BytesAt w q c (l.take n) := by
  have hr := h.room
  have hl := h.len
  refine ⟨fun k hk => ?_, by rw [List.length_take]; omega, h.slot, by rw [List.length_take]; omega⟩
  have hk' : k < l.length := by rw [List.length_take] at hk; omega
  obtain ⟨b, o, e, hc⟩ := h.bytes k hk'
  exact ⟨b, o, e, by rw [List.getElem_take]; exact hc⟩
set_option maxRecDepth 100000 in
set_option maxHeartbeats 4000000 in
theorem law_parse_many (w : World) (q : Option Addr) (c : Nat) (l : List UInt8) (h1 : 3000 < l.length) (hpw : Pow w) :
    Calls Tryd.prog 4 #[.slice q l.length c] w fun e w' => e = .returned (.bool true) ∧ Ext w w' := by
  have HW := Lib.hid (works_any w hpw)
  have d1 : decide ((3000 : Int) < (l.length : Int)) = true := decide_eq_true (by omega)
  clear hpw
  go_enter Tryd.func4, Tryd.ntmps4
  go_wp2_with fail
  refine HW.out.mono ?_
  rintro e w' ⟨rfl, he⟩
  have HE := Lib.hid he
  clear he
  go_wp2_with fail
  go_ret
  exact ⟨rfl, HE.out⟩
set_option maxRecDepth 100000 in
set_option maxHeartbeats 8000000 in
theorem law_parse_few (w : World) (q : Option Addr) (c : Nat) (l : List UInt8) (hb : BytesAt w q c l) (h1 : l.length ≤ 3000) (hpw : Pow w) :
    Calls Tryd.prog 4 #[.slice q l.length c] w fun e w' => e = .returned (.bool true) ∧ Ext w w' := by
  have d1 : decide ((3000 : Int) < (l.length : Int)) = false := decide_eq_false (by omega)
  obtain ⟨v3, w3, hr3, ho3, hg3⟩ := append_bytes (w.alloc (.cells #[] 5)) 25 w.heap.size _ [] (empty_own w) q c l (hb.ext ((Ext.refl w).alloc _)) (by simp; omega) (by rw [size_alloc]; omega)
  have E3 := Ext.grown ((Ext.refl w).alloc (.cells #[] 5)) hg3 (fun x hx => ((empty_own w).lt x hx).1)
  obtain ⟨v4, w4, hr4, ho4, hg4⟩ := append_bytes (w3.alloc (.cells #[.int .u8 77] 5)) 25 w.heap.size v3 l (own_ext ho3 ((Ext.refl w3).alloc _)) _ _ [77] (byte_new w3 77) (by simp; omega) (by rw [size_alloc]; have := E3.le; omega)
  have E4 : Ext w w4 := Ext.grown (E3.alloc (.cells #[.int .u8 77] 5)) hg4 (fun x hx => (ho3.lt x hx).1)
  obtain ⟨q3, c3, hv3, _⟩ := own_bytes ho3
  obtain ⟨q4, c4, hv4, hb4, _⟩ := own_bytes ho4
  obtain ⟨g4, c4', hv4', _, _⟩ := ho4.form (by simp)
  rw [hv4] at hv4'
  injection hv4' with hq4 _ hc4
  subst hq4 hc4
  subst hv3 hv4
  have hl4 : (l ++ [77]).length = l.length + 1 := by simp
  have hroom := hb4.room.1
  rw [hl4] at hr4 hroom
  have hlast : w4.cell? ⟨g4, l.length, none⟩ = some (.int .u8 77) := by
    obtain ⟨b, o, e, hc⟩ := hb4.bytes l.length (by simp)
    cases e
    simpa using hc
  have hbm : BytesAt w4 (some ⟨g4, 0, none⟩) c4 l := by
    have h9 := bytes_cut hb4 l.length (by simp)
    rwa [List.take_left] at h9
  have HR3 := Lib.hid hr3
  have HR4 := Lib.hid hr4
  have HE4 := Lib.hid E4
  have HBM := Lib.hid hbm
  have HB := Lib.hid hb
  have HP := Lib.hid hpw
  have HLAST := Lib.hid hlast
  have HSZ : Hid ((⟨l.toArray⟩ : ByteArray).size ≤ 9223372036854775000) := Lib.hid (by show l.toArray.size ≤ _; simp; omega)
  have k0 : (0 : Int) ≤ (l.length : Int) := by omega
  have k1 : (l.length : Int) ≤ (c4 : Int) := by omega
  have k2 : (l.length : Int) + 1 ≤ (c4 : Int) := by omega
  clear hb hpw hr3 ho3 hg3 E3 hr4 ho4 hg4 E4 hb4 hl4 hroom hlast hbm
  go_enter Tryd.func4, Tryd.ntmps4
  go_wp2_with (first | (at_builtin; refine wpList_append_run rfl _ _ 25 rfl _ _ _ _ rfl rfl HR3.out ?_) | (at_builtin; refine wpList_append_run rfl _ _ 25 rfl _ _ _ _ rfl rfl HR4.out ?_))
  clear HR3 HR4
  refine (parse_any w4 (some ⟨g4, 0, none⟩) c4 l HBM.out).mono ?_
  intro e w5 h5
  obtain ⟨v5, rfl, e5, t5⟩ := prs_of h5
  have HE45 := Lib.hid e5
  have HE5 := Lib.hid (HE4.out.trans e5)
  have HT5 := Lib.hid t5
  have cv1 := conv_any (HB.out.ext HE5.out)
  clear h5 e5 t5
  go_wp2_with fail
  have hP : Calls Tryd.prog 19 #[.string ⟨l.toArray⟩] w5 (ParseE w5 (parseS l)) := rparse_any w5 ⟨l.toArray⟩ HSZ.out
  refine hP.mono ?_
  intro e w6 h6
  obtain ⟨v6, rfl, e6, t6⟩ := prs_of h6
  have HE46 := Lib.hid (HE45.out.trans e6)
  have HE6 := Lib.hid (HE5.out.trans e6)
  have hO := one_any' w6 v5 v6 (pT l) (pT l) (HT5.out.ext e6) t6
  rw [show sameT (pT l) (pT l) = true from decide_eq_true rfl] at hO
  have HO := Lib.hid hO
  clear hO hP h6 e6 t6 cv1 HT5 HE45 HE5
  generalize pN l = PN
  generalize pC l = PC
  go_wp2_with fail
  refine HO.out.mono ?_
  rintro e w7 ⟨rfl, e7⟩
  have HE7 := Lib.hid (HE6.out.trans e7)
  have cv1 := conv_any (HB.out.ext HE7.out)
  have cv2 := conv_any (HBM.out.ext (HE46.out.trans e7))
  have cl := (HE46.out.trans e7).cell HLAST.out
  have HW := Lib.hid (works_any w7 (HP.out.ext HE7.out))
  clear e7 HO
  generalize (⟨l.toArray⟩ : ByteArray) = S at cv1 cv2 ⊢
  go_wp2_with (go_at_call 16; refine (num_any _ _).mono ?_; rintro e w' ⟨rfl, rfl⟩)
  refine HW.out.mono ?_
  rintro e w8 ⟨rfl, e8⟩
  have HE8 := Lib.hid (HE7.out.trans e8)
  clear e8
  go_wp2_with fail
  go_ret
  exact ⟨rfl, HE8.out⟩
theorem law_parse (w : World) (q : Option Addr) (c : Nat) (l : List UInt8) (hb : BytesAt w q c l) (hpw : Pow w) :
    Calls Tryd.prog 4 #[.slice q l.length c] w fun e w' => e = .returned (.bool true) ∧ Ext w w' := by
  by_cases h : 3000 < l.length
  · exact law_parse_many w q c l h hpw
  · exact law_parse_few w q c l hb (by omega) hpw
end Go.Proofs.YtopdgmchkoaeeaaDoor
