/- The document's Level and may. -/
import Derived.Test.YtkbcnacjaakleaaGreatDoorYP06
import Derived.Test.YtkbcnacjaakleaaGreatDoorYP12
set_option maxRecDepth 100000
set_option maxHeartbeats 32000000
set_option linter.unusedVariables false
set_option linter.unusedSimpArgs false
namespace Go.Proofs.YtkbcnacjaakleaaGreatDoor
open Go.RowKit

def rlevP (t : List UInt8) : Int := if t = [111, 114] then 0 else if t = [97, 110, 100] then 1 else if t = [61, 61] then 2 else if t = [126, 61] then 2 else if t = [60] then 2 else if t = [60, 61] then 2 else if t = [62] then 2 else if t = [62, 61] then 2 else if t = [46, 46] then 3 else if t = [43] then 4 else if t = [45] then 4 else if t = [42] then 5 else if t = [47] then 5 else if t = [37] then 5 else -1
theorem rlevP_oper (t : List UInt8) : decide (rlevP t < 0) = !operB t := by
 by_cases h : t ∈ [[111, 114], [97, 110, 100], [61, 61], [126, 61], [60], [60, 61], [62], [62, 61], [46, 46], [43], [45], [42], [47], [37]]
 ·simp only [List.mem_cons, List.not_mem_nil, or_false] at h
  rcases h with rfl | rfl | rfl | rfl | rfl | rfl | rfl | rfl | rfl | rfl | rfl | rfl | rfl | rfl <;> decide
 ·have h1 : rlevP t = -1 := by
   simp only [List.mem_cons, List.not_mem_nil, or_false, not_or] at h
   obtain ⟨g0, g1, g2, g3, g4, g5, g6, g7, g8, g9, g10, g11, g12, g13⟩ := h
   unfold rlevP
   rw [if_neg g0, if_neg g1, if_neg g2, if_neg g3, if_neg g4, if_neg g5, if_neg g6, if_neg g7, if_neg g8, if_neg g9, if_neg g10, if_neg g11, if_neg g12, if_neg g13]
  have h2 : operB t = false := by
   cases hb : operB t with
   | false => rfl
   | true =>
    exfalso
    apply h
    unfold operB at hb
    rw [List.any_eq_true] at hb
    obtain ⟨m, hm, hc⟩ := hb
    have hc := List.contains_iff_mem.1 hc
    simp only [bondL, List.mem_cons, List.not_mem_nil, or_false] at hm
    rcases hm with rfl|rfl|rfl|rfl|rfl|rfl <;> simp only [List.mem_cons, List.not_mem_nil, or_false] at hc <;> (repeat' (rcases hc with rfl | hc)) <;> (first | decide | (subst hc; decide))
  rw [h1, h2]
  rfl
theorem rlevel_any (w : World) (s : ByteArray) : Calls Tryz.prog 77 #[.string s] w fun e w' => e = .returned (.int .i64 (rlevP s.data.toList)) ∧ w = w' := by
 obtain ⟨r, hr⟩ : ∃ r, rlevP s.data.toList = r := ⟨_, rfl⟩
 rw [hr]
 have HR := Lib.hid hr
 clear hr
 cases h0 : (s.toList == [111, 114]) with
 | true =>
  have hv : r = 0 := by
   have h : s.data.toList = [111, 114] := by rw [← Lib.toList_data]; exact beq_iff_eq.1 h0
   rw [← HR.out, h]; rfl
  subst hv
  clear HR
  go_enter Tryz.func77, Tryz.ntmps77
  go_wp2_with fail
  go_ret
  exact ⟨rfl, rfl⟩
 | false =>
  cases h1 : (s.toList == [97, 110, 100]) with
  | true =>
   have hv : r = 1 := by
    have h : s.data.toList = [97, 110, 100] := by rw [← Lib.toList_data]; exact beq_iff_eq.1 h1
    rw [← HR.out, h]; rfl
   subst hv
   clear HR
   go_enter Tryz.func77, Tryz.ntmps77
   go_wp2_with fail
   go_ret
   exact ⟨rfl, rfl⟩
  | false =>
   cases h2 : (s.toList == [61, 61]) with
   | true =>
    have hv : r = 2 := by
     have h : s.data.toList = [61, 61] := by rw [← Lib.toList_data]; exact beq_iff_eq.1 h2
     rw [← HR.out, h]; rfl
    subst hv
    clear HR
    go_enter Tryz.func77, Tryz.ntmps77
    go_wp2_with fail
    go_ret
    exact ⟨rfl, rfl⟩
   | false =>
    cases h3 : (s.toList == [126, 61]) with
    | true =>
     have hv : r = 2 := by
      have h : s.data.toList = [126, 61] := by rw [← Lib.toList_data]; exact beq_iff_eq.1 h3
      rw [← HR.out, h]; rfl
     subst hv
     clear HR
     go_enter Tryz.func77, Tryz.ntmps77
     go_wp2_with fail
     go_ret
     exact ⟨rfl, rfl⟩
    | false =>
     cases h4 : (s.toList == [60]) with
     | true =>
      have hv : r = 2 := by
       have h : s.data.toList = [60] := by rw [← Lib.toList_data]; exact beq_iff_eq.1 h4
       rw [← HR.out, h]; rfl
      subst hv
      clear HR
      go_enter Tryz.func77, Tryz.ntmps77
      go_wp2_with fail
      go_ret
      exact ⟨rfl, rfl⟩
     | false =>
      cases h5 : (s.toList == [60, 61]) with
      | true =>
       have hv : r = 2 := by
        have h : s.data.toList = [60, 61] := by rw [← Lib.toList_data]; exact beq_iff_eq.1 h5
        rw [← HR.out, h]; rfl
       subst hv
       clear HR
       go_enter Tryz.func77, Tryz.ntmps77
       go_wp2_with fail
       go_ret
       exact ⟨rfl, rfl⟩
      | false =>
       cases h6 : (s.toList == [62]) with
       | true =>
        have hv : r = 2 := by
         have h : s.data.toList = [62] := by rw [← Lib.toList_data]; exact beq_iff_eq.1 h6
         rw [← HR.out, h]; rfl
        subst hv
        clear HR
        go_enter Tryz.func77, Tryz.ntmps77
        go_wp2_with fail
        go_ret
        exact ⟨rfl, rfl⟩
       | false =>
        cases h7 : (s.toList == [62, 61]) with
        | true =>
         have hv : r = 2 := by
          have h : s.data.toList = [62, 61] := by rw [← Lib.toList_data]; exact beq_iff_eq.1 h7
          rw [← HR.out, h]; rfl
         subst hv
         clear HR
         go_enter Tryz.func77, Tryz.ntmps77
         go_wp2_with fail
         go_ret
         exact ⟨rfl, rfl⟩
        | false =>
         cases h8 : (s.toList == [46, 46]) with
         | true =>
          have hv : r = 3 := by
           have h : s.data.toList = [46, 46] := by rw [← Lib.toList_data]; exact beq_iff_eq.1 h8
           rw [← HR.out, h]; rfl
          subst hv
          clear HR
          go_enter Tryz.func77, Tryz.ntmps77
          go_wp2_with fail
          go_ret
          exact ⟨rfl, rfl⟩
         | false =>
          cases h9 : (s.toList == [43]) with
          | true =>
           have hv : r = 4 := by
            have h : s.data.toList = [43] := by rw [← Lib.toList_data]; exact beq_iff_eq.1 h9
            rw [← HR.out, h]; rfl
           subst hv
           clear HR
           go_enter Tryz.func77, Tryz.ntmps77
           go_wp2_with fail
           go_ret
           exact ⟨rfl, rfl⟩
          | false =>
           cases h10 : (s.toList == [45]) with
           | true =>
            have hv : r = 4 := by
             have h : s.data.toList = [45] := by rw [← Lib.toList_data]; exact beq_iff_eq.1 h10
             rw [← HR.out, h]; rfl
            subst hv
            clear HR
            go_enter Tryz.func77, Tryz.ntmps77
            go_wp2_with fail
            go_ret
            exact ⟨rfl, rfl⟩
           | false =>
            cases h11 : (s.toList == [42]) with
            | true =>
             have hv : r = 5 := by
              have h : s.data.toList = [42] := by rw [← Lib.toList_data]; exact beq_iff_eq.1 h11
              rw [← HR.out, h]; rfl
             subst hv
             clear HR
             go_enter Tryz.func77, Tryz.ntmps77
             go_wp2_with fail
             go_ret
             exact ⟨rfl, rfl⟩
            | false =>
             cases h12 : (s.toList == [47]) with
             | true =>
              have hv : r = 5 := by
               have h : s.data.toList = [47] := by rw [← Lib.toList_data]; exact beq_iff_eq.1 h12
               rw [← HR.out, h]; rfl
              subst hv
              clear HR
              go_enter Tryz.func77, Tryz.ntmps77
              go_wp2_with fail
              go_ret
              exact ⟨rfl, rfl⟩
             | false =>
              cases h13 : (s.toList == [37]) with
              | true =>
               have hv : r = 5 := by
                have h : s.data.toList = [37] := by rw [← Lib.toList_data]; exact beq_iff_eq.1 h13
                rw [← HR.out, h]; rfl
               subst hv
               clear HR
               go_enter Tryz.func77, Tryz.ntmps77
               go_wp2_with fail
               go_ret
               exact ⟨rfl, rfl⟩
              | false =>
               have hv : r = -1 := by
                rw [← HR.out, ← Lib.toList_data]
                unfold rlevP
                rw [if_neg (by have := beq_eq_false_iff_ne.1 h0; exact this), if_neg (by have := beq_eq_false_iff_ne.1 h1; exact this), if_neg (by have := beq_eq_false_iff_ne.1 h2; exact this), if_neg (by have := beq_eq_false_iff_ne.1 h3; exact this), if_neg (by have := beq_eq_false_iff_ne.1 h4; exact this), if_neg (by have := beq_eq_false_iff_ne.1 h5; exact this), if_neg (by have := beq_eq_false_iff_ne.1 h6; exact this), if_neg (by have := beq_eq_false_iff_ne.1 h7; exact this), if_neg (by have := beq_eq_false_iff_ne.1 h8; exact this), if_neg (by have := beq_eq_false_iff_ne.1 h9; exact this), if_neg (by have := beq_eq_false_iff_ne.1 h10; exact this), if_neg (by have := beq_eq_false_iff_ne.1 h11; exact this), if_neg (by have := beq_eq_false_iff_ne.1 h12; exact this), if_neg (by have := beq_eq_false_iff_ne.1 h13; exact this)]
               subst hv
               clear HR
               go_enter Tryz.func77, Tryz.ntmps77
               go_wp2_with fail
               go_ret
               exact ⟨rfl, rfl⟩
theorem rkids_all (w : World) (ok : Nat → Prop) (d : Nat) (k : Int) (a t : ByteArray) (n : Int) (q0 : Option Addr) (n0 c9 : Nat) (q : Option Addr) (c : Nat) (l : List Nd) (h : KidsAt ok w d (.slice q l.length c) l) (hl : l.length ≤ 140737488355328) (hs : ∀ x ∈ l, In64 x.k) (hk : 0 ≤ k ∧ k ≤ 24) :
  Calls Tryz.prog 75 #[.agg #[.int .i64 k, .string a, .string t, .int .i64 n, .slice q0 n0 c9, .slice q l.length c]] w fun e w' => e = .returned (.bool (rkidsP k n0 l)) ∧ Ext w w' := by
 rcases kinds_all hk.1 hk.2 with rfl|rfl|rfl|rfl|rfl|rfl|rfl|rfl|rfl|rfl|rfl|rfl|rfl|rfl|rfl|rfl|rfl|rfl|rfl|rfl|rfl|rfl|rfl|rfl|rfl
 ·exact rkids_0 w ok d a t n q0 n0 c9 q c l h hl hs
 ·exact rkids_1 w ok d a t n q0 n0 c9 q c l h hl hs
 ·exact rkids_2 w ok d a t n q0 n0 c9 q c l h hl hs
 ·exact rkids_3 w ok d a t n q0 n0 c9 q c l h hl hs
 ·exact rkids_4 w ok d a t n q0 n0 c9 q c l h hl hs
 ·exact rkids_5 w ok d a t n q0 n0 c9 q c l h hl hs
 ·exact rkids_6 w ok d a t n q0 n0 c9 q c l h hl hs
 ·exact rkids_7 w ok d a t n q0 n0 c9 q c l h hl hs
 ·exact rkids_8 w ok d a t n q0 n0 c9 q c l h hl hs
 ·exact rkids_9 w ok d a t n q0 n0 c9 q c l h hl hs
 ·exact rkids_10 w ok d a t n q0 n0 c9 q c l h hl hs
 ·exact rkids_11 w ok d a t n q0 n0 c9 q c l h hl hs
 ·exact rkids_12 w ok d a t n q0 n0 c9 q c l h hl hs
 ·exact rkids_13 w ok d a t n q0 n0 c9 q c l h hl hs
 ·exact rkids_14 w ok d a t n q0 n0 c9 q c l h hl hs
 ·exact rkids_15 w ok d a t n q0 n0 c9 q c l h hl hs
 ·exact rkids_16 w ok d a t n q0 n0 c9 q c l h hl hs
 ·exact rkids_17 w ok d a t n q0 n0 c9 q c l h hl hs
 ·exact rkids_18 w ok d a t n q0 n0 c9 q c l h hl hs
 ·exact rkids_19 w ok d a t n q0 n0 c9 q c l h hl hs
 ·exact rkids_20 w ok d a t n q0 n0 c9 q c l h hl hs
 ·exact rkids_21 w ok d a t n q0 n0 c9 q c l h hl hs
 ·exact rkids_22 w ok d a t n q0 n0 c9 q c l h hl hs
 ·exact rkids_23 w ok d a t n q0 n0 c9 q c l h hl hs
 ·exact rkids_24 w ok d a t n q0 n0 c9 q c l h hl hs
theorem rmayN_eq (x : Nd) : rmayN x = (rnodeP x.k x.name x.text x.n x.names x.kids && rmayL x.kids) := by cases x; rfl
theorem rmayL_drop (l : List Nd) (k : Nat) (hk : k < l.length) : rmayL (l.drop k) = (rmayN l[k] && rmayL (l.drop (k + 1))) := by
 rw [List.drop_eq_getElem_cons hk]; simp only [rmayL]
theorem ne_empty {s : ByteArray} (h : ¬ s = eB) : s.toList.isEmpty = false ∧ (s.toList == []) = false ∧ ¬ s.toList = [] ∧ (s == eB) = false := by
 have h2 : ¬ s.toList = [] := fun e => h (by
  obtain ⟨a⟩ := s
  rw [Lib.toList_data] at e
  have : a = #[] := by simpa using e
  rw [this])
 have h3 : (s.toList == []) = false := beq_eq_false_iff_ne.2 h2
 refine ⟨by cases hs : s.toList with | nil => exact absurd hs h2 | cons _ _ => rfl, h3, h2, ?_⟩
 have h4 : eB.toList = [] := by rw [Lib.toList_data]
 rw [ba_beq, h4]
 exact h3
end Go.Proofs.YtkbcnacjaakleaaGreatDoor
