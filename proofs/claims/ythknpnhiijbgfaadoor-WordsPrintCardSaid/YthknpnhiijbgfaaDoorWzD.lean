/- Words: words as a text, in the document. -/
import Derived.Test.YthknpnhiijbgfaaDoorWzC
namespace Go.Proofs.YthknpnhiijbgfaaDoor
open Go.RowKit
set_option linter.unusedVariables false
set_option linter.unusedSimpArgs false

theorem join_snoc : ∀ (l : List Wd) (x : Wd), joinP (l ++ [x]) = if l.length = 0 then toldP x else joinP l ++ (32 :: toldP x)
  | [], x => rfl
  | [y], x => by simp [joinP]
  | y :: z :: l, x => by
    have ih := join_snoc (z :: l) x
    rw [if_neg (by simp)] at ih ⊢
    show toldP y ++ 32 :: joinP (z :: l ++ [x]) = _
    rw [ih]
    simp [joinP]
theorem join_take (ws : List Wd) (k : Nat) : (joinP (ws.take k)).length ≤ (joinP ws).length := by
  rw [join_sum, join_sum]
  have := sum_take ws k
  have h2 : (ws.take k).length ≤ ws.length := by rw [List.length_take]; omega
  omega
/-- An append of a text to bytes, whose run is known. -/
theorem wpList_append_run2 {P : Program} {w : World} {ops : Array Oper} {rest : List Oper} {o : Oper} {a : Act} {Q : Exit → Act → World → Prop} (hgd : o.guard = none) (s x : Operand) (t u : TypeId)
    (ho : o.op = .call { callee := .builtin .append, args := #[s, x], argTypes := #[t, u] }) (v x' v' : Value) (w' : World) (hs : a.eval s = v) (hx : a.eval x = x')
    (hrun : (Builtin.append_ #[t, u] o.type #[v, x']).run P w = .ok v' w') (h : wpList P ops Q rest (a.put o.dst v') w') : wpList P ops Q (o :: rest) a w := by
  refine wpList_plain hgd fun K hK => ?_
  unfold Oper.wp execOp
  simp only [ho, resolve, invoke, builtin, Sem.run_bind, Sem.run_pure, Result.andThen_ok, List.map_toArray, List.map_cons, List.map_nil, hs, hx, hrun]
  exact hK _ _ h
theorem app_text (w : World) (ty : TypeId) (B : Nat) (v : Value) (l : List UInt8) (s : ByteArray) (h : OwnB w B v l) (hB : B ≤ w.heap.size) (hlen : l.length + s.size ≤ 140737488355328) :
    ∃ v' w', (Builtin.append_ #[52, 9] ty #[v, .string s]).run Tryd.prog w = .ok v' w' ∧ AppB w B v (l ++ s.data.toList) w' v' := by
  obtain ⟨i0, hi, hz0, hz1, hz2⟩ := info_parts infoU8
  obtain ⟨v', w', h1, h2, h3, _⟩ := Lib.run_append_own_string (P := Tryd.prog) w B 52 9 ty 5 i0 Tryd.underlying52 Tryd.underlying9 hi hz0 hz1 hz2 v l.length (Lib.byteCells l) h s (by unfold maxLen; omega) (by omega) hB
  exact ⟨v', w', h1, by unfold OwnB; rw [Lib.byteCells_append, List.length_append]; exact h2, h3, own_block h⟩
set_option maxRecDepth 100000 in
set_option maxHeartbeats 2000000 in
theorem rprint_not (w : World) (v : Value) (ws : List Wd) (hv : WordsAt w v ws) (hlen : ws.length ≤ 1000000) (hm : ws.all mayP = false) :
    Calls Tryd.prog 20 #[v] w fun e w' => e = .returned (.tuple #[.string ⟨#[]⟩, .int .i64 2]) ∧ Ext w w' := by
  obtain ⟨q, c, rfl, hx⟩ := hv
  have HX := Lib.hid hx
  obtain ⟨n, hn⟩ : ∃ n, ws.length = n := ⟨_, rfl⟩
  rw [hn] at hlen ⊢
  have HN := Lib.hid hn
  have HM := Lib.hid hm
  clear hx hn hm
  go_enter Tryd.func20, Tryd.ntmps20
  go_wp2_with fail
  go_loopw [4] (fun i wr => ∃ k : Nat, k ≤ n ∧ i = .int .i64 k ∧ Hid ((ws.drop k).all mayP = false) ∧ Hid (Ext w wr)) (fun i _ => n - (intOf i).toNat)
  case atStart => exact ⟨0, Nat.zero_le _, rfl, HM, Lib.hid (Ext.refl w)⟩
  case round =>
    obtain ⟨k, hk, rfl, HK, HE⟩ := hrel
    by_cases hlt : k < n
    · have kl : k < ws.length := by rw [HN.out]; exact hlt
      obtain ⟨b, o, rfl, hx⟩ := HX.out (by omega)
      have hxk := hx k kl
      have hd := all_drop ws k kl
      rw [HK.out] at hd
      obtain ⟨x, hx'⟩ : ∃ x, ws[k] = x := ⟨_, rfl⟩
      rw [hx'] at hxk hd
      have cx0 := cell_of_ext hxk.1 HE.out
      have cx1 := cell_of_ext hxk.2.1 HE.out
      have cx2 := cell_of_ext hxk.2.2.1 HE.out
      have cx3 := cell_of_ext hxk.2.2.2 HE.out
      have lx := cell_lt0 cx0
      have k0 : (0 : Int) ≤ (k : Int) := by omega
      have k1 : (k : Int) < (n : Int) := by omega
      have HD := Lib.hid hd
      clear hx hxk hx' kl hd
      go_wp2_with fail
      refine (rmay_any _ x).mono ?_
      rintro e w1 ⟨rfl, he⟩
      have HE1 := Lib.hid (HE.out.trans he)
      clear he
      obtain ⟨m, hm⟩ : ∃ m, mayP x = m := ⟨_, rfl⟩
      rw [hm]
      have HMM := Lib.hid hm
      clear hm
      cases m
      · go_wp2_with fail
        go_ret2
        exact ⟨rfl, HE1.out⟩
      · have HD2 : Hid ((ws.drop (k + 1)).all mayP = false) := Lib.hid (by have h := HD.out; rw [HMM.out, Bool.true_and] at h; exact h.symm)
        go_wp2_with fail
        go_roundw
        case rel => exact ⟨k + 1, hlt, by go_num, HD2, HE1⟩
        case measure => simp [intOf]; omega
    · obtain rfl : k = n := by omega
      exfalso
      have h := HK.out
      rw [List.drop_eq_nil_of_le (by rw [HN.out]; exact Nat.le_refl _)] at h
      cases h
set_option maxRecDepth 100000 in
set_option maxHeartbeats 4000000 in
theorem rprint_any (w : World) (v : Value) (ws : List Wd) (hP : Pow w) (hv : WordsAt w v ws) (hlen : ws.length ≤ 1000000) (hm : ws.all mayP = true) (hi : ∀ x ∈ ws, x.n ≤ 9223372036854775807) (ht : ∀ x ∈ ws, x.t.length ≤ 1048576) (hj : (joinP ws).length ≤ 1048576) :
    Calls Tryd.prog 20 #[v] w fun e w' => e = .returned (.tuple #[.string ⟨(joinP ws).toArray⟩, .int .i64 0]) ∧ Ext w w' := by
  obtain ⟨q, c, rfl, hx⟩ := hv
  have HX := Lib.hid hx
  obtain ⟨n, hn⟩ : ∃ n, ws.length = n := ⟨_, rfl⟩
  rw [hn] at hlen ⊢
  have HN := Lib.hid hn
  have HM := Lib.hid hm
  have HI := Lib.hid hi
  have HT := Lib.hid ht
  have HP := Lib.hid hP
  have HJ := Lib.hid hj
  obtain ⟨i0, hif, hz0, hz1, hz2⟩ := info_parts infoU8
  have HIF := Lib.hid hif
  have HZ0 := Lib.hid hz0
  have HZ1 := Lib.hid hz1
  have HZ2 := Lib.hid hz2
  clear hx hn hm hi ht hP hj hif hz0 hz1 hz2
  go_enter Tryd.func20, Tryd.ntmps20
  go_wp2_with fail
  go_loopw [4] (fun i wr => ∃ k : Nat, k ≤ n ∧ i = .int .i64 k ∧ Hid (Ext w wr)) (fun i _ => n - (intOf i).toNat)
  case atStart => exact ⟨0, Nat.zero_le _, rfl, Lib.hid (Ext.refl w)⟩
  case round =>
    obtain ⟨k, hk, rfl, HE⟩ := hrel
    by_cases hlt : k < n
    · have kl : k < ws.length := by rw [HN.out]; exact hlt
      obtain ⟨b, o, rfl, hx⟩ := HX.out (by omega)
      have hxk := hx k kl
      have hma := List.all_eq_true.1 HM.out _ (List.getElem_mem kl)
      obtain ⟨x, hx'⟩ : ∃ x, ws[k] = x := ⟨_, rfl⟩
      rw [hx'] at hxk hma
      have cx0 := cell_of_ext hxk.1 HE.out
      have cx1 := cell_of_ext hxk.2.1 HE.out
      have cx2 := cell_of_ext hxk.2.2.1 HE.out
      have cx3 := cell_of_ext hxk.2.2.2 HE.out
      have lx := cell_lt0 cx0
      have k0 : (0 : Int) ≤ (k : Int) := by omega
      have k1 : (k : Int) < (n : Int) := by omega
      have HMA := Lib.hid hma
      clear hx hxk hx' kl hma
      go_wp2_with fail
      refine (rmay_any _ x).mono ?_
      rintro e w1 ⟨rfl, he⟩
      have HE1 := Lib.hid (HE.out.trans he)
      clear he
      rw [HMA.out]
      go_wp2_with fail
      go_roundw
      case rel => exact ⟨k + 1, hlt, by go_num, HE1⟩
      case measure => simp [intOf]; omega
    · obtain rfl : k = n := by omega
      go_wp2_with fail
      go_loopw [6, 5] (fun i v5 wr => ∃ (v : Value) (j : Nat) (cur : List UInt8), v = v5 ∧ j ≤ k ∧ i = .int .i64 j ∧ Hid (joinP (ws.take j) = cur) ∧ Hid (OwnB wr w.heap.size v cur) ∧ Hid (Ext w wr)) (fun i _ _ => k - (intOf i).toNat)
      case atStart => exact ⟨_, 0, [], rfl, Nat.zero_le _, rfl, Lib.hid rfl, Lib.hid (OwnB.nil _ _), HE⟩
      case round =>
        obtain ⟨v, j, cur, rfl, hj, rfl, HC, HO, HEQ⟩ := hrel
        have hBs : w.heap.size ≤ wr.heap.size := HEQ.out.le
        have hcl : cur.length ≤ 1048576 := by rw [← HC.out]; exact Nat.le_trans (join_take ws j) HJ.out
        by_cases hlt2 : j < k
        · have kl : j < ws.length := by rw [HN.out]; exact hlt2
          obtain ⟨b, o, rfl, hx⟩ := HX.out (by omega)
          have hxk := hx j kl
          have hxm := List.getElem_mem kl
          have hma := List.all_eq_true.1 HM.out _ hxm
          have hia := HI.out _ hxm
          have hta := HT.out _ hxm
          have htk := join_take ws (j + 1)
          have hsn := join_snoc (ws.take j) ws[j]
          rw [← List.take_succ_eq_append_getElem kl, HC.out, List.length_take, show min j ws.length = j by omega] at hsn
          obtain ⟨x, hx'⟩ : ∃ x, ws[j] = x := ⟨_, rfl⟩
          rw [hx'] at hxk hma hia hta hsn
          have h2n : x.k = 2 → 0 ≤ x.n := fun h2 => by
            unfold mayP at hma
            rw [if_neg (by omega), if_neg (by omega), if_pos h2] at hma
            simp only [Bool.and_eq_true, decide_eq_true_eq] at hma
            exact hma.2
          have TOLD := fun W (hE : Ext w W) => rtold_any W x (HP.out.ext hE) h2n hia hta
          have HTOLD := Lib.hid TOLD
          have HSN := Lib.hid hsn
          have HTK : Hid ((joinP (ws.take (j + 1))).length ≤ 1048576) := Lib.hid (Nat.le_trans htk HJ.out)
          have HCELL := Lib.hid hxk
          obtain ⟨X, hX⟩ : ∃ X : ByteArray, ⟨(toldP x).toArray⟩ = X := ⟨_, rfl⟩
          have hXd : toldP x = X.data.toList := by rw [← hX]
          have HXX := Lib.hid hX
          have HXD := Lib.hid hXd
          have k0 : (0 : Int) ≤ (j : Int) := by omega
          have k1 : (j : Int) < (k : Int) := by omega
          clear hx hx' kl hma hia hta htk hsn h2n TOLD hX hXd hxm
          by_cases hj0 : j = 0
          · have cx0 := cell_of_ext HCELL.out.1 HEQ.out
            have cx1 := cell_of_ext HCELL.out.2.1 HEQ.out
            have cx2 := cell_of_ext HCELL.out.2.2.1 HEQ.out
            have cx3 := cell_of_ext HCELL.out.2.2.2 HEQ.out
            have lx := cell_lt0 cx0
            clear hxk
            have d1 : decide ((0 : Int) < (j : Int)) = false := decide_eq_false (by omega)
            have d1n : decide (0 < j) = false := decide_eq_false (by omega)
            have HR : Hid (joinP (ws.take (j + 1)) = cur ++ X.data.toList) := Lib.hid (by
              rw [HSN.out, if_pos hj0, HXD.out]
              have : cur = [] := by rw [← HC.out, hj0]; rfl
              rw [this]; rfl)
            have htl : cur.length + X.size ≤ 1048576 := by
              have h := HTK.out
              rw [HR.out, List.length_append] at h
              exact h
            clear hj0
            go_wp2_with fail
            refine (HTOLD.out _ HEQ.out).mono ?_
            rintro e w2 ⟨rfl, he⟩
            have HE2 := Lib.hid (HEQ.out.trans he)
            obtain ⟨v', w3, hrun, happ⟩ := app_text w2 52 w.heap.size v cur X (HO.out.ext he) HE2.out.le (by omega)
            have HRUN := Lib.hid hrun
            have HE3 : Hid (Ext w w3) := Lib.hid (HE2.out.grown happ.grow happ.row)
            have hl3 : (cur ++ X.data.toList).length = cur.length + X.size := by rw [List.length_append]; rfl
            obtain ⟨q3, c3, hv3⟩ := happ.own.slice
            rw [hl3] at hv3
            have HO3 : Hid (OwnB w3 w.heap.size v' (joinP (ws.take (j + 1)))) := Lib.hid (by rw [HR.out]; exact happ.own)
            obtain ⟨T3, hT3⟩ : ∃ T3, cur.length + X.size = T3 := ⟨_, rfl⟩
            rw [hT3] at hv3 htl
            subst hv3
            have d5 : decide ((1048576 : Int) < (T3 : Int)) = false := decide_eq_false (by omega)
            have d5n : decide (1048576 < T3) = false := decide_eq_false (by omega)
            clear he cx0 cx1 cx2 cx3 lx hrun happ hl3 hT3
            rw [HXX.out]
            go_wp2_with (at_builtin; refine wpList_append_run2 rfl _ _ 52 9 rfl _ _ _ _ rfl rfl HRUN.out ?_)
            go_roundw
            case rel => exact ⟨_, j + 1, _, rfl, hlt2, by go_num, Lib.hid rfl, HO3, HE3⟩
            case measure => simp [intOf]; omega
          · have d1 : decide ((0 : Int) < (j : Int)) = true := decide_eq_true (by omega)
            have d1n : decide (0 < j) = true := decide_eq_true (by omega)
            have HR : Hid (joinP (ws.take (j + 1)) = (cur ++ [32]) ++ X.data.toList) := Lib.hid (by
              rw [HSN.out, if_neg hj0, HXD.out, List.append_assoc]; rfl)
            have htl : (cur ++ [32]).length + X.size ≤ 1048576 := by
              have h := HTK.out
              rw [HR.out, List.length_append] at h
              exact h
            clear hj0
            obtain ⟨v1, w1, hrun, happ⟩ := app_lit wr 52 w.heap.size v cur [32] HO.out hBs (by simp only [List.length_cons, List.length_nil]; omega)
            have HRUN1 : Hid ((Builtin.append_ #[52, 52] 52 #[v, .slice (some ⟨wr.heap.size, 0, none⟩) 1 1]).run Tryd.prog (wr.alloc (.cells #[.int .u8 32] 5)) = .ok v1 w1) := Lib.hid hrun
            have HE1 : Hid (Ext w w1) := Lib.hid (happ.ext (HEQ.out.alloc _) (Nat.le_refl _))
            have HO1 := Lib.hid happ.own
            have cx0 := cell_of_ext HCELL.out.1 HE1.out
            have cx1 := cell_of_ext HCELL.out.2.1 HE1.out
            have cx2 := cell_of_ext HCELL.out.2.2.1 HE1.out
            have cx3 := cell_of_ext HCELL.out.2.2.2 HE1.out
            have lx := cell_lt0 cx0
            obtain ⟨q1, c1, hv1⟩ := happ.own.slice
            obtain ⟨cur1, hcur1⟩ : ∃ cur1, cur ++ [32] = cur1 := ⟨_, rfl⟩
            rw [hcur1] at HR htl HO1 hv1
            subst hv1
            clear hrun happ hxk hcur1
            go_wp2_with (at_builtin; refine wpList_append_run rfl _ _ 52 rfl _ _ _ _ rfl rfl HRUN1.out ?_)
            refine (HTOLD.out _ HE1.out).mono ?_
            rintro e w2 ⟨rfl, he⟩
            have HE2 := Lib.hid (HE1.out.trans he)
            obtain ⟨v', w3, hrun, happ⟩ := app_text w2 52 w.heap.size _ cur1 X (HO1.out.ext he) HE2.out.le (by omega)
            have HRUN := Lib.hid hrun
            have HE3 : Hid (Ext w w3) := Lib.hid (HE2.out.grown happ.grow happ.row)
            have hl3 : (cur1 ++ X.data.toList).length = cur1.length + X.size := by rw [List.length_append]; rfl
            obtain ⟨q3, c3, hv3⟩ := happ.own.slice
            rw [hl3] at hv3
            have HO3 : Hid (OwnB w3 w.heap.size v' (joinP (ws.take (j + 1)))) := Lib.hid (by rw [HR.out]; exact happ.own)
            obtain ⟨T3, hT3⟩ : ∃ T3, cur1.length + X.size = T3 := ⟨_, rfl⟩
            rw [hT3] at hv3 htl
            subst hv3
            have d5 : decide ((1048576 : Int) < (T3 : Int)) = false := decide_eq_false (by omega)
            have d5n : decide (1048576 < T3) = false := decide_eq_false (by omega)
            clear he cx0 cx1 cx2 cx3 lx hrun happ hl3 hT3
            rw [HXX.out]
            go_wp2_with (at_builtin; refine wpList_append_run2 rfl _ _ 52 9 rfl _ _ _ _ rfl rfl HRUN.out ?_)
            go_roundw
            case rel => exact ⟨_, j + 1, _, rfl, hlt2, by go_num, Lib.hid rfl, HO3, HE3⟩
            case measure => simp [intOf]; omega
        · obtain rfl : j = k := by omega
          have HR : Hid (joinP ws = cur) := Lib.hid (by rw [← HC.out, List.take_of_length_le (by rw [HN.out]; exact Nat.le_refl _)])
          have hcv := HO.out.conv
          obtain ⟨q', c', rfl⟩ := HO.out.slice
          go_wp2_with fail
          go_ret2
          rw [HR.out]
          exact ⟨rfl, HEQ.out⟩
end Go.Proofs.YthknpnhiijbgfaaDoor
