/- Words: words as a text, in the program. -/
import Derived.Test.YthknpnhiijbgfaaDoorMyB
namespace Go.Proofs.YthknpnhiijbgfaaDoor
open Go.RowKit
set_option linter.unusedVariables false
set_option linter.unusedSimpArgs false

theorem infoStr : (Tryd.prog.info? 9).map (fun i => (i.zero, i.size, i.bytes)) = some (some (.string ByteArray.empty), 1, 16) := by kernel_rfl
def OwnT (w : World) (B : Nat) (v : Value) (xs : List ByteArray) : Prop := w.ownsRow B 9 1 v xs.length (xs.map Value.string)
theorem OwnT.nil (w : World) (B : Nat) : OwnT w B (.slice none 0 0) [] := World.ownsRow_nil _ _ _ _
theorem OwnT.ext {w w' : World} {B : Nat} {v : Value} {xs : List ByteArray} (h : OwnT w B v xs) (he : Ext w w') : OwnT w' B v xs := own_ext h he
theorem OwnT.cell {w : World} {B g n c : Nat} {xs : List ByteArray} (h : OwnT w B (.slice (some ⟨g, 0, none⟩) n c) xs) (j : Nat) (hj : j < xs.length) : w.cell? ⟨g, j, none⟩ = some (.string xs[j]) := by
  have h1 := World.ownsRow.cells h (g := g) rfl j (.string xs[j]) (by rw [List.getElem?_map, List.getElem?_eq_getElem hj]; rfl)
  have e : ((⟨g, 0, none⟩ : Addr).add j) = ⟨g, 0 + j, none⟩ := by unfold Addr.add; split <;> simp_all
  rw [e, Nat.zero_add] at h1
  exact h1
structure AppT (w : World) (B : Nat) (v : Value) (xs : List ByteArray) (w' : World) (v' : Value) : Prop where
  own : OwnT w' B v' xs
  grow : w.grownBy w' v.ownBlock
  row : ∀ x, v.ownBlock = some x → B ≤ x
theorem app_str (w : World) (ty : TypeId) (B : Nat) (v : Value) (xs : List ByteArray) (x : ByteArray) (h : OwnT w B v xs) (hB : B ≤ w.heap.size) (hlen : xs.length ≤ 1000000) :
    ∃ g cap w', (Builtin.append_ #[65, 65] ty #[v, .slice (some ⟨w.heap.size, 0, none⟩) 1 1]).run Tryd.prog (w.alloc (.cells #[.string x] 9)) = .ok (.slice (some ⟨g, 0, none⟩) (xs.length + 1) cap) w' ∧ AppT (w.alloc (.cells #[.string x] 9)) B v (xs ++ [x]) w' (.slice (some ⟨g, 0, none⟩) (xs.length + 1) cap) := by
  obtain ⟨i0, hi, hz0, hz1, hz2⟩ := info_parts infoStr
  have h' : OwnT (w.alloc (.cells #[.string x] 9)) B v xs := h.ext ((Ext.refl w).alloc _)
  obtain ⟨v', w', h1, h2, h3, _⟩ := run_append_own (P := Tryd.prog) _ B 65 ty 9 i0 (.string ByteArray.empty) 1 16 Tryd.underlying65 hi hz0 hz1 hz2 rfl (by omega) v xs.length (xs.map Value.string) h' ⟨w.heap.size, 0, none⟩ 1 1 [.string x] rfl
    (fun j u hu => by
      have hadd : (⟨w.heap.size, 0, none⟩ : Addr).add j = ⟨w.heap.size, 0 + j, none⟩ := by unfold Addr.add; split <;> simp_all
      rw [hadd, (Blk.new w 9 #[.string x]).cell, Nat.zero_add]
      simpa using hu) (by intro u hu; simp at hu; subst hu; rfl) (by unfold maxLen; omega) (by omega) (by rw [size_alloc]; omega)
  have h2' : OwnT w' B v' (xs ++ [x]) := by unfold OwnT; rw [List.map_append, List.length_append]; exact h2
  rcases h2.2 with ⟨_, h0⟩ | ⟨g, cap, cur, rfl, _⟩
  · omega
  · exact ⟨g, cap, w', h1, h2', h3, own_block h'⟩
def toldB (x : Wd) : ByteArray := ⟨(toldP x).toArray⟩
def sumT (ws : List Wd) : Nat := (ws.map fun x => (toldP x).length).sum
theorem join_sum : ∀ ws : List Wd, (joinP ws).length = sumT ws + (ws.length - 1)
  | [] => rfl
  | [x] => by simp [joinP, sumT]
  | x :: y :: l => by
    have ih := join_sum (y :: l)
    simp only [joinP, List.length_append, List.length_cons, ih, sumT, List.map_cons, List.sum_cons]
    omega
theorem join_told : ∀ ws : List Wd, Lib.join ((ws.map toldB).map (·.data.toList)) [32] = joinP ws
  | [] => rfl
  | [x] => by simp [joinP, Lib.join, List.intercalate, toldB]
  | x :: y :: l => by
    have ih := join_told (y :: l)
    rw [joinP, ← ih]
    simp [Lib.join, List.intercalate, toldB]
theorem sum_take (ws : List Wd) (k : Nat) : sumT (ws.take k) ≤ sumT ws := by
  unfold sumT
  induction ws generalizing k with
  | nil => simp
  | cons x l ih =>
    cases k with
    | zero => simp
    | succ k =>
      simp only [List.take_succ_cons, List.map_cons, List.sum_cons]
      have := ih k
      omega
theorem sum_snoc (ws : List Wd) (k : Nat) (h : k < ws.length) : sumT (ws.take (k + 1)) = sumT (ws.take k) + (toldP ws[k]).length := by
  unfold sumT
  rw [List.take_succ_eq_append_getElem h, List.map_append, List.sum_append]
  simp
theorem told_snoc (ws : List Wd) (k : Nat) (h : k < ws.length) : (ws.take (k + 1)).map toldB = (ws.take k).map toldB ++ [toldB ws[k]] := by
  rw [List.take_succ_eq_append_getElem h, List.map_append]; rfl
theorem join_texts (xs : List ByteArray) (v : Value) (w : World) (B : Nat) (h : OwnT w B v xs) (hn : xs.length ≤ 1000000) (hJ : (Lib.join (xs.map (·.data.toList)) [32]).length ≤ 140737488355328) :
    Calls Tryd.prog 40 #[v, .string ⟨#[32]⟩] w fun e w' => e = .returned (.string ⟨(Lib.join (xs.map (·.data.toList)) [32]).toArray⟩) ∧ Ext w w' := by
  have h' := h
  obtain ⟨hlen, hx⟩ := h
  rcases hx with ⟨rfl, h0⟩ | ⟨g, cap, cur, rfl, hB, hb, hc, hm, hs, ht⟩
  · obtain rfl : xs = [] := List.eq_nil_of_length_eq_zero h0
    refine (Tryd.strings_Join_none none 0 ⟨#[32]⟩ w).mono ?_
    rintro e w' ⟨rfl, rfl⟩
    exact ⟨rfl, Ext.refl _⟩
  · refine (Tryd.strings_Join g 0 cap xs ⟨#[32]⟩ w ?_ ?_ (by omega) hc hJ).mono ?_
    · intro j x hj
      have hjl : j < xs.length := (List.getElem?_eq_some_iff.1 hj).1
      have := h'.cell j hjl
      rw [Nat.zero_add, this]
      rw [List.getElem?_eq_getElem hjl] at hj
      rw [Option.some.inj hj]
    · exact (Array.getElem?_eq_some_iff.1 hb).1
    · rintro e w' ⟨rfl, hw⟩
      exact ⟨rfl, hw⟩
set_option maxRecDepth 100000 in
set_option maxHeartbeats 2000000 in
theorem print_not (w : World) (v : Value) (ws : List Wd) (hL : Laid w) (hv : WordsAt w v ws) (hlen : ws.length ≤ 1000000) (hm : ws.all mayP = false) :
    Calls Tryd.prog 19 #[v] w fun e w' => e = .returned (.tuple #[.string ⟨#[]⟩, .int .i64 2]) ∧ Ext w w' := by
  have hc := contains_may w v ws hL hv (by omega)
  rw [hm] at hc
  have HC := Lib.hid hc
  clear hc hv hL hm
  go_enter Tryd.func19, Tryd.ntmps19
  go_wp2_with fail
  refine HC.out.mono ?_
  rintro e w1 ⟨rfl, he⟩
  have HE := Lib.hid he
  clear he
  go_wp2_with fail
  go_ret2
  exact ⟨rfl, HE.out⟩
set_option maxRecDepth 100000 in
set_option maxHeartbeats 4000000 in
theorem print_any (w : World) (v : Value) (ws : List Wd) (hL : Laid w) (hv : WordsAt w v ws) (hlen : ws.length ≤ 1000000) (hm : ws.all mayP = true) (hi : ∀ x ∈ ws, x.n ≤ 9223372036854775807) (ht : ∀ x ∈ ws, x.t.length ≤ 1048576) (hj : (joinP ws).length ≤ 1048576) :
    Calls Tryd.prog 19 #[v] w fun e w' => e = .returned (.tuple #[.string ⟨(joinP ws).toArray⟩, .int .i64 0]) ∧ Ext w w' := by
  have hc := contains_may w v ws hL hv (by omega)
  rw [hm] at hc
  have HC := Lib.hid hc
  obtain ⟨q, c, rfl, hx⟩ := hv
  have HX := Lib.hid hx
  clear hx
  obtain ⟨n, hn⟩ : ∃ n, ws.length = n := ⟨_, rfl⟩
  rw [hn] at hlen HC ⊢
  have HN := Lib.hid hn
  have HM := Lib.hid hm
  have HI := Lib.hid hi
  have HT := Lib.hid ht
  have HL := Lib.hid hL
  have HJ := Lib.hid hj
  obtain ⟨c0, hc0⟩ : ∃ c0 : Nat, n - 1 = c0 := ⟨_, rfl⟩
  have hmax : max (0 : Int) ((n : Int) - 1) = (c0 : Int) := by omega
  have HS : Hid (sumT ws + c0 ≤ 1048576) := Lib.hid (by have h := join_sum ws; rw [hn, hc0] at h; omega)
  have HC0 := Lib.hid hc0
  clear hc hL hm hn hi ht hj hc0
  go_enter Tryd.func19, Tryd.ntmps19
  go_wp2_with fail
  refine HC.out.mono ?_
  rintro e w1 ⟨rfl, he⟩
  have HE := Lib.hid he
  clear he
  go_wp2_with fail
  go_loopw [16, 4, 5] (fun i v4 v5 wr => ∃ (v : Value) (k t : Nat), v = v4 ∧ k ≤ n ∧ i = .int .i64 k ∧ v5 = .int .i64 t ∧ Hid (t = c0 + sumT (ws.take k)) ∧ Hid (OwnT wr w.heap.size v ((ws.take k).map toldB)) ∧ Hid (Ext w wr)) (fun i _ _ _ => n - (intOf i).toNat)
  case atStart => exact ⟨_, 0, c0, rfl, Nat.zero_le _, rfl, rfl, Lib.hid (by simp [sumT]), Lib.hid (OwnT.nil _ _), HE⟩
  case round =>
    obtain ⟨v, k, t, rfl, hk, rfl, rfl, HT5, HO, HEW⟩ := hrel
    have hBs : w.heap.size ≤ wr.heap.size := HEW.out.le
    have htl : Hid (((ws.take k).map toldB).length = k) := Lib.hid (by rw [List.length_map, List.length_take, HN.out]; omega)
    by_cases hlt : k < n
    · have kl : k < ws.length := by rw [HN.out]; exact hlt
      obtain ⟨b, o, rfl, hx⟩ := HX.out (by omega)
      have hxk := hx k kl
      have hts := told_snoc ws k kl
      have hss := sum_snoc ws k kl
      have hsl := sum_take ws (k + 1)
      have hxm := List.getElem_mem kl
      have hma := List.all_eq_true.1 HM.out _ hxm
      have hia := HI.out _ hxm
      have hta := HT.out _ hxm
      obtain ⟨x, hx'⟩ : ∃ x, ws[k] = x := ⟨_, rfl⟩
      rw [hx'] at hxk hts hss hma hia hta
      have cx0 := cell_of_ext hxk.1 HEW.out
      have cx1 := cell_of_ext hxk.2.1 HEW.out
      have cx2 := cell_of_ext hxk.2.2.1 HEW.out
      have cx3 := cell_of_ext hxk.2.2.2 HEW.out
      have lx : b < wr.heap.size := by
        rcases Nat.lt_or_ge b wr.heap.size with h1 | h1
        · exact h1
        · simp [World.cell?, Array.getElem?_eq_none h1] at cx0
      have k0 : (0 : Int) ≤ (k : Int) := by omega
      have k1 : (k : Int) < (n : Int) := by omega
      have h2n : x.k = 2 → 0 ≤ x.n := fun h2 => by
        unfold mayP at hma
        rw [if_neg (by omega), if_neg (by omega), if_pos h2] at hma
        simp only [Bool.and_eq_true, decide_eq_true_eq] at hma
        exact hma.2
      have TOLD := fun W (hE : Ext w W) => told_any W x (HL.out.ext hE) h2n hia hta
      have HTOLD := Lib.hid TOLD
      have HTS := Lib.hid hts
      have HSS := Lib.hid hss
      have HSL := Lib.hid hsl
      obtain ⟨m, hm⟩ : ∃ m, (toldP x).length = m := ⟨_, rfl⟩
      have hsz : (toldB x).size = m := by rw [← hm]; rfl
      have HMM := Lib.hid hm
      obtain ⟨X, hX⟩ : ∃ X, toldB x = X := ⟨_, rfl⟩
      rw [hX] at hsz
      have HXX := Lib.hid hX
      have htm : t + m ≤ 1048576 := by rw [← hm]; have h1 := HT5.out; have h2 := HS.out; omega
      have d5 : decide ((1048576 : Int) < (t : Int) + (m : Int)) = false := decide_eq_false (by omega)
      clear hx hxk hx' kl hts hss hsl hxm hma hia hta h2n TOLD hm hX
      go_wp2_with fail
      refine (HTOLD.out _ (HEW.out.alloc _)).mono ?_
      rintro e w2 ⟨rfl, he⟩
      have HE2 : Hid (Ext w w2) := Lib.hid ((HEW.out.alloc _).trans he)
      have HO2 : Hid (OwnT w2 w.heap.size v ((ws.take k).map toldB)) := Lib.hid ((HO.out.ext ((Ext.refl wr).alloc _)).ext he)
      clear he
      obtain ⟨g, cap, w3, hrun, happ⟩ := app_str w2 65 w.heap.size v ((ws.take k).map toldB) X HO2.out HE2.out.le (by rw [htl.out]; omega)
      rw [htl.out] at hrun happ
      have HRUN := Lib.hid hrun
      have HE3 : Hid (Ext w w3) := Lib.hid ((HE2.out.alloc _).grown happ.grow happ.row)
      have HO3 : Hid (OwnT w3 w.heap.size (.slice (some ⟨g, 0, none⟩) (k + 1) cap) ((ws.take (k + 1)).map toldB)) := Lib.hid (by rw [HTS.out, HXX.out]; exact happ.own)
      have cg : w3.cell? ⟨g, k, none⟩ = some (.string X) := by
        have h := happ.own.cell k (by rw [List.length_append, htl.out]; simp)
        rw [h]
        congr 2
        rw [List.getElem_append_right (by rw [htl.out]; exact Nat.le_refl _)]
        simp [htl.out]
      clear hrun happ
      rw [show (⟨(toldP x).toArray⟩ : ByteArray) = X from HXX.out]
      go_wp2_with (at_builtin; refine wpList_append_run rfl _ _ 65 rfl _ _ _ _ rfl rfl HRUN.out ?_)
      go_roundw
      case rel => exact ⟨_, k + 1, t + m, rfl, hlt, by go_num, by go_num, Lib.hid (by rw [HSS.out, HMM.out]; have h1 := HT5.out; omega), HO3, HE3⟩
      case measure => simp [intOf]; omega
    · obtain rfl : k = n := by omega
      have HO2 : Hid (OwnT wr w.heap.size v (ws.map toldB)) := Lib.hid (by have h := HO.out; rw [List.take_of_length_le (by rw [HN.out]; exact Nat.le_refl _)] at h; exact h)
      go_wp2_with fail
      refine (join_texts _ _ _ _ HO2.out (by rw [List.length_map, HN.out]; omega) (by rw [join_told]; have := HJ.out; omega)).mono ?_
      rintro e w2 ⟨rfl, he⟩
      have HE2 := Lib.hid (HEW.out.trans he)
      clear he
      rw [join_told]
      go_wp2_with fail
      go_ret2
      exact ⟨rfl, HE2.out⟩
end Go.Proofs.YthknpnhiijbgfaaDoor
