/- Words: heavy words; the same words, in the document; WordsSame's walk. -/
import Derived.Test.YthknpnhiijbgfaaDoorMyD
namespace Go.Proofs.YthknpnhiijbgfaaDoor
open Go.RowKit
set_option linter.unusedVariables false
set_option linter.unusedSimpArgs false

def sumX (ws : List Wd) : Nat := (ws.map fun x => x.t.length).sum
theorem sumX_snoc (ws : List Wd) (k : Nat) (h : k < ws.length) : sumX (ws.take (k + 1)) = sumX (ws.take k) + ws[k].t.length := by
  unfold sumX
  rw [List.take_succ_eq_append_getElem h, List.map_append, List.sum_append]
  simp
theorem sumX_mem : ∀ (ws : List Wd) (x : Wd), x ∈ ws → x.t.length ≤ sumX ws
  | y :: ws, x, h => by
    unfold sumX
    simp only [List.map_cons, List.sum_cons]
    rcases List.mem_cons.1 h with rfl | h
    · omega
    · have := sumX_mem ws x h
      unfold sumX at this
      omega
def Light (ws : List Wd) : Prop := ws.length ≤ 200 ∧ sumX ws ≤ 2000
set_option maxRecDepth 100000 in
set_option maxHeartbeats 2000000 in
theorem heavy_any (w : World) (v : Value) (ws : List Wd) (hv : WordsAt w v ws) (hb : ∀ x ∈ ws, x.t.length ≤ 140737488355328) (hlen : ws.length ≤ 9223372036854775807) :
    Calls Tryd.prog 14 #[v] w fun e w' => (∃ b, e = .returned (.bool b) ∧ (b = false → Light ws)) ∧ Ext w w' := by
  obtain ⟨q, c, rfl, hx⟩ := hv
  have HX := Lib.hid hx
  obtain ⟨n, hn⟩ : ∃ n, ws.length = n := ⟨_, rfl⟩
  rw [hn] at hlen ⊢
  have HN := Lib.hid hn
  have HB := Lib.hid hb
  clear hx hn hb
  go_enter Tryd.func14, Tryd.ntmps14
  go_wp2_with fail
  go_loopw [4, 3] (fun i v3 wr => ∃ k t : Nat, k ≤ n ∧ k ≤ 200 ∧ i = .int .i64 k ∧ v3 = .int .i64 t ∧ t ≤ 2000 ∧ Hid (t = sumX (ws.take k)) ∧ Hid (Ext w wr)) (fun i _ _ => n - (intOf i).toNat)
  case atStart => exact ⟨0, 0, Nat.zero_le _, Nat.zero_le _, rfl, rfl, Nat.zero_le _, Lib.hid rfl, Lib.hid (Ext.refl w)⟩
  case round =>
    obtain ⟨k, t, hk, hk2, rfl, rfl, ht, HT, HE⟩ := hrel
    by_cases hlt : k < n
    · have d1 : decide ((k : Int) < (n : Int)) = true := decide_eq_true (by omega)
      have d1n : decide (k < n) = true := decide_eq_true hlt
      by_cases hl2 : k < 200
      · have d2 : decide ((k : Int) < 200) = true := decide_eq_true (by omega)
        have d2n : decide (k < 200) = true := decide_eq_true hl2
        have kl : k < ws.length := by rw [HN.out]; exact hlt
        obtain ⟨b, o, rfl, hx⟩ := HX.out (by omega)
        have hc := cell_of_ext (hx k kl).2.1 HE.out
        have hbk := HB.out _ (List.getElem_mem kl)
        have hss := sumX_snoc ws k kl
        obtain ⟨m, hm⟩ : ∃ m, ws[k].t.length = m := ⟨_, rfl⟩
        obtain ⟨X, hX⟩ : ∃ X : ByteArray, ⟨ws[k].t.toArray⟩ = X := ⟨_, rfl⟩
        have hsz : X.size = m := by rw [← hX, ← hm]; rfl
        rw [hX] at hc
        rw [hm] at hbk hss
        have lx := cell_lt0 hc
        have k0 : (0 : Int) ≤ (k : Int) := by omega
        have HS := Lib.hid hss
        clear hx hm hX hss kl
        by_cases hbig : 2000 < t + m
        · have d3 : decide ((2000 : Int) < (t : Int) + (m : Int)) = true := decide_eq_true (by omega)
          have d3n : decide (2000 < t + m) = true := decide_eq_true hbig
          go_wp2_with fail
          go_ret
          exact ⟨⟨true, rfl, fun h => by cases h⟩, HE.out⟩
        · have d3 : decide ((2000 : Int) < (t : Int) + (m : Int)) = false := decide_eq_false (by omega)
          have d3n : decide (2000 < t + m) = false := decide_eq_false hbig
          go_wp2_with fail
          go_roundw
          case rel => exact ⟨k + 1, t + m, hlt, hl2, by go_num, by go_num, by omega, Lib.hid (by rw [HS.out, ← HT.out]), HE⟩
          case measure => simp [intOf]; omega
      · have d2 : decide ((k : Int) < 200) = false := decide_eq_false (by omega)
        have d2n : decide (k < 200) = false := decide_eq_false hl2
        have d4 : decide ((200 : Int) < (n : Int)) = true := decide_eq_true (by omega)
        have d4n : decide (200 < n) = true := decide_eq_true (by omega)
        go_wp2_with fail
        go_ret
        exact ⟨⟨true, rfl, fun h => by cases h⟩, HE.out⟩
    · obtain rfl : k = n := by omega
      have d1 : decide ((k : Int) < (k : Int)) = false := decide_eq_false (by omega)
      have d4 : decide ((200 : Int) < (k : Int)) = false := decide_eq_false (by omega)
      have d4n : decide (200 < k) = false := decide_eq_false (by omega)
      have HF : Hid (Light ws) := Lib.hid (by
        have h := HT.out
        rw [List.take_of_length_le (by rw [HN.out]; exact Nat.le_refl _)] at h
        exact ⟨by rw [HN.out]; exact hk2, by omega⟩)
      go_wp2_with fail
      go_ret
      exact ⟨⟨_, rfl, fun _ => HF.out⟩, HE.out⟩
set_option maxRecDepth 100000 in
set_option maxHeartbeats 4000000 in
theorem rsame_any (w : World) (v u : Value) (l m : List Wd) (hv : WordsAt w v l) (hu : WordsAt w u m) (hlen : l.length ≤ 9223372036854775806) (hlen' : m.length ≤ 9223372036854775806) :
    Calls Tryd.prog 16 #[v, u] w fun e w' => e = .returned (.bool (alikeL l m)) ∧ Ext w w' := by
  obtain ⟨q, c, rfl, hx⟩ := hv
  obtain ⟨q', c', rfl, hy⟩ := hu
  have HX := Lib.hid hx
  have HY := Lib.hid hy
  clear hx hy
  obtain ⟨r, hr⟩ : ∃ r, alikeL l m = r := ⟨_, rfl⟩
  rw [hr]
  have HR := Lib.hid hr
  clear hr
  by_cases hl : l.length = m.length
  · obtain ⟨n, hn⟩ : ∃ n, l.length = n := ⟨_, rfl⟩
    have hn' : m.length = n := by omega
    rw [hn] at hlen ⊢
    rw [hn']
    have HN := Lib.hid hn
    have HM := Lib.hid hn'
    have hne : ((n : Int) != (n : Int)) = false := by simp
    clear hl hlen' hn hn'
    go_enter Tryd.func16, Tryd.ntmps16
    go_wp2_with fail
    go_loopw [5] (fun i wr => ∃ k j : Nat, k ≤ n ∧ i = .int .i64 k ∧ Hid (alikeL (l.drop k) (m.drop k) = r) ∧ wr = w.drewN j) (fun i _ => n - (intOf i).toNat)
    case atStart => exact ⟨0, 0, Nat.zero_le _, rfl, HR, rfl⟩
    case round =>
      obtain ⟨k, j, hk, rfl, HK, rfl⟩ := hrel
      by_cases hlt : k < n
      · have kl : k < l.length := by rw [HN.out]; exact hlt
        have km : k < m.length := by rw [HM.out]; exact hlt
        obtain ⟨b, o, rfl, hx⟩ := HX.out (by omega)
        obtain ⟨b', o', rfl, hy⟩ := HY.out (by omega)
        have hxk := hx k kl
        have hyk := hy k km
        have hd := alike_drop l m k kl km
        rw [HK.out] at hd
        obtain ⟨x, hx'⟩ : ∃ x, l[k] = x := ⟨_, rfl⟩
        obtain ⟨y, hy'⟩ : ∃ y, m[k] = y := ⟨_, rfl⟩
        rw [hx'] at hxk hd
        rw [hy'] at hyk hd
        obtain ⟨x0, xt, x2, x3⟩ := x
        obtain ⟨y0, yt, y2, y3⟩ := y
        dsimp only at hxk hyk
        obtain ⟨X, hX⟩ : ∃ X : ByteArray, ⟨xt.toArray⟩ = X := ⟨_, rfl⟩
        obtain ⟨Y, hY⟩ : ∃ Y : ByteArray, ⟨yt.toArray⟩ = Y := ⟨_, rfl⟩
        have HTT : Hid ((X.toList == Y.toList) = decide (xt = yt)) := Lib.hid (by
          rw [← hX, ← hY, Lib.toList_data, Lib.toList_data, Bool.eq_iff_iff]; simp)
        rw [hX] at hxk
        rw [hY] at hyk
        have cx0 := hxk.1
        have cx1 := hxk.2.1
        have cx2 := hxk.2.2.1
        have cy0 := hyk.1
        have cy1 := hyk.2.1
        have cy2 := hyk.2.2.1
        have lx := cell_lt0 cx0
        have ly := cell_lt0 cy0
        have k0 : (0 : Int) ≤ (k : Int) := by omega
        have k1 : (k : Int) < (n : Int) := by omega
        have HD := Lib.hid hd
        clear hx hy hxk hyk hx' hy' kl km hd hX hY
        by_cases h1 : x0 = y0
        · have e1 : (x0 == y0) = true := by rw [beq_iff_eq]; exact h1
          have e1n : (x0 != y0) = false := by simp [bne, e1]
          have e1m : (y0 != y0) = false := by simp
          by_cases h2 : xt = yt
          · have e2 : (X.toList == Y.toList) = true := by rw [HTT.out]; exact decide_eq_true h2
            by_cases h3 : x2 = y2
            · have e3 : (x2 != y2) = false := by simp [h3]
              have HD2 : Hid (alikeL (l.drop (k + 1)) (m.drop (k + 1)) = r) := Lib.hid (by rw [HD.out]; simp [alikeW, h1, h2, h3])
              clear h1 h2 h3
              go_wp2_with fail
              go_quiet (fail)
              go_wp2_with fail
              go_roundw
              case rel => exact ⟨k + 1, _, hlt, by go_num, HD2, by first | rfl | exact World.drewN_add ..⟩
              case measure => simp [intOf]; omega
            · have e3 : (x2 != y2) = true := by simp [h3]
              have hrr : r = false := by rw [HD.out]; simp [alikeW, h3]
              clear h1 h2 h3 HD
              subst hrr
              go_wp2_with fail
              go_quiet (fail)
              go_wp2_with fail
              go_ret
              exact ⟨rfl, ((Ext.refl w).drewN _).drewN _⟩
          · have e2 : (X.toList == Y.toList) = false := by rw [HTT.out]; exact decide_eq_false h2
            have hrr : r = false := by rw [HD.out]; simp [alikeW, h2]
            clear h1 h2 HD
            subst hrr
            go_wp2_with fail
            go_quiet (fail)
            go_wp2_with fail
            go_ret
            exact ⟨rfl, ((Ext.refl w).drewN _).drewN _⟩
        · have e1 : (x0 == y0) = false := by rw [beq_eq_false_iff_ne]; exact h1
          have e1n : (x0 != y0) = true := by simp [bne, e1]
          have hrr : r = false := by rw [HD.out]; simp [alikeW, h1]
          clear h1 HD
          subst hrr
          go_wp2_with fail
          go_quiet (fail)
          go_wp2_with fail
          go_ret
          exact ⟨rfl, ((Ext.refl w).drewN _).drewN _⟩
      · obtain rfl : k = n := by omega
        have hrr : r = true := by
          have h := HK.out
          rw [List.drop_eq_nil_of_le (by rw [HN.out]; exact Nat.le_refl _), List.drop_eq_nil_of_le (by rw [HM.out]; exact Nat.le_refl _)] at h
          exact h.symm
        subst hrr
        go_wp2_with fail
        go_ret
        exact ⟨rfl, (Ext.refl w).drewN _⟩
  · have hrr : r = false := by
      cases r
      · rfl
      · exact absurd (alike_len l m HR.out) hl
    subst hrr
    have hne : ((l.length : Int) != (m.length : Int)) = true := by simpa using (by omega : ¬ (l.length : Int) = m.length)
    go_enter Tryd.func16, Tryd.ntmps16
    go_wp2_with fail
    go_ret
    exact ⟨rfl, Ext.refl w⟩
end Go.Proofs.YthknpnhiijbgfaaDoor
