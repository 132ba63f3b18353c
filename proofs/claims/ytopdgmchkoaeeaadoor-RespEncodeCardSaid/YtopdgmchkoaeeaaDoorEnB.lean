/- The document's Encode, of replies that may be. -/
import Derived.Test.YtopdgmchkoaeeaaDoorEnA
namespace Go.Proofs.YtopdgmchkoaeeaaDoor
open Go.RowKit
set_option linter.unusedVariables false
set_option linter.unusedSimpArgs false

theorem line_anyE (s : ByteArray) (w : World) (h : s.size ≤ 1000000000) : Calls Tryd.prog 40 #[.string s] w fun e w' => e = .returned (.string (s ++ ⟨#[13, 10]⟩)) ∧ w = w' := by
  have a1 : ¬ 9223372036854775807 < s.size + 2 := by omega
  go_enter Tryd.func40, Tryd.ntmps40
  go_wp2_with fail
  go_ret
  exact ⟨rfl, rfl⟩
theorem bytes_eqE {a b : ByteArray} (h : a.data.toList = b.data.toList) : a = b := by
  cases a; cases b
  congr 1
  exact Array.toList_inj.mp h
set_option maxRecDepth 100000 in
set_option maxHeartbeats 2000000 in
theorem renc_k0 (w : World) (n : Int) (s : ByteArray) (q : Option Addr) (m c : Nat) :
    Calls Tryd.prog 31 #[cellsV 0 n s (.slice q m c)] w fun e w' => e = .returned (.string (⟨#[36, 45, 49]⟩ ++ ⟨#[13, 10]⟩)) ∧ Ext w w' := by
  have HE := Lib.hid ((Ext.refl w).alloc (.cells #[.int .i64 0, .int .i64 n, .string s, .slice q m c] 41))
  go_enter Tryd.func31, Tryd.ntmps31
  go_wp2_with fail
  refine (line_anyE _ _ (by decide)).mono ?_
  rintro e w' ⟨rfl, rfl⟩
  go_wp2_with fail
  go_ret
  exact ⟨rfl, HE.out⟩
set_option maxRecDepth 100000 in
set_option maxHeartbeats 2000000 in
theorem renc_k1 (w : World) (n : Int) (s : ByteArray) (q : Option Addr) (m c : Nat) (hs : s.size ≤ 100000) :
    Calls Tryd.prog 31 #[cellsV 1 n s (.slice q m c)] w fun e w' => e = .returned (.string (⟨#[43]⟩ ++ s ++ ⟨#[13, 10]⟩)) ∧ Ext w w' := by
  have HE := Lib.hid ((Ext.refl w).alloc (.cells #[.int .i64 1, .int .i64 n, .string s, .slice q m c] 41))
  have a1 : ¬ 9223372036854775807 < 1 + s.size := by omega
  have HS := Lib.hid hs
  clear hs
  go_enter Tryd.func31, Tryd.ntmps31
  go_wp2_with fail
  refine (line_anyE _ _ (by have := HS.out; rw [app_size]; have e9 : (⟨#[43]⟩ : ByteArray).size = 1 := rfl; omega)).mono ?_
  rintro e w' ⟨rfl, rfl⟩
  go_wp2_with fail
  go_ret
  exact ⟨rfl, HE.out⟩
set_option maxRecDepth 100000 in
set_option maxHeartbeats 2000000 in
theorem renc_k2 (w : World) (n : Int) (s : ByteArray) (q : Option Addr) (m c : Nat) (hs : s.size ≤ 100000) :
    Calls Tryd.prog 31 #[cellsV 2 n s (.slice q m c)] w fun e w' => e = .returned (.string (⟨#[45]⟩ ++ s ++ ⟨#[13, 10]⟩)) ∧ Ext w w' := by
  have HE := Lib.hid ((Ext.refl w).alloc (.cells #[.int .i64 2, .int .i64 n, .string s, .slice q m c] 41))
  have a1 : ¬ 9223372036854775807 < 1 + s.size := by omega
  have HS := Lib.hid hs
  clear hs
  go_enter Tryd.func31, Tryd.ntmps31
  go_wp2_with fail
  refine (line_anyE _ _ (by have := HS.out; rw [app_size]; have e9 : (⟨#[45]⟩ : ByteArray).size = 1 := rfl; omega)).mono ?_
  rintro e w' ⟨rfl, rfl⟩
  go_wp2_with fail
  go_ret
  exact ⟨rfl, HE.out⟩
set_option maxRecDepth 100000 in
set_option maxHeartbeats 2000000 in
theorem renc_k3 (w : World) (n : Int) (s : ByteArray) (q : Option Addr) (m c : Nat) (hpw : Pow w) (h0 : -9223372036854775808 ≤ n) (h1 : n ≤ 9223372036854775807) :
    Calls Tryd.prog 31 #[cellsV 3 n s (.slice q m c)] w fun e w' => e = .returned (.string (⟨#[58]⟩ ++ fmtS n ++ ⟨#[13, 10]⟩)) ∧ Ext w w' := by
  have HE := Lib.hid ((Ext.refl w).alloc (.cells #[.int .i64 3, .int .i64 n, .string s, .slice q m c] 41))
  have HP := Lib.hid hpw
  have HF := Lib.hid (fun W (hW : Ext w W) => fmt_any n W (hpw.ext hW) h0 h1)
  have hz := fmtS_len n h0 h1
  generalize fmtS n = ds at HF hz ⊢
  have a1 : ¬ 9223372036854775807 < 1 + ds.size := by omega
  have HZ := Lib.hid hz
  clear hpw hz h0 h1
  go_enter Tryd.func31, Tryd.ntmps31
  go_wp2_with fail
  refine (HF.out _ HE.out).mono ?_
  rintro e w1 ⟨rfl, e1⟩
  have HE1 := Lib.hid (HE.out.trans e1)
  clear e1 HF
  go_wp2_with fail
  refine (line_anyE _ _ (by have := HZ.out; rw [app_size]; have e9 : (⟨#[58]⟩ : ByteArray).size = 1 := rfl; omega)).mono ?_
  rintro e w' ⟨rfl, rfl⟩
  go_wp2_with fail
  go_ret
  exact ⟨rfl, HE1.out⟩
set_option maxRecDepth 100000 in
set_option maxHeartbeats 4000000 in
theorem renc_k4 (w : World) (n : Int) (s : ByteArray) (q : Option Addr) (m c : Nat) (hs : s.size ≤ 100000) (hpw : Pow w) :
    Calls Tryd.prog 31 #[cellsV 4 n s (.slice q m c)] w fun e w' => e = .returned (.string ((⟨#[36]⟩ ++ itS (s.size : Int) ++ ⟨#[13, 10]⟩) ++ (s ++ ⟨#[13, 10]⟩))) ∧ Ext w w' := by
  have HE := Lib.hid ((Ext.refl w).alloc (.cells #[.int .i64 4, .int .i64 n, .string s, .slice q m c] 41))
  have HX := Lib.hid (Blk.new w 41 #[.int .i64 4, .int .i64 n, .string s, .slice q m c])
  have hz := its_len s.size (by omega)
  have cI := fun wq (hq : Ext w wq) => itoa_any (s.size : Int) wq (hpw.ext hq) (by omega) (by omega)
  have CI := Lib.hid cI
  clear cI
  generalize itS (s.size : Int) = ds at hz CI ⊢
  have a1 : ¬ 9223372036854775807 < 1 + ds.size := by omega
  have a2 : ¬ 9223372036854775807 < 1 + ds.size + 2 + (s.size + 2) := by omega
  have L1 := Lib.hid (fun wq => (line_anyE (⟨#[36]⟩ ++ ds) wq (by rw [app_size]; have e9 : (⟨#[36]⟩ : ByteArray).size = 1 := rfl; omega)).mono (fun e w' h => (⟨h.1, h.2 ▸ Ext.refl wq⟩ : e = .returned (.string (⟨#[36]⟩ ++ ds ++ ⟨#[13, 10]⟩)) ∧ Ext wq w')))
  have L2 := Lib.hid (fun wq => (line_anyE s wq (by omega)).mono (fun e w' h => (⟨h.1, h.2 ▸ Ext.refl wq⟩ : e = .returned (.string (s ++ ⟨#[13, 10]⟩)) ∧ Ext wq w')))
  clear hpw hz hs
  go_enter Tryd.func31, Tryd.ntmps31
  go_wp2_with fail
  generalize w.alloc (.cells #[.int .i64 4, .int .i64 n, .string s, .slice q m c] 41) = w0 at HE HX ⊢
  have x2 := HX.out.cell 2
  simp only [List.getElem?_toArray, List.getElem?_cons_zero, List.getElem?_cons_succ] at x2
  refine wp_region_ext (by kernel_rfl) (by kernel_rfl) ?_
  repeat (
    first
      | go_big_quiet_skip
      | (go_big_quiet_want
         go_big_quiet_op
         first
           | go_big_quiet_on
           | (apply Exists.intro
              refine ⟨fun wq hq => ?_, ?_⟩
              focus (
                have x2 := hq.cell x2
                first
                  | (first | (go_at_call 38; exact Calls.ext_of hq (CI.out _ (HE.out.trans hq))) | (go_at_call 40; ((with_reducible refine Calls.ext_of hq (L1.out _)); done)) | (go_at_call 40; ((with_reducible refine Calls.ext_of hq (L2.out _)); done)); done)
                  | (go_simp; exact rfl))
              go_big_quiet_on)))
  refine wpQuiet_nil ?_
  intro we hwe
  clear x2
  go_wp2_with fail
  go_ret
  exact ⟨rfl, HE.out.trans hwe⟩
/-- The elements of a list of replies, and what Encode tells of each. -/
def SubEnc (w : World) (q : Option Addr) (l : List Rep) : Prop :=
  ∀ k (h : k < l.length), ∃ b o q9 n9 c9, q = some ⟨b, o, none⟩ ∧ CellsR w b (o + k * 4) l[k] (.slice q9 n9 c9) ∧
    ∀ W, Ext w W → Calls Tryd.prog 31 #[cellsV l[k].k l[k].n l[k].s (.slice q9 n9 c9)] W fun e w' => e = .returned (.string ⟨(encR l[k]).toArray⟩) ∧ Ext W w'
set_option maxRecDepth 100000 in
set_option maxHeartbeats 4000000 in
theorem renc_k5 (w : World) (n : Int) (s : ByteArray) (q : Option Addr) (c : Nat) (l : List Rep) (hl : l.length ≤ 10000) (hmax : ∀ k, (encL (l.take k)).length ≤ 1000000) (hpw : Pow w) (hsub : SubEnc w q l) :
    Calls Tryd.prog 31 #[cellsV 5 n s (.slice q l.length c)] w fun e w' => e = .returned (.string ⟨(42 :: lineB (Lib.decDigits l.length) ++ encL l).toArray⟩) ∧ Ext w w' := by
  obtain ⟨R, hR⟩ : ∃ R : ByteArray, (⟨(42 :: lineB (Lib.decDigits l.length) ++ encL l).toArray⟩ : ByteArray) = R := ⟨_, rfl⟩
  rw [hR]
  have HRR := Lib.hid hR
  clear hR
  have HE := Lib.hid ((Ext.refl w).alloc (.cells #[.int .i64 5, .int .i64 n, .string s, .slice q l.length c] 41))
  have HX := Lib.hid (Blk.new w 41 #[.int .i64 5, .int .i64 n, .string s, .slice q l.length c])
  have HS := Lib.hid hsub
  have HM := Lib.hid hmax
  have hz := its_len l.length (by omega)
  have HD := Lib.hid (itS_size l.length)
  have HDL := Lib.hid (show (Lib.decDigits l.length).length ≤ 21 by have := Lib.itoa_length_le (l.length : Int) (by omega) (by omega); rwa [Lib.itoa_nonneg] at this)
  have CI := Lib.hid (itoa_any (l.length : Int) _ (hpw.ext HE.out) (by omega) (by omega))
  generalize itS (l.length : Int) = ds at hz HD CI
  have a1 : ¬ 9223372036854775807 < 1 + ds.size := by omega
  have HZ := Lib.hid hz
  clear hsub hmax hpw hz
  go_enter Tryd.func31, Tryd.ntmps31
  go_wp2_with fail
  refine CI.out.mono ?_
  rintro e w1 ⟨rfl, e1⟩
  have HE1 := Lib.hid (HE.out.trans e1)
  have HX1 := Lib.hid (HX.out.ext e1)
  clear e1 CI HE HX
  go_wp2_with fail
  refine (line_anyE _ w1 (by have := HZ.out; rw [app_size]; have e9 : (⟨#[42]⟩ : ByteArray).size = 1 := rfl; omega)).mono ?_
  rintro e w' ⟨rfl, rfl⟩
  have B0 : Hid ((⟨#[42]⟩ ++ ds ++ ⟨#[13, 10]⟩ : ByteArray).data.toList = 42 :: lineB (Lib.decDigits l.length) ++ encL (l.take 0)) := Lib.hid (by
    rw [app_list, app_list, HD.out]; simp [lineB, encL])
  generalize (⟨#[42]⟩ ++ ds ++ ⟨#[13, 10]⟩ : ByteArray) = s0 at B0 ⊢
  clear a1 HD HZ
  go_wp2_with fail
  go_loopw [3, 4] (fun v3 v4 wr => ∃ (j : Nat) (sk : ByteArray), v4 = .int .i64 j ∧ j ≤ l.length ∧ v3 = .string sk ∧ Hid (sk.data.toList = 42 :: lineB (Lib.decDigits l.length) ++ encL (l.take j)) ∧ Hid (Ext w1 wr)) (fun _ v4 _ => l.length - (intOf v4).toNat)
  case atStart => exact ⟨0, s0, rfl, Nat.zero_le _, rfl, B0, Lib.hid (Ext.refl w1)⟩
  case round =>
    obtain ⟨j, sk, rfl, hj, rfl, HK, HR⟩ := hrel
    clear B0
    have x3 := (HX1.out.ext HR.out).cell 3
    simp only [List.getElem?_toArray, List.getElem?_cons_zero, List.getElem?_cons_succ] at x3
    by_cases hlt : j < l.length
    · obtain ⟨b, o, q9, n9, c9, rfl, hc, hs⟩ := HS.out j hlt
      obtain ⟨p0, p1, p2, p3⟩ := hc.ext (HE1.out.trans HR.out)
      have HC := Lib.hid (hs wr (HE1.out.trans HR.out))
      have hn := encL_next l j hlt
      have hm := HM.out (j + 1)
      rw [hn, List.length_append] at hm
      have SKL : sk.size ≤ 1000100 := by
        have h8 := congrArg List.length HK.out
        have h9 : sk.data.toList.length = sk.size := rfl
        have := HDL.out
        simp only [List.length_append, List.length_cons, lineB, List.length_nil] at h8
        omega
      have HN := Lib.hid hn
      generalize l[j] = x at p0 p1 p2 p3 HC HN hm
      obtain ⟨t, ht⟩ : ∃ t : ByteArray, (⟨(encR x).toArray⟩ : ByteArray) = t := ⟨_, rfl⟩
      have htl : t.data.toList = encR x := by rw [← ht]
      have hts : t.size ≤ 1000000 := by
        have h9 : t.data.toList.length = t.size := rfl
        rw [htl] at h9
        omega
      rw [ht] at HC
      have a2 : ¬ 9223372036854775807 < sk.size + t.size := by omega
      have HTL := Lib.hid htl
      have k0 : (0 : Int) ≤ (j : Int) := by omega
      have k1 : (j : Int) < (l.length : Int) := by omega
      clear hc hs hn hm htl ht
      go_wp2_with fail
      refine HC.out.mono ?_
      rintro e w2 ⟨rfl, e2⟩
      have HR2 := Lib.hid (HR.out.trans e2)
      have HK2 : Hid ((sk ++ t).data.toList = 42 :: lineB (Lib.decDigits l.length) ++ encL (l.take (j + 1))) := Lib.hid (by
        rw [app_list, HK.out, HN.out, HTL.out]; simp)
      clear e2 HC p0 p1 p2 p3 x3
      go_wp2_with fail
      go_roundw
      case rel => exact ⟨j + 1, _, by go_num, by omega, rfl, HK2, HR2⟩
      case measure => simp [intOf]; omega
    · obtain rfl : j = l.length := by omega
      have hf := HK.out
      rw [List.take_length] at hf
      have hsk : sk = R := (bytes_eqE (by rw [hf])).trans HRR.out
      have HKK := Lib.hid hsk
      clear hf hsk
      go_wp2_with fail
      go_ret
      have hk := HKK.out
      subst hk
      exact ⟨rfl, HE1.out.trans HR.out⟩
theorem fine_kind {d : Nat} {x : Rep} (h : fineR d x = true) : x.k = 0 ∨ x.k = 1 ∨ x.k = 2 ∨ x.k = 3 ∨ x.k = 4 ∨ (x.k = 5 ∧ ∃ d', d = d' + 1 ∧ fineL d' x.l = true) := by
  by_cases h5 : x.k = 5
  · rw [fine_five d x h5] at h
    cases d with
    | zero => cases h
    | succ d =>
      simp only [Bool.and_eq_true] at h
      exact .inr (.inr (.inr (.inr (.inr ⟨h5, d, rfl, h.2⟩))))
  · rw [fine_leafB d x h5] at h
    unfold leafB at h
    by_cases h0 : x.k = 0
    · exact .inl h0
    · by_cases h1 : x.k = 1
      · exact .inr (.inl h1)
      · by_cases h2 : x.k = 2
        · exact .inr (.inr (.inl h2))
        · by_cases h3 : x.k = 3
          · exact .inr (.inr (.inr (.inl h3)))
          · by_cases h4 : x.k = 4
            · exact .inr (.inr (.inr (.inr (.inl h4))))
            · simp [h0, h1, h2, h3, h4] at h
theorem renc_any : ∀ (D : Nat) (ok : Nat → Prop) (w : World) (x : Rep) (lv : Value) (d : Nat), ListAt ok w D lv x.l → fineR d x = true → itR x ≤ 1000 → txR x ≤ 10000 → i64R x → Pow w →
    Calls Tryd.prog 31 #[cellsV x.k x.n x.s lv] w fun e w' => e = .returned (.string ⟨(encR x).toArray⟩) ∧ Ext w w' := by
  intro D
  induction D with
  | zero =>
    intro ok w x lv d hx hf hI hT h6 hpw
    obtain ⟨q, c, rfl⟩ := hx.slice
    have e1 : itR x = x.l.length + itL x.l := by cases x; simp only [itR, Rep.l]
    have e2 : txR x = x.s.size + txL x.l := by cases x; simp only [txR, Rep.l, Rep.s]
    have h0 : x.l = [] := hx.1
    rcases fine_kind hf with hk | hk | hk | hk | hk | ⟨hk, d', rfl, hf'⟩
    · cases x with
      | mk k n s l => obtain rfl : k = 0 := hk; exact (renc_k0 w n s q _ c).mono fun e w' h => ⟨by rw [h.1]; exact ret_of (congrArg Value.string (bytes_eqE (by rw [app_list]; simp [encR]))), h.2⟩
    · cases x with
      | mk k n s l => obtain rfl : k = 1 := hk; exact (renc_k1 w n s q _ c (by simp only [Rep.s] at e2; omega)).mono fun e w' h => ⟨by rw [h.1]; exact ret_of (congrArg Value.string (bytes_eqE (by rw [app_list, app_list]; simp [encR, lineB]))), h.2⟩
    · cases x with
      | mk k n s l => obtain rfl : k = 2 := hk; exact (renc_k2 w n s q _ c (by simp only [Rep.s] at e2; omega)).mono fun e w' h => ⟨by rw [h.1]; exact ret_of (congrArg Value.string (bytes_eqE (by rw [app_list, app_list]; simp [encR, lineB]))), h.2⟩
    · cases x with
      | mk k n s l => obtain rfl : k = 3 := hk; exact (renc_k3 w n s q _ c hpw h6.1.1 h6.1.2).mono fun e w' h => ⟨by rw [h.1]; exact ret_of (congrArg Value.string (bytes_eqE (by rw [app_list, app_list, fmtS_list]; simp [encR, lineB]))), h.2⟩
    · cases x with
      | mk k n s l => obtain rfl : k = 4 := hk; exact (renc_k4 w n s q _ c (by simp only [Rep.s] at e2; omega) hpw).mono fun e w' h => ⟨by rw [h.1]; exact ret_of (congrArg Value.string (bytes_eqE (by rw [app_list, app_list, app_list, app_list, itS_size]; simp [encR, textB, lineB]))), h.2⟩
    · cases x with
      | mk k n s l =>
        obtain rfl : k = 5 := hk
        obtain rfl : l = [] := h0
        exact (renc_k5 w n s q c [] (by simp) (fun k => by simp [encL]) hpw (fun k hk => by simp at hk)).mono fun e w' h => ⟨by rw [h.1]; exact ret_of (congrArg Value.string (bytes_eqE (by simp [encR]))), h.2⟩
  | succ D ih =>
    intro ok w x lv d hx hf hI hT h6 hpw
    obtain ⟨q, c, rfl, hx'⟩ := list_at hx
    have e1 : itR x = x.l.length + itL x.l := by cases x; simp only [itR, Rep.l]
    have e2 : txR x = x.s.size + txL x.l := by cases x; simp only [txR, Rep.l, Rep.s]
    rcases fine_kind hf with hk | hk | hk | hk | hk | ⟨hk, d', rfl, hf'⟩
    · cases x with
      | mk k n s l => obtain rfl : k = 0 := hk; exact (renc_k0 w n s q _ c).mono fun e w' h => ⟨by rw [h.1]; exact ret_of (congrArg Value.string (bytes_eqE (by rw [app_list]; simp [encR]))), h.2⟩
    · cases x with
      | mk k n s l => obtain rfl : k = 1 := hk; exact (renc_k1 w n s q _ c (by simp only [Rep.s] at e2; omega)).mono fun e w' h => ⟨by rw [h.1]; exact ret_of (congrArg Value.string (bytes_eqE (by rw [app_list, app_list]; simp [encR, lineB]))), h.2⟩
    · cases x with
      | mk k n s l => obtain rfl : k = 2 := hk; exact (renc_k2 w n s q _ c (by simp only [Rep.s] at e2; omega)).mono fun e w' h => ⟨by rw [h.1]; exact ret_of (congrArg Value.string (bytes_eqE (by rw [app_list, app_list]; simp [encR, lineB]))), h.2⟩
    · cases x with
      | mk k n s l => obtain rfl : k = 3 := hk; exact (renc_k3 w n s q _ c hpw h6.1.1 h6.1.2).mono fun e w' h => ⟨by rw [h.1]; exact ret_of (congrArg Value.string (bytes_eqE (by rw [app_list, app_list, fmtS_list]; simp [encR, lineB]))), h.2⟩
    · cases x with
      | mk k n s l => obtain rfl : k = 4 := hk; exact (renc_k4 w n s q _ c (by simp only [Rep.s] at e2; omega) hpw).mono fun e w' h => ⟨by rw [h.1]; exact ret_of (congrArg Value.string (bytes_eqE (by rw [app_list, app_list, app_list, app_list, itS_size]; simp [encR, textB, lineB]))), h.2⟩
    · cases x with
      | mk k n s l =>
        obtain rfl : k = 5 := hk
        have h6l : i64L l := h6.2
        simp only [Rep.l] at hf' hx' e1 e2
        rw [fineL_all, List.all_eq_true] at hf'
        refine (renc_k5 w n s q c l (by omega) (fun k => ?_) hpw (fun k hk => ?_)).mono fun e w' h => ⟨by rw [h.1]; exact ret_of (congrArg Value.string (bytes_eqE (by simp [encR]))), h.2⟩
        · have h1 := encL_len (l.take k) (i64L_take h6l k) (by have := tx_take l k; omega) (by have := it_take l k; omega)
          have h2 := tx_take l k
          have h3 := it_take l k
          have h4 : (l.take k).length ≤ l.length := by rw [List.length_take]; omega
          omega
        · obtain ⟨b, o, lv, f1, f2, f3⟩ := hx' k hk
          obtain ⟨q9, c9, rfl⟩ := f3.slice
          have h1 := it_at l k hk
          have h2 := tx_take l (k + 1)
          have h3 := tx_next l k hk
          exact ⟨b, o, q9, _, c9, f1, f2, fun W hW => ih ok W _ _ d' (f3.ext hW) (hf' _ (List.getElem_mem hk)) (by omega) (by omega) (i64L_all h6l _ (List.getElem_mem hk)) (hpw.ext hW)⟩
end Go.Proofs.YtopdgmchkoaeeaaDoor
