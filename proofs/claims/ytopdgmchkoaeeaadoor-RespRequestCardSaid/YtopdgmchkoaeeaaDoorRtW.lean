/- The reference's request: its walk. -/
import Derived.Test.YtopdgmchkoaeeaaDoorRtV
namespace Go.Proofs.YtopdgmchkoaeeaaDoor
open Go.RowKit
set_option linter.unusedVariables false
set_option linter.unusedSimpArgs false

theorem line_any (s : ByteArray) (w : World) (h : s.size ≤ 1000000000) : Calls Tryd.prog 40 #[.string s] w fun e w' => e = .returned (.string (s ++ ⟨#[13, 10]⟩)) ∧ w = w' := by
  have a1 : ¬ 9223372036854775807 < s.size + 2 := by omega
  go_enter Tryd.func40, Tryd.ntmps40
  go_wp2_with fail
  go_ret
  exact ⟨rfl, rfl⟩
theorem bytes_eq {a b : ByteArray} (h : a.data.toList = b.data.toList) : a = b := by
  cases a; cases b
  congr 1
  exact Array.toList_inj.mp h
/-- What the reference's request tells of few texts. -/
def RreqE (w : World) (ts : List ByteArray) (e : Ending) (w' : World) : Prop :=
  Ext w w' ∧ e = .returned (if ts.length = 0 then .tuple #[.string ⟨#[]⟩, .int .i64 2] else .tuple #[.string ⟨(reqB ts).toArray⟩, .int .i64 0])
set_option maxRecDepth 100000 in
set_option maxHeartbeats 1000000 in
theorem rreq_none (w : World) (q : Option Addr) (c : Nat) : Calls Tryd.prog 15 #[.slice q 0 c] w (RreqE w []) := by
  go_enter Tryd.func15, Tryd.ntmps15
  go_wp2_with fail
  go_ret2
  exact ⟨Ext.refl w, rfl⟩
set_option maxRecDepth 100000 in
set_option maxHeartbeats 4000000 in
theorem rreq_some (w : World) (v : Value) (ts : List ByteArray) (h : TxAt w v ts) (h1 : 1 ≤ ts.length) (hb : bulk ts ≤ 3000) (hpw : Pow w) :
    Calls Tryd.prog 15 #[v] w (RreqE w ts) := by
  have hlen : ts.length ≤ 600 := by unfold bulk at hb; omega
  have hsum : sumS ts ≤ 3000 := by unfold bulk at hb; omega
  obtain ⟨hm, q, c, rfl, hx⟩ := h
  obtain ⟨tb, tof, hq, hy⟩ := hx (by omega)
  have HX := Lib.hid hy
  have HP := Lib.hid hpw
  have HB := Lib.hid hb
  subst hq
  clear hx hy hb hpw
  have e0 : decide ((ts.length : Int) < 1) = false := decide_eq_false (by omega)
  have e1 : decide ((65536 : Int) < (ts.length : Int)) = false := decide_eq_false (by omega)
  have hsz : ∀ k (hk : k < ts.length), ts[k].size ≤ 3000 := fun k hk => by
    have h2 := sumS_next ts k hk
    have h3 := sumS_take ts (k + 1)
    omega
  have HSZ := Lib.hid hsz
  clear hsz
  go_enter Tryd.func15, Tryd.ntmps15
  go_wp2_with fail
  go_loop [4, 5] (fun v4 v5 => ∃ k : Nat, v5 = .int .i64 k ∧ k ≤ ts.length ∧ v4 = .int .i64 ((1048576 - sumS (ts.take k) : Nat) : Int)) (fun _ v5 => ts.length - (intOf v5).toNat)
  case atStart => exact ⟨0, rfl, Nat.zero_le _, rfl⟩
  case round =>
    obtain ⟨k, rfl, hk, rfl⟩ := hrel
    by_cases hlt : k < ts.length
    · have ck : w.cell? ⟨tb, tof + k, none⟩ = some (.string ts[k]) := HX.out k hlt
      have hs := HSZ.out k hlt
      have SN := Lib.hid (sumS_next ts k hlt)
      have ST := sumS_take ts k
      generalize ts[k] = s at ck hs SN
      have k0 : (0 : Int) ≤ (k : Int) := by omega
      have k1 : (k : Int) < (ts.length : Int) := by omega
      obtain ⟨m, hm2⟩ : ∃ m, 1048576 - sumS (ts.take k) = m := ⟨_, rfl⟩
      have hm3 : s.size ≤ m := by omega
      have hm4 : m ≤ 1048576 := by omega
      have HM := Lib.hid hm2
      rw [hm2]
      clear hm2
      have d1 : decide ((m : Int) < (s.size : Int)) = false := decide_eq_false (by omega)
      go_wp2_with fail
      go_round
      case rel => exact ⟨k + 1, by go_num, by omega, by
        rw [SN.out]
        have := HM.out
        exact int_eq (by omega)⟩
      case measure => simp [intOf]; omega
    · obtain rfl : k = ts.length := by omega
      go_wp2_with fail
      refine (itoa_any (ts.length : Int) w HP.out (by omega) (by omega)).mono ?_
      rintro e w2 ⟨rfl, e2⟩
      have E2 := Lib.hid e2
      clear e2
      have hz := its_len ts.length (by omega)
      have HD := Lib.hid (itS_size ts.length)
      generalize itS (ts.length : Int) = ds at hz HD ⊢
      have a1 : ¬ 9223372036854775807 < 1 + ds.size := by omega
      go_wp2_with fail
      refine (line_any _ w2 (by rw [app_size]; have e9 : (⟨#[42]⟩ : ByteArray).size = 1 := rfl; omega)).mono ?_
      rintro e w' ⟨rfl, rfl⟩
      have B0 : Hid ((⟨#[42]⟩ ++ ds ++ ⟨#[13, 10]⟩ : ByteArray).data.toList = 42 :: lineB (Lib.decDigits ts.length) ++ textsB (ts.take 0)) := Lib.hid (by
        rw [app_list, app_list, HD.out]; simp [lineB, textsB])
      generalize (⟨#[42]⟩ ++ ds ++ ⟨#[13, 10]⟩ : ByteArray) = s0 at B0 ⊢
      clear a1 hz HD
      go_wp2_with fail
      go_loopw [6, 7] (fun v6 v7 wr => ∃ (k : Nat) (sk : ByteArray), v7 = .int .i64 k ∧ k ≤ ts.length ∧ v6 = .string sk ∧ Hid (sk.data.toList = 42 :: lineB (Lib.decDigits ts.length) ++ textsB (ts.take k)) ∧ Hid (Ext w wr)) (fun _ v7 _ => ts.length - (intOf v7).toNat)
      case atStart => exact ⟨0, s0, rfl, Nat.zero_le _, rfl, B0, E2⟩
      case round =>
        obtain ⟨k, sk, rfl, hk, rfl, HS, HE⟩ := hrel
        clear B0 E2
        by_cases hlt2 : k < ts.length
        · have ck : wr.cell? ⟨tb, tof + k, none⟩ = some (.string ts[k]) := HE.out.cell (HX.out k hlt2)
          have hs := HSZ.out k hlt2
          have TN := Lib.hid (textsB_snoc ts k hlt2)
          have SKL : Hid (sk.size ≤ 100000) := Lib.hid (by
            have h1 := textsB_len (ts.take k) (by have := sumS_take ts k; omega)
            have h2 := sumS_take ts k
            have h4 := (show (Lib.decDigits ts.length).length ≤ 21 by have := Lib.itoa_length_le (ts.length : Int) (by omega) (by omega); rwa [Lib.itoa_nonneg] at this)
            have h7 : (ts.take k).length ≤ 600 := by rw [List.length_take]; omega
            have h8 := congrArg List.length HS.out
            have h9 : sk.data.toList.length = sk.size := rfl
            simp only [List.length_append, List.length_cons, lineB, List.length_nil] at h8
            omega)
          generalize ts[k] = s at ck hs TN
          have k0 : (0 : Int) ≤ (k : Int) := by omega
          have k1 : (k : Int) < (ts.length : Int) := by omega
          have hz := its_len s.size (by omega)
          have HD := Lib.hid (itS_size s.size)
          have cI := fun wq (hq : Ext wr wq) => itoa_any (s.size : Int) wq ((HP.out.ext HE.out).ext hq) (by omega) (by omega)
          generalize itS (s.size : Int) = ds at hz HD cI
          have skl := SKL.out
          have a1 : ¬ 9223372036854775807 < 1 + ds.size := by omega
          have a2 : ¬ 9223372036854775807 < sk.size + (1 + ds.size + 2) := by omega
          have a3 : ¬ 9223372036854775807 < sk.size + (1 + ds.size + 2) + (s.size + 2) := by omega
          have L1 := fun wq => (line_any (⟨#[36]⟩ ++ ds) wq (by rw [app_size]; have e9 : (⟨#[36]⟩ : ByteArray).size = 1 := rfl; omega)).mono (fun e w' h => (⟨h.1, h.2 ▸ Ext.refl wq⟩ : e = .returned (.string (⟨#[36]⟩ ++ ds ++ ⟨#[13, 10]⟩)) ∧ Ext wq w'))
          have L2 := fun wq => (line_any s wq (by omega)).mono (fun e w' h => (⟨h.1, h.2 ▸ Ext.refl wq⟩ : e = .returned (.string (s ++ ⟨#[13, 10]⟩)) ∧ Ext wq w'))
          have htb := cell_lt ck
          simp only at htb
          go_wp2_with fail
          refine wp_region_ext (by kernel_rfl) (by kernel_rfl) ?_
          repeat (
            first
              | go_big_quiet_skip
              | (go_big_quiet_want
                 go_big_quiet_op
                 first
                   | go_big_quiet_on
                   | (apply Exists.intro
                      refine ⟨fun wq hq => ?_, ?_⟩
                      focus (
                        have q1 := (Ext.cells hq).1
                        have q2 := (Ext.cells hq).2
                        first
                          | (first | (go_at_call 38; exact Calls.ext_of hq (cI _ hq)) | (go_at_call 40; ((with_reducible refine Calls.ext_of hq (L1 _)); done)) | (go_at_call 40; ((with_reducible refine Calls.ext_of hq (L2 _)); done)); done)
                          | (go_simp; exact rfl))
                      go_big_quiet_on)))
          refine wpQuiet_nil ?_
          intro wz hz9
          have HE2 := Lib.hid (HE.out.trans hz9)
          have HS2 : Hid ((sk ++ (⟨#[36]⟩ ++ ds ++ ⟨#[13, 10]⟩) ++ (s ++ ⟨#[13, 10]⟩) : ByteArray).data.toList = 42 :: lineB (Lib.decDigits ts.length) ++ textsB (ts.take (k + 1))) := Lib.hid (by
            rw [app_list, app_list, app_list, app_list, app_list, HS.out, HD.out, TN.out]; simp [textB, lineB])
          clear hz9 ck a1 a2 a3 L1 L2 cI hz HD TN
          go_wp2_with fail
          go_roundw
          case rel => exact ⟨k + 1, _, by go_num, by omega, rfl, HS2, HE2⟩
          case measure => simp [intOf]; omega
        · obtain rfl : k = ts.length := by omega
          have hf := HS.out
          rw [List.take_length] at hf
          have hsk : sk = ⟨(reqB ts).toArray⟩ := bytes_eq (by rw [hf]; simp [reqB])
          have HK := Lib.hid hsk
          clear hf hsk
          go_wp2_with fail
          go_ret2
          refine ⟨HE.out, ?_⟩
          rw [if_neg (by omega), ← HK.out]
          rfl
theorem rreq_any (w : World) (v : Value) (ts : List ByteArray) (h : TxAt w v ts) (hb : bulk ts ≤ 3000) (hpw : Pow w) : Calls Tryd.prog 15 #[v] w (RreqE w ts) := by
  by_cases h0 : ts.length = 0
  · obtain rfl := List.eq_nil_of_length_eq_zero h0
    obtain ⟨_, q, c, rfl, _⟩ := h
    exact rreq_none w q c
  · exact rreq_some w v ts h (by omega) hb hpw
end Go.Proofs.YtopdgmchkoaeeaaDoor
