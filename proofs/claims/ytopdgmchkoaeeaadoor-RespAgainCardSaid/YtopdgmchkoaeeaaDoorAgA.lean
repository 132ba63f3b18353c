/- RespAgain: the statement's walk. -/
import Derived.Test.YtopdgmchkoaeeaaDoorRtT
import Derived.Test.YtopdgmchkoaeeaaDoorExt
import Derived.Deep.DeepCutAuto
import Derived.Deep.CutBlock
namespace Go.Proofs.YtopdgmchkoaeeaaDoor
open Go.RowKit
set_option linter.unusedVariables false
set_option linter.unusedSimpArgs false

theorem req_pos (ts : List ByteArray) : 1 ≤ (reqB ts).length := by simp [reqB]
theorem parse_case (l m : List UInt8) : (∃ ts n, parseS l = .ok (ts, n) ∧ parseS (l ++ m) = .ok (ts, n) ∧ reqOk ts ∧ reqB ts = l.take n ∧ 1 ≤ n ∧ n ≤ l.length) ∨ (parseS l = .error 131 ∧ parseS (l ++ m) = .error 131) ∨ parseS l = .error 130 := by
  cases hp : parseR l with
  | ok x =>
    obtain ⟨ts, r⟩ := x
    have h1 := parse_was hp
    have h2 := (parse_goes l m).1 _ _ hp
    have hl := congrArg List.length h1.1
    rw [List.length_append] at hl
    have hpos := req_pos ts
    refine .inl ⟨ts, l.length - r.length, parseS_of hp, ?_, h1.2, ?_, by omega, by omega⟩
    · rw [parseS_of h2, List.length_append, List.length_append]
      congr 2
      omega
    · rw [show l.length - r.length = (reqB ts).length by omega]
      conv => rhs; rw [h1.1]
      rw [List.take_left]
  | error e =>
    rcases (parse_goes l m).2 _ hp with rfl | ⟨rfl, h2⟩
    · exact .inr (.inr (parseS_err hp))
    · exact .inr (.inl ⟨parseS_err hp, parseS_err h2⟩)
theorem enc_pos (x : Rep) : 1 ≤ (encR x).length := by
  obtain ⟨k, n, s, l⟩ := x
  simp only [encR]
  split
  · simp
  · split
    · simp
    · split
      · simp
      · split
        · simp
        · split
          · simp [textB]
          · simp
theorem decode_case (l m : List UInt8) : (∃ x n t i, decodeS l = .ok (x, ⟨n, t, i⟩) ∧ decodeS (l ++ m) = .ok (x, ⟨n, t, i⟩) ∧ repOkB x = true ∧ i64R x ∧ encR x = l.take n ∧ 1 ≤ n ∧ n ≤ l.length) ∨ (decodeS l = .error 131 ∧ decodeS (l ++ m) = .error 131) ∨ decodeS l = .error 130 := by
  cases hp : decodeR l with
  | ok y =>
    obtain ⟨⟨x, t, i⟩, r⟩ := y
    have h1 := decode_was hp
    have h2 := (decode_goes l m).1 _ _ hp
    have hl := congrArg List.length h1.1
    rw [List.length_append] at hl
    have hpos := enc_pos x
    refine .inl ⟨x, l.length - r.length, t, i, decodeS_of hp, ?_, (repOk_iff x).2 h1.2.1, h1.2.2, ?_, by omega, by omega⟩
    · rw [decodeS_of h2, List.length_append, List.length_append]
      congr 3
      omega
    · rw [show l.length - r.length = (encR x).length by omega]
      conv => rhs; rw [h1.1]
      rw [List.take_left]
  | error e =>
    rcases (decode_goes l m).2 _ hp with rfl | ⟨rfl, h2⟩
    · exact .inr (.inr (decodeS_err hp))
    · exact .inr (.inl ⟨decodeS_err hp, decodeS_err h2⟩)
theorem bytes_take {w : World} {q : Option Addr} {c : Nat} {l : List UInt8} (h : BytesAt w q c l) (n : Nat) (hn : n ≤ l.length) : BytesAt w q c (l.take n) := by
  have hr := h.room
  have hl := h.len
  refine ⟨fun k hk => ?_, by rw [List.length_take]; omega, h.slot, by rw [List.length_take]; omega⟩
  have hk' : k < l.length := by rw [List.length_take] at hk; omega
  obtain ⟨b, o, e, hc⟩ := h.bytes k hk'
  exact ⟨b, o, e, by rw [List.getElem_take]; exact hc⟩
theorem conv_take {w : World} {q : Option Addr} {c : Nat} {l : List UInt8} (h : BytesAt w q c l) (n : Nat) (hn : n ≤ l.length) : (convert 25 9 (.slice q n c)).run Tryd.prog w = .ok (.string ⟨(l.take n).toArray⟩) w := by
  have h1 := conv_any (bytes_take h n hn)
  rwa [List.length_take, Nat.min_eq_left hn] at h1
theorem num_ext (w : World) (c : Int) : Calls Tryd.prog 16 #[.int .i64 c] w fun e w' => e = .returned (.int .i64 c) ∧ Ext w w' := (num_any w c).mono fun e w' h => ⟨h.1, h.2 ▸ Ext.refl w⟩
/-- Parse tells three things. -/
theorem parse_tells (w : World) (q : Option Addr) (cap : Nat) (l : List UInt8) (h : BytesAt w q cap l) :
    Calls Tryd.prog 18 #[.slice q l.length cap] w fun e w' => ∃ v n c, e = .returned (.tuple #[v, .int .i64 n, .int .i64 c]) ∧ Ext w w' := by
  refine (parse_any w q cap l h).mono ?_
  intro e w' hs
  cases hp : parseS l with
  | ok x => rw [hp] at hs; obtain ⟨v, rfl, _, he⟩ := hs; exact ⟨_, _, _, rfl, he⟩
  | error c => rw [hp] at hs; exact ⟨_, _, _, hs.1, hs.2⟩
/-- What Parse tells, in one form. -/
def PrsAt (w : World) (v : Value) (n c : Int) (l : List UInt8) : Prop :=
  match parseS l with
  | .ok x => n = (x.2 : Int) ∧ c = 0 ∧ TxAt w v x.1
  | .error e => n = 0 ∧ c = e ∧ v = .slice none 0 0
theorem parse_at (w : World) (q : Option Addr) (cap : Nat) (l : List UInt8) (h : BytesAt w q cap l) :
    Calls Tryd.prog 18 #[.slice q l.length cap] w fun e w' => ∃ v n c, e = .returned (.tuple #[v, .int .i64 n, .int .i64 c]) ∧ Ext w w' ∧ PrsAt w' v n c l := by
  refine (parse_any w q cap l h).mono ?_
  intro e w' hs
  unfold PrsAt
  cases hp : parseS l with
  | ok x =>
    rw [hp] at hs
    obtain ⟨v, rfl, ht, he⟩ := hs
    refine ⟨_, _, _, rfl, he, rfl, rfl, ht.tx ?_⟩
    cases hq : parseR l with
    | ok y =>
      obtain ⟨ts, r⟩ := y
      have h1 := parse_was hq
      rw [parseS_of hq] at hp
      injection hp with hp
      subst hp
      have := h1.2.2.1
      exact Nat.le_trans this (by decide)
    | error e => rw [parseS_err hq] at hp; cases hp
  | error c => rw [hp] at hs; exact ⟨_, _, _, hs.1, hs.2, rfl, rfl, rfl⟩
theorem decode_tells (w : World) (q : Option Addr) (cap : Nat) (l : List UInt8) (h : BytesAt w q cap l) :
    Calls Tryd.prog 20 #[.slice q l.length cap] w fun e w' => ∃ v n c, e = .returned (.tuple #[v, .int .i64 n, .int .i64 c]) ∧ Ext w w' := by
  refine (decode_any w q cap l h).mono ?_
  intro e w' hs
  cases hp : decodeS l with
  | ok x => rw [hp] at hs; obtain ⟨v, rfl, _, he⟩ := hs; exact ⟨_, _, _, rfl, he⟩
  | error c => rw [hp] at hs; exact ⟨_, _, _, hs.1, hs.2⟩
set_option maxRecDepth 100000 in
set_option maxHeartbeats 4000000 in
theorem law_again_many (w : World) (q q2 : Option Addr) (c c2 : Nat) (l m : List UInt8) (hb : BytesAt w q c l) (hm : BytesAt w q2 c2 m) (hbig : 3000 < l.length ∨ 3000 < m.length) (hpw : Pow w) :
    Calls Tryd.prog 7 #[.slice q l.length c, .slice q2 m.length c2] w fun e w' => e = .returned (.bool true) ∧ Ext w w' := by
  have HW := Lib.hid (works_any w hpw)
  by_cases h1 : 3000 < l.length
  · have d1 : decide ((3000 : Int) < (l.length : Int)) = true := decide_eq_true (by omega)
    clear hb hm hpw hbig
    go_enter Tryd.func7, Tryd.ntmps7
    go_wp2_with fail
    refine HW.out.mono ?_
    rintro e w' ⟨rfl, he⟩
    have HE := Lib.hid he
    clear he
    go_wp2_with fail
    go_ret
    exact ⟨rfl, HE.out⟩
  · have d1 : decide ((3000 : Int) < (l.length : Int)) = false := decide_eq_false (by omega)
    have d2 : decide ((3000 : Int) < (m.length : Int)) = true := decide_eq_true (by omega)
    clear hb hm hpw hbig
    go_enter Tryd.func7, Tryd.ntmps7
    go_wp2_with fail
    refine HW.out.mono ?_
    rintro e w' ⟨rfl, he⟩
    have HE := Lib.hid he
    clear he
    go_wp2_with fail
    go_ret
    exact ⟨rfl, HE.out⟩
set_option maxRecDepth 100000 in
set_option maxHeartbeats 8000000 in
theorem law_again_few (w : World) (q q2 : Option Addr) (c c2 : Nat) (l m : List UInt8) (hb : BytesAt w q c l) (hm : BytesAt w q2 c2 m) (h1 : l.length ≤ 3000) (h2 : m.length ≤ 3000) (hpw : Pow w) :
    Calls Tryd.prog 7 #[.slice q l.length c, .slice q2 m.length c2] w fun e w' => e = .returned (.bool true) ∧ Ext w w' := by
  have d1 : decide ((3000 : Int) < (l.length : Int)) = false := decide_eq_false (by omega)
  have d2 : decide ((3000 : Int) < (m.length : Int)) = false := decide_eq_false (by omega)
  obtain ⟨v3, w3, hr3, ho3, hg3⟩ := append_bytes (w.alloc (.cells #[] 5)) 25 w.heap.size _ [] (empty_own w) q c l (hb.ext ((Ext.refl w).alloc _)) (by simp; omega) (by rw [size_alloc]; omega)
  have E3 := Ext.grown ((Ext.refl w).alloc (.cells #[] 5)) hg3 (fun x hx => ((empty_own w).lt x hx).1)
  obtain ⟨v4, w4, hr4, ho4, hg4⟩ := append_bytes w3 25 w.heap.size v3 l ho3 q2 c2 m (hm.ext E3) (by omega) E3.le
  have E4 : Ext w w4 := Ext.grown E3 hg4 (fun x hx => (ho3.lt x hx).1)
  obtain ⟨q3, c3, hv3, _⟩ := own_bytes ho3
  obtain ⟨q4, c4, hv4, hb4, _⟩ := own_bytes ho4
  subst hv3 hv4
  have HR3 := Lib.hid hr3
  have HR4 := Lib.hid hr4
  have HB4 := Lib.hid hb4
  have HB := Lib.hid hb
  have HP := Lib.hid hpw
  have HE4 := Lib.hid E4
  have HL : Hid ((l ++ m).length = l.length + m.length) := Lib.hid List.length_append
  clear hb hm hpw hr3 ho3 hg3 E3 hr4 ho4 hg4 E4 hb4
  go_enter Tryd.func7, Tryd.ntmps7
  go_wp2_with (first | (go_at_call 18; fail) | (at_builtin; refine wpList_append_run rfl _ _ 25 rfl _ _ _ _ rfl rfl HR3.out ?_) | (at_builtin; refine wpList_append_run rfl _ _ 25 rfl _ _ _ _ rfl rfl HR4.out ?_))
  clear HR3 HR4 d1 d2
  refine (parse_at w4 q c l (HB.out.ext HE4.out)).mono ?_
  rintro e w5 ⟨v5, n5, c5, rfl, e5, p5⟩
  have HE5 := Lib.hid (HE4.out.trans e5)
  have HE45 := Lib.hid e5
  have HP5 := Lib.hid p5
  clear e5 p5
  go_wp2_with fail
  have hc6 := parse_at w5 q4 c4 (l ++ m) (HB4.out.ext HE45.out)
  rw [HL.out] at hc6
  refine hc6.mono ?_
  clear hc6
  rintro e w6 ⟨v6, n6, c6, rfl, e6, p6⟩
  have HE6 := Lib.hid (HE5.out.trans e6)
  have HE46 := Lib.hid (HE45.out.trans e6)
  have HE56 := Lib.hid e6
  have HP6 := Lib.hid p6
  clear e6 p6 HE45
  go_upto_block 0 with (go_at_call 16; refine (num_any _ _).mono ?_; rintro e w' ⟨rfl, rfl⟩)
  go_cut [] (fun wx => Ext w6 wx)
  case first =>
    rcases parse_case l m with ⟨ts, n, p1, p2, hok, hreq, k1, k2⟩ | ⟨p1, p2⟩ | p1
    · have h5 := HP5.out
      have h6 := HP6.out
      unfold PrsAt at h5 h6
      rw [p1] at h5
      rw [p2] at h6
      obtain ⟨rfl, rfl, t5⟩ := h5
      obtain ⟨rfl, rfl, t6⟩ := h6
      have T5 := t5.ext HE56.out
      have hR := req_any w6 v5 ts T5 (HP.out.ext HE6.out)
      have HOK := Lib.hid ((reqOk_iff ts).2 hok)
      have HREQ := Lib.hid hreq
      have HTAKE := Lib.hid (show (l.take n).length = n by rw [List.length_take]; omega)
      have HB6 := Lib.hid (HB.out.ext HE6.out)
      have HT5 := Lib.hid T5
      have HT6 := Lib.hid t6
      have HRR := Lib.hid hR
      have HK := Lib.hid k2
      have j1 : decide ((n : Int) < 1) = false := decide_eq_false (by omega)
      have j2 : decide ((l.length : Int) < (n : Int)) = false := decide_eq_false (by omega)
      have j2n : decide (l.length < n) = false := decide_eq_false (by omega)
      have j1n : decide (n < 1) = false := decide_eq_false (by omega)
      have j3 : (0 : Int) ≤ (n : Int) := by omega
      have j4n : n ≤ c := by have := HB.out.room.1; omega
      have j4 : (n : Int) ≤ (c : Int) := by have := HB.out.room.1; omega
      clear T5 t5 t6 hR hok hreq k1 k2 p1 p2 HP5 HP6 h1 h2
      go_wp2_with fail
      refine HRR.out.mono ?_
      clear HRR
      rintro e w7 ⟨e7, hif⟩
      rw [if_pos HOK.out, HREQ.out] at hif
      obtain ⟨v7, rfl, q7, c7, rfl, hb7, _⟩ := hif
      rw [HTAKE.out]
      have CV1 : Hid (∀ wq, Ext w7 wq → (convert 25 9 (.slice q7 n c7)).run Tryd.prog wq = .ok (.string ⟨(l.take n).toArray⟩) wq) := Lib.hid (fun wq hq => by
        have := conv_any (hb7.ext hq)
        rwa [HTAKE.out] at this)
      have CV2 : Hid (∀ wq, Ext w7 wq → (convert 25 9 (.slice q n c)).run Tryd.prog wq = .ok (.string ⟨(l.take n).toArray⟩) wq) := Lib.hid (fun wq hq => conv_take (HB6.out.ext (e7.trans hq)) n HK.out)
      have cO : ∀ wq, Ext w7 wq → Calls Tryd.prog 17 #[v6, v5] wq fun e w' => e = .returned (.bool true) ∧ Ext wq w' := fun wq hq => by
        have := one_any' wq v6 v5 ts ts (HT6.out.ext (e7.trans hq)) (HT5.out.ext (e7.trans hq))
        rwa [show sameT ts ts = true from decide_eq_true rfl] at this
      have HE7 := Lib.hid e7
      generalize (⟨(l.take n).toArray⟩ : ByteArray) = S at CV1 CV2
      clear e7 hb7 HTAKE HREQ HOK HB6 HT5 HT6 HK
      go_upto_region 11 with fail
      refine wp_region_ext (by kernel_rfl) (by kernel_rfl) ?_
      repeat (
        first
          | go_big_quiet_skip
          | (go_big_quiet_want
             go_big_quiet_op
             first
               | go_big_quiet_on
               | (apply Exists.intro
                  refine ⟨fun wq hq => ?_, ?_⟩
                  focus (
                    have q1 := (Ext.cells hq).1
                    have q2 := (Ext.cells hq).2
                    have v1 := CV1.out wq hq
                    have v2 := CV2.out wq hq
                    first
                      | (first | (go_at_call 16; exact Calls.ext_of hq (num_ext _ _)) | (go_at_call 17; exact Calls.ext_of hq (cO _ hq)); done)
                      | (go_simp; exact rfl))
                  go_big_quiet_on)))
      refine wpQuiet_nil ?_
      intro we hwe
      clear cO CV1 CV2 j1 j2 j3 j4
      go_wp2_with fail
      go_meet
      exact HE7.out.trans hwe
    · have h5 := HP5.out
      have h6 := HP6.out
      unfold PrsAt at h5 h6
      rw [p1] at h5
      rw [p2] at h6
      obtain ⟨rfl, rfl, rfl⟩ := h5
      obtain ⟨rfl, rfl, rfl⟩ := h6
      clear p1 p2 HP5 HP6 h1 h2
      go_wp2_with (go_at_call 16; refine (num_any _ _).mono ?_; rintro e w' ⟨rfl, rfl⟩)
      go_meet
      exact Ext.refl _
    · have h5 := HP5.out
      unfold PrsAt at h5
      rw [p1] at h5
      obtain ⟨rfl, rfl, rfl⟩ := h5
      clear p1 HP5 HP6 h1 h2
      go_wp2_with (go_at_call 16; refine (num_any _ _).mono ?_; rintro e w' ⟨rfl, rfl⟩)
      go_meet
      exact Ext.refl _
  case rest =>
    have HE6c := Lib.hid (HE6.out.trans hcut)
    have HB4c := Lib.hid (HB4.out.ext (HE46.out.trans hcut))
    clear hcut HP5 HP6 HE46 HE56 HE5 HE6
    rcases decode_case l m with ⟨x, n, t, i, p1, p2, hok, h64, henc, k1, k2⟩ | ⟨p1, p2⟩ | p1
    · have hD1 := decode_any wc q c l (HB.out.ext HE6c.out)
      rw [p1] at hD1
      have HD1 := Lib.hid hD1
      have HDW := Lib.hid p2
      have HOK := Lib.hid hok
      have H64 := Lib.hid h64
      have HENC := Lib.hid henc
      have HTAKE := Lib.hid (show (l.take n).length = n by rw [List.length_take]; omega)
      have HK := Lib.hid k2
      have j1 : decide ((1 : Int) ≤ (n : Int)) = true := decide_eq_true (by omega)
      have j2 : decide ((n : Int) ≤ (l.length : Int)) = true := decide_eq_true (by omega)
      have j2n : decide (n ≤ l.length) = true := decide_eq_true (by omega)
      have j1n : decide (1 ≤ n) = true := decide_eq_true (by omega)
      have j3 : (0 : Int) ≤ (n : Int) := by omega
      have j4n : n ≤ c := by have := HB.out.room.1; omega
      have j4 : (n : Int) ≤ (c : Int) := by omega
      clear p1 p2 hok h64 henc k1 k2 hD1 h1 h2
      go_wp2_with fail
      refine HD1.out.mono ?_
      clear HD1
      rintro e w7 ⟨v7, rfl, ⟨lv7, rfl, hL7⟩, e7⟩
      obtain ⟨q7, c7, hlv7⟩ : ∃ q' c', lv7 = .slice q' x.l.length c' := hL7.slice
      subst hlv7
      have HBX := Lib.hid (Blk.new w7 41 #[.int .i64 x.k, .int .i64 x.n, .string x.s, .slice q7 x.l.length c7])
      have HE78 := Lib.hid ((Ext.refl w7).alloc (.cells #[.int .i64 x.k, .int .i64 x.n, .string x.s, .slice q7 x.l.length c7] 41))
      have HL7 := Lib.hid hL7
      have HE7 := Lib.hid (HE6c.out.trans e7)
      have HEc7 := Lib.hid e7
      clear hL7 e7
      go_wp2_with fail
      generalize w7.alloc (.cells #[.int .i64 x.k, .int .i64 x.n, .string x.s, .slice q7 x.l.length c7] 41) = w8 at HBX HE78 ⊢
      have HE8 := Lib.hid (HE7.out.trans HE78.out)
      have HEc8 := Lib.hid (HEc7.out.trans HE78.out)
      have hD2 := decode_any w8 q4 c4 (l ++ m) (HB4c.out.ext HEc8.out)
      rw [HDW.out, HL.out] at hD2
      refine hD2.mono ?_
      clear hD2
      rintro e w9 ⟨v9, rfl, _, e9⟩
      have x0 : w9.cell? ⟨w7.heap.size, 0, none⟩ = some (.int .i64 x.k) := (HBX.out.ext e9).cell 0
      have x1 : w9.cell? ⟨w7.heap.size, 1, none⟩ = some (.int .i64 x.n) := (HBX.out.ext e9).cell 1
      have x2 : w9.cell? ⟨w7.heap.size, 2, none⟩ = some (.string x.s) := (HBX.out.ext e9).cell 2
      have x3 : w9.cell? ⟨w7.heap.size, 3, none⟩ = some (.slice q7 x.l.length c7) := (HBX.out.ext e9).cell 3
      have HE9 := Lib.hid (HE8.out.trans e9)
      have HCE := Lib.hid (encode_any w9 x q7 c7 100 ((HL7.out.ext (HE78.out.trans e9)).keep (fun _ _ _ _ h => h) (fun b hb _ => hb)) H64.out (HP.out.ext HE9.out))
      clear e9 HL7 HBX HE78
      go_wp2_with (go_at_call 16; refine (num_any _ _).mono ?_; rintro e w' ⟨rfl, rfl⟩)
      refine HCE.out.mono ?_
      clear HCE x0 x1 x2 x3
      rintro e w10 ⟨e10, hif⟩
      rw [if_pos HOK.out, HENC.out] at hif
      obtain ⟨v10, rfl, q10, c10, rfl, hb10, _⟩ := hif
      rw [HTAKE.out]
      have CV1 : Hid (∀ wq, Ext w10 wq → (convert 25 9 (.slice q10 n c10)).run Tryd.prog wq = .ok (.string ⟨(l.take n).toArray⟩) wq) := Lib.hid (fun wq hq => by
        have := conv_any (hb10.ext hq)
        rwa [HTAKE.out] at this)
      have CV2 : Hid (∀ wq, Ext w10 wq → (convert 25 9 (.slice q n c)).run Tryd.prog wq = .ok (.string ⟨(l.take n).toArray⟩) wq) := Lib.hid (fun wq hq => conv_take ((HB.out.ext HE9.out).ext (e10.trans hq)) n HK.out)
      have cW : ∀ wq, Ext w10 wq → Calls Tryd.prog 13 #[] wq fun e w' => e = .returned (.bool true) ∧ Ext wq w' := fun wq hq => works_any wq ((HP.out.ext HE9.out).ext (e10.trans hq))
      have HE10 := Lib.hid (HE9.out.trans e10)
      generalize (⟨(l.take n).toArray⟩ : ByteArray) = S at CV1 CV2
      clear e10 hb10 HTAKE HENC HOK HK H64 HDW
      go_upto_region 21 with fail
      refine wp_region_ext (by kernel_rfl) (by kernel_rfl) ?_
      repeat (
        first
          | go_big_quiet_skip
          | (go_big_quiet_want
             go_big_quiet_op
             first
               | go_big_quiet_on
               | (apply Exists.intro
                  refine ⟨fun wq hq => ?_, ?_⟩
                  focus (
                    have q1 := (Ext.cells hq).1
                    have q2 := (Ext.cells hq).2
                    have v1 := CV1.out wq hq
                    have v2 := CV2.out wq hq
                    first
                      | (first | (go_at_call 16; exact Calls.ext_of hq (num_ext _ _)) | (go_at_call 13; exact Calls.ext_of hq (cW _ hq)); done)
                      | (go_simp; exact rfl))
                  go_big_quiet_on)))
      refine wpQuiet_nil ?_
      intro we hwe
      clear cW CV1 CV2 j1 j2 j3 j4 j1n j2n j4n
      go_wp2_with fail
      go_ret
      exact ⟨rfl, HE10.out.trans hwe⟩
    · have hD1 := decode_any wc q c l (HB.out.ext HE6c.out)
      rw [p1] at hD1
      have HD1 := Lib.hid hD1
      have HDW := Lib.hid p2
      clear p1 p2 hD1 h1 h2
      go_wp2_with fail
      refine HD1.out.mono ?_
      clear HD1
      rintro e w7 ⟨rfl, e7⟩
      unfold zeroRep
      have HE7 := Lib.hid (HE6c.out.trans e7)
      have HEc7 := Lib.hid e7
      clear e7
      go_wp2_with fail
      have HE8 := Lib.hid (HE7.out.alloc (.cells #[.int .i64 0, .int .i64 0, .string ⟨#[]⟩, .slice none 0 0] 41))
      have HEc8 := Lib.hid (HEc7.out.alloc (.cells #[.int .i64 0, .int .i64 0, .string ⟨#[]⟩, .slice none 0 0] 41))
      have hD2 := decode_any _ q4 c4 (l ++ m) (HB4c.out.ext HEc8.out)
      rw [HDW.out, HL.out] at hD2
      refine hD2.mono ?_
      clear hD2
      rintro e w9 ⟨rfl, e9⟩
      unfold zeroRep
      have HE9 := Lib.hid (HE8.out.trans e9)
      have HW := Lib.hid (works_any w9 (HP.out.ext HE9.out))
      clear e9 HE8
      go_wp2_with (go_at_call 16; refine (num_any _ _).mono ?_; rintro e w' ⟨rfl, rfl⟩)
      refine HW.out.mono ?_
      rintro e w10 ⟨rfl, e10⟩
      have HE10 := Lib.hid (HE9.out.trans e10)
      clear e10 HW
      go_wp2_with fail
      go_ret
      exact ⟨rfl, HE10.out⟩
    · have hD1 := decode_any wc q c l (HB.out.ext HE6c.out)
      rw [p1] at hD1
      have HD1 := Lib.hid hD1
      clear p1 hD1 h1 h2
      go_wp2_with fail
      refine HD1.out.mono ?_
      clear HD1
      rintro e w7 ⟨rfl, e7⟩
      unfold zeroRep
      have HE7 := Lib.hid (HE6c.out.trans e7)
      have HEc7 := Lib.hid e7
      clear e7
      go_wp2_with fail
      have HE8 := Lib.hid (HE7.out.alloc (.cells #[.int .i64 0, .int .i64 0, .string ⟨#[]⟩, .slice none 0 0] 41))
      have HEc8 := Lib.hid (HEc7.out.alloc (.cells #[.int .i64 0, .int .i64 0, .string ⟨#[]⟩, .slice none 0 0] 41))
      have hD2 := decode_tells _ q4 c4 (l ++ m) (HB4c.out.ext HEc8.out)
      rw [HL.out] at hD2
      refine hD2.mono ?_
      clear hD2
      rintro e w9 ⟨v9, n9, c9, rfl, e9⟩
      have HE9 := Lib.hid (HE8.out.trans e9)
      have HW := Lib.hid (works_any w9 (HP.out.ext HE9.out))
      clear e9 HE8
      go_wp2_with (go_at_call 16; refine (num_any _ _).mono ?_; rintro e w' ⟨rfl, rfl⟩)
      refine HW.out.mono ?_
      rintro e w10 ⟨rfl, e10⟩
      have HE10 := Lib.hid (HE9.out.trans e10)
      clear e10 HW
      go_wp2_with fail
      go_ret
      exact ⟨rfl, HE10.out⟩
end Go.Proofs.YtopdgmchkoaeeaaDoor
