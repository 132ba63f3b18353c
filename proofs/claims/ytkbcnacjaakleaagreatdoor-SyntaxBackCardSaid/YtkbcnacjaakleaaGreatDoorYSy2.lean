/- loop: what stands behind for. -/
import Derived.Test.YtkbcnacjaakleaaGreatDoorYP22
set_option maxRecDepth 100000
set_option maxHeartbeats 32000000
set_option linter.unusedVariables false
set_option linter.unusedSimpArgs false
namespace Go.Proofs.YtkbcnacjaakleaaGreatDoor
open Go.RowKit

theorem St.slice3 {w W : World} {r : Nat} {q : Option Addr} {c : Nat} {z : Wz} {s : Ps} {K : List (Nat × Obj)} {N : List Pt} {lv tv : Value} {l : List Nd} {tl : List ByteArray} (h : St w W r q c z s K N lv l tv tl) : ∃ q m c, lv = Value.slice q m c := by
 obtain ⟨q, c, e⟩ := h.row.slice
 exact ⟨q, _, c, e⟩
theorem St.onet {w W : World} {r : Nat} {q : Option Addr} {c : Nat} {z : Wz} {s : Ps} {K : List (Nat × Obj)} {N : List Pt} {lv tv : Value} {l : List Nd} {tl : List ByteArray} (h : St w W r q c z s K N lv l tv tl) (x : ByteArray) :
  St w (W.alloc (.cells #[.string x] 9)) r q c z s K (.tx (.slice (some ⟨W.heap.size, 0, none⟩) 1 1) [x] :: N) lv l tv tl := by
 have hok := h.okb
 have hb := Blk.new W 9 #[.string x]
 refine (h.ext ((Ext.refl W).alloc _)).add ⟨_, 1, rfl, fun _ => ⟨W.heap.size, 0, rfl, hok, Nat.le_refl _, fun i hi => ?_⟩⟩
 obtain rfl : i = 0 := by simp at hi; exact hi
 exact hb.cell 0
theorem loop_any {f : Nat} (hC : Con f) (w : World) (r : Nat) (q : Option Addr) (c : Nat) (z : Wz) (s : Ps) (h : RdAt w r q c z s) (hf : 10 * (z.ws.length - s.p) + 9 ≤ f + 10) :
  Calls Tryz.prog 180 #[.pointer (some ⟨r, 0, none⟩)] w (RdR (EncN w) w r q c z (loopR z (pz z f) s)) := by
 obtain ⟨res, hres⟩ : ∃ res, loopR z (pz z f) s = res := ⟨_, rfl⟩
 rw [hres]
 have HC := Lib.hid hC
 have H0 := Lib.hid ((St.start h).newK ndZ)
 have hle := h.le
 have hlen := h.len
 have hlow := h.lt
 unfold loopR at hres
 have HR := Lib.hid hres
 clear hres h hC
 go_enter Tryz.func180, Tryz.ntmps180
 go_wp2_with fail
 refine (name_any' (w.alloc ndZ) r q c z s H0.out.rd).mono ?_
 intro e w3 hE
 cases hx : nameR z s with
 | error y =>
  obtain ⟨rfl, o9⟩ := hE.no hx
  have HRE := Lib.hid (show res = .error y by rw [← HR.out, hx])
  clear hE hx
  go_wp2_with fail
  exact ⟨rfl, H0.out.giv HRE.out o9⟩
 | ok y =>
  obtain ⟨nm, s1⟩ := y
  obtain ⟨v, rfl, hv, r3, o3⟩ := hE.yes hx
  obtain rfl : v = .string nm := hv
  have g1 := And.intro (nameR_gt hx).1 (nameR_gt hx).2.1
  have HR1 := Lib.hid (show (match wantP z s1 [61] with
    | .error e => .error e
    | .ok (_, s2) => match (pz z f).ex 0 s2 with
     | .error e => .error e
     | .ok (a, s3) => match wantP z s3 [44] with
      | .error e => .error e
      | .ok (_, s4) => match (pz z f).ex 0 s4 with
       | .error e => .error e
       | .ok (b, s5) =>
        if isW z s5.p [44] then (match (pz z f).ex 0 ⟨s5.p + 1, s5.o⟩ with
         | .error e => .error e
         | .ok (c, s6) => loopE z (pz z f) nm [a, b, c] s6)
        else loopE z (pz z f) nm [a, b] s5) = res by rw [← HR.out, hx]; rfl)
  have hws : w.heap.size < w3.heap.size := by have := o3.le; rw [size_alloc] at this; omega
  have S30 := ((H0.out.call o3 r3).onet nm).newK (ndBx (.int .i64 6) (.string ⟨#[]⟩) (.string ⟨#[]⟩) (.int .i64 0) (.slice (some ⟨w3.heap.size, 0, none⟩) 1 1) (.slice none 0 0))
  rw [size_alloc] at S30
  have S3 := Lib.hid S30
  clear hE hx r3 o3 H0 HR S30
  go_upto_region 2 with (fail)
  generalize (w3.alloc (.cells #[.string nm] 9)).alloc (.cells #[.int .i64 6, .string ⟨#[]⟩, .string ⟨#[]⟩, .int .i64 0, .slice (some ⟨w3.heap.size, 0, none⟩) 1 1, .slice none 0 0] 28) = W3 at *
  go_wp2_with fail
  refine (want_any W3 r q c z s1 [61] S3.out.rd).mono ?_
  intro e w4 hE
  cases hx : wantP z s1 [61] with
  | error y =>
   obtain ⟨rfl, o9⟩ := hE.no hx
   have HRE := Lib.hid (show res = .error y by rw [← HR1.out, hx])
   clear hE hx
   go_wp2_with fail
   exact ⟨rfl, S3.out.giv HRE.out o9⟩
  | ok y =>
   obtain ⟨u, s2⟩ := y
   obtain ⟨v, rfl, hv, r9, o9⟩ := hE.yes hx
   have g2 := And.intro (want_gt hx).1 (want_gt hx).2.1
   have HR2 := Lib.hid (show (match (pz z f).ex 0 s2 with
      | .error e => .error e
      | .ok (a, s3) => match wantP z s3 [44] with
       | .error e => .error e
       | .ok (_, s4) => match (pz z f).ex 0 s4 with
        | .error e => .error e
        | .ok (b, s5) =>
         if isW z s5.p [44] then (match (pz z f).ex 0 ⟨s5.p + 1, s5.o⟩ with
          | .error e => .error e
          | .ok (c, s6) => loopE z (pz z f) nm [a, b, c] s6)
         else loopE z (pz z f) nm [a, b] s5) = res by rw [← HR1.out, hx]; first | done | rfl)
   have S4 := Lib.hid (S3.out.call o9 r9)
   clear hE hx hv r9 o9 S3 HR1
   go_wp2_with fail
   obtain ⟨_, _, _, _, _, y5, _⟩ := S4.out.six
   have SC := Lib.hid S4.out.drew
   cases hx : (pz z f).ex 0 s2 with
   | error y =>
    have HRE := Lib.hid (show res = .error y by rw [← HR2.out, hx])
    have HX := Lib.hid hx
    clear hx S4
    refine wp_region_gate (S := fun w' => w'.cell? ⟨w3.heap.size + 1, 5, none⟩ = some (.slice none 0 0)) (g := 5) (by kernel_rfl) (y5) (fun hHeld => ?_)
    refine puG (i := 0) (v := ?_) ?_
    try simp only [Act.put, pzz]
    refine tkG (i := 1) (v := ?_) ?_
    try simp only [Act.put, pzz]
    refine puG (i := 2) (v := ?_) ?_
    try simp only [Act.put, pzz]
    refine wpAnyG_ready (rs := [3]) (by kernel_rfl) (by simp) ?_
    refine AllReadyG.held rfl (fun K hK => ?_) AllReadyG.nil
    go_simp
    refine (HC.out.ex0 _ r q c z s2 SC.out.rd (by first | omega | (simp only; omega))).mono ?_
    intro e w3 hE
    obtain ⟨rfl, o3⟩ := hE.no HX.out
    exact ⟨rfl, SC.out.giv HRE.out o3⟩
   | ok y =>
    obtain ⟨xa, s3⟩ := y
    have g3 := And.intro (pz_ex_gt hx).1 (pz_ex_gt hx).2.1
    have HR3 := Lib.hid (show (match wantP z s3 [44] with
        | .error e => .error e
        | .ok (_, s4) => match (pz z f).ex 0 s4 with
         | .error e => .error e
         | .ok (b, s5) =>
          if isW z s5.p [44] then (match (pz z f).ex 0 ⟨s5.p + 1, s5.o⟩ with
           | .error e => .error e
           | .ok (c, s6) => loopE z (pz z f) nm [xa, b, c] s6)
          else loopE z (pz z f) nm [xa, b] s5) = res by rw [← HR2.out, hx]; first | done | rfl)
    have HX := Lib.hid hx
    clear hx S4 HR2
    refine wp_region_gate (S := fun w' => w'.cell? ⟨w3.heap.size + 1, 5, none⟩ = some (.slice none 0 0)) (g := 5) (by kernel_rfl) (y5) (fun hHeld => ?_)
    refine puG (i := 0) (v := ?_) ?_
    try simp only [Act.put, pzz]
    refine tkG (i := 1) (v := ?_) ?_
    try simp only [Act.put, pzz]
    refine puG (i := 2) (v := ?_) ?_
    try simp only [Act.put, pzz]
    refine wpAnyG_ready (rs := [3]) (by kernel_rfl) (by simp) ?_
    refine AllReadyG.held rfl (fun K hK => ?_) AllReadyG.nil
    go_simp
    refine (HC.out.ex0 _ r q c z s2 SC.out.rd (by first | omega | (simp only; omega))).mono ?_
    intro e w5 hE
    obtain ⟨v2, rfl, hv, r3, o3⟩ := hE.yes HX.out
    obtain ⟨qn2, mn2, ql2, ml2, rfl⟩ := EncN.open hv
    have SG := SC.out.got o3 r3 hv
    obtain ⟨_, _, _, _, _, z5, _⟩ := SG.six
    obtain ⟨v', W6, hrun, S4⟩ := SG.push (x := xa) (List.mem_cons_self ..) (by simp) 26
    obtain ⟨qv', mv', cv', rfl⟩ := S4.slice3
    obtain ⟨nl2, hnl2⟩ : ∃ n, xa.names.length = n := ⟨_, rfl⟩
    obtain ⟨kl2, hkl2⟩ : ∃ n, xa.kids.length = n := ⟨_, rfl⟩
    rw [hnl2, hkl2] at hrun ⊢
    obtain ⟨_, _, _, _, _, k5, _, _, _, _, _, m5⟩ := S4.six
    have l5 := (S4.fst (List.mem_cons_self ..)).2
    have KK := Lib.hid (And.intro k5 m5)
    have HRUN := Lib.hid hrun
    have S5 := Lib.hid (S4.set5 (by intro p hp; simp at hp; rw [hp]; simp only; omega) (.slice qv' mv' cv'))
    clear hE r3 o3 hv SC SG hrun k5 m5 S4 hnl2 hkl2
    clear hHeld
    refine hK.out _ _ (z5) (fun hHeld => ?_)
    clear hK K
    try simp only [Act.put, pzz]
    refine wpAnyG_ready (rs := [4]) (by kernel_rfl) (by simp) ?_
    refine AllReadyG.held rfl (fun K hK => ?_) AllReadyG.nil
    go_simp
    clear hHeld
    refine hK.out _ _ ?_ (fun hHeld => ?_)
    focus (
     (try dsimp only)
     go_keep)
    clear hK K
    try simp only [Act.put, pzz]
    refine wpAnyG_ready (rs := [5]) (by kernel_rfl) (by simp) ?_
    refine AllReadyG.free rfl (by kernel_rfl) (fun K hK => ?_) AllReadyG.nil
    clear z5 y5
    refine step_append_runs rfl _ _ 26 rfl _ _ _ _ rfl rfl HRUN.out ?_
    clear HRUN
    clear hHeld
    refine hK.out _ _ ?_
    clear hK K
    try simp only [Act.put, pzz]
    refine puG (i := 6) (v := ?_) ?_ (hS := fun h => absurd h (by decide))
    try simp only [Act.put, pzz]
    refine wpAnyG_ready (rs := [7]) (by kernel_rfl) (by simp) ?_
    refine AllReadyG.free rfl (by kernel_rfl) (fun K hK => ?_) AllReadyG.nil
    obtain ⟨k5, m5⟩ := KK.out
    go_simp
    clear k5 m5 KK l5
    refine hK.out _ _ ?_
    clear hK K
    try simp only [Act.put, pzz]
    refine wpAnyG_done (by kernel_rfl) ?_ _
    generalize W6.setCell ⟨w3.heap.size + 1, 5, none⟩ (.slice qv' mv' cv') = W7 at *
    go_wp2_with fail
    refine (want_any W7 r q c z s3 [44] S5.out.rd).mono ?_
    intro e w8 hE
    cases hx : wantP z s3 [44] with
    | error y =>
     obtain ⟨rfl, o9⟩ := hE.no hx
     have HRE := Lib.hid (show res = .error y by rw [← HR3.out, hx])
     clear hE hx
     go_wp2_with fail
     exact ⟨rfl, S5.out.giv HRE.out o9⟩
    | ok y =>
     obtain ⟨u, s4⟩ := y
     obtain ⟨v, rfl, hv, r9, o9⟩ := hE.yes hx
     have g4 := And.intro (want_gt hx).1 (want_gt hx).2.1
     have HR4 := Lib.hid (show (match (pz z f).ex 0 s4 with
          | .error e => .error e
          | .ok (b, s5) =>
           if isW z s5.p [44] then (match (pz z f).ex 0 ⟨s5.p + 1, s5.o⟩ with
            | .error e => .error e
            | .ok (c, s6) => loopE z (pz z f) nm [xa, b, c] s6)
           else loopE z (pz z f) nm [xa, b] s5) = res by rw [← HR3.out, hx]; first | done | rfl)
     have S6 := Lib.hid (S5.out.call o9 r9)
     clear hE hx hv r9 o9 S5 HR3
     go_wp2_with fail
     obtain ⟨_, _, _, _, _, y5, _⟩ := S6.out.six
     have SC := Lib.hid S6.out.drew
     cases hx : (pz z f).ex 0 s4 with
     | error y =>
      have HRE := Lib.hid (show res = .error y by rw [← HR4.out, hx])
      have HX := Lib.hid hx
      clear hx S6
      refine wp_region_gate (S := fun w' => w'.cell? ⟨w3.heap.size + 1, 5, none⟩ = some (.slice qv' mv' cv')) (g := 5) (by kernel_rfl) (y5) (fun hHeld => ?_)
      refine puG (i := 0) (v := ?_) ?_
      try simp only [Act.put, pzz]
      refine tkG (i := 1) (v := ?_) ?_
      try simp only [Act.put, pzz]
      refine puG (i := 2) (v := ?_) ?_
      try simp only [Act.put, pzz]
      refine wpAnyG_ready (rs := [3]) (by kernel_rfl) (by simp) ?_
      refine AllReadyG.held rfl (fun K hK => ?_) AllReadyG.nil
      go_simp
      refine (HC.out.ex0 _ r q c z s4 SC.out.rd (by first | omega | (simp only; omega))).mono ?_
      intro e w3 hE
      obtain ⟨rfl, o3⟩ := hE.no HX.out
      exact ⟨rfl, SC.out.giv HRE.out o3⟩
     | ok y =>
      obtain ⟨xb, s5⟩ := y
      have g5 := And.intro (pz_ex_gt hx).1 (pz_ex_gt hx).2.1
      have HR5 := Lib.hid (show (if isW z s5.p [44] then (match (pz z f).ex 0 ⟨s5.p + 1, s5.o⟩ with
             | .error e => .error e
             | .ok (c, s6) => loopE z (pz z f) nm [xa, xb, c] s6)
            else loopE z (pz z f) nm [xa, xb] s5) = res by rw [← HR4.out, hx]; first | done | rfl)
      have HX := Lib.hid hx
      clear hx S6 HR4
      refine wp_region_gate (S := fun w' => w'.cell? ⟨w3.heap.size + 1, 5, none⟩ = some (.slice qv' mv' cv')) (g := 5) (by kernel_rfl) (y5) (fun hHeld => ?_)
      refine puG (i := 0) (v := ?_) ?_
      try simp only [Act.put, pzz]
      refine tkG (i := 1) (v := ?_) ?_
      try simp only [Act.put, pzz]
      refine puG (i := 2) (v := ?_) ?_
      try simp only [Act.put, pzz]
      refine wpAnyG_ready (rs := [3]) (by kernel_rfl) (by simp) ?_
      refine AllReadyG.held rfl (fun K hK => ?_) AllReadyG.nil
      go_simp
      refine (HC.out.ex0 _ r q c z s4 SC.out.rd (by first | omega | (simp only; omega))).mono ?_
      intro e w9 hE
      obtain ⟨v2, rfl, hv, r3, o3⟩ := hE.yes HX.out
      obtain ⟨qn2, mn2, ql2, ml2, rfl⟩ := EncN.open hv
      have SG := SC.out.got o3 r3 hv
      obtain ⟨_, _, _, _, _, z5, _⟩ := SG.six
      obtain ⟨v', W10, hrun, S4⟩ := SG.push (x := xb) (List.mem_cons_self ..) (by simp) 26
      obtain ⟨qb, mb, cb, rfl⟩ := S4.slice3
      obtain ⟨nl2, hnl2⟩ : ∃ n, xb.names.length = n := ⟨_, rfl⟩
      obtain ⟨kl2, hkl2⟩ : ∃ n, xb.kids.length = n := ⟨_, rfl⟩
      rw [hnl2, hkl2] at hrun ⊢
      obtain ⟨_, _, _, _, _, k5, _, _, _, _, _, m5⟩ := S4.six
      have l5 := (S4.fst (List.mem_cons_self ..)).2
      have KK := Lib.hid (And.intro k5 m5)
      have HRUN := Lib.hid hrun
      have S7 := Lib.hid (S4.set5 (by intro p hp; simp at hp; rw [hp]; simp only; omega) (.slice qb mb cb))
      clear hE r3 o3 hv SC SG hrun k5 m5 S4 hnl2 hkl2
      clear hHeld
      refine hK.out _ _ (z5) (fun hHeld => ?_)
      clear hK K
      try simp only [Act.put, pzz]
      refine wpAnyG_ready (rs := [4]) (by kernel_rfl) (by simp) ?_
      refine AllReadyG.held rfl (fun K hK => ?_) AllReadyG.nil
      go_simp
      clear hHeld
      refine hK.out _ _ ?_ (fun hHeld => ?_)
      focus (
       (try dsimp only)
       go_keep)
      clear hK K
      try simp only [Act.put, pzz]
      refine wpAnyG_ready (rs := [5]) (by kernel_rfl) (by simp) ?_
      refine AllReadyG.free rfl (by kernel_rfl) (fun K hK => ?_) AllReadyG.nil
      clear z5 y5
      refine step_append_runs rfl _ _ 26 rfl _ _ _ _ rfl rfl HRUN.out ?_
      clear HRUN
      clear hHeld
      refine hK.out _ _ ?_
      clear hK K
      try simp only [Act.put, pzz]
      refine puG (i := 6) (v := ?_) ?_ (hS := fun h => absurd h (by decide))
      try simp only [Act.put, pzz]
      refine wpAnyG_ready (rs := [7]) (by kernel_rfl) (by simp) ?_
      refine AllReadyG.free rfl (by kernel_rfl) (fun K hK => ?_) AllReadyG.nil
      obtain ⟨k5, m5⟩ := KK.out
      go_simp
      clear k5 m5 KK l5
      refine hK.out _ _ ?_
      clear hK K
      try simp only [Act.put, pzz]
      refine wpAnyG_done (by kernel_rfl) ?_ _
      generalize W10.setCell ⟨w3.heap.size + 1, 5, none⟩ (.slice qb mb cb) = W11 at *
      go_wp2_with fail
      have cT := take_any W11 r q c z s5 [44] S7.out.rd
      cases hb : isW z s5.p [44] with
      | false =>
       rw [hb, skipP_no hb] at cT
       have HR6 := Lib.hid (show loopE z (pz z f) nm [xa, xb] s5 = res by rw [← HR5.out, if_neg (by rw [hb]; decide)])
       clear hb HR5
       refine cT.mono ?_
       rintro e w12 ⟨rfl, r12, o12⟩
       have S8 := Lib.hid (S7.out.call o12 r12)
       clear r12 o12 cT S7
       have HRD := Lib.hid (show (match wantP z s5 tDo with | .error e => .error e | .ok (_, s1) => match endedR z (pz z f).st s1 with | .error e => .error e | .ok (b, s2) => .ok (ndL 6 [nm] ([xa, xb] ++ [b]), s2)) = res from HR6.out)
       go_wp2_with fail
       refine (want_any w12 r q c z s5 tDo S8.out.rd).mono ?_
       intro e wd hE
       cases hx : wantP z s5 tDo with
       | error y =>
        obtain ⟨rfl, o9⟩ := hE.no hx
        have HRE := Lib.hid (show res = .error y by rw [← HRD.out, hx])
        clear hE hx
        go_wp2_with fail
        exact ⟨rfl, S8.out.giv HRE.out o9⟩
       | ok y =>
        obtain ⟨u, sd⟩ := y
        obtain ⟨v, rfl, hv, r9, o9⟩ := hE.yes hx
        have gd := And.intro (want_gt hx).1 (want_gt hx).2.1
        have HRE2 := Lib.hid (show (match endedR z (pz z f).st sd with | .error e => .error e | .ok (b, s2) => .ok (ndL 6 [nm] ([xa, xb] ++ [b]), s2)) = res by rw [← HRD.out, hx]; first | done | rfl)
        have SD := Lib.hid (S8.out.call o9 r9)
        clear hE hx hv r9 o9 S8 HRD
        go_wp2_with fail
        obtain ⟨_, _, _, _, _, y5, _⟩ := SD.out.six
        have SC := Lib.hid SD.out.drew
        have hse : 1 ≤ sd.p ∧ 10 * (z.ws.length - sd.p) + 9 ≤ f := ⟨by omega, by omega⟩
        cases hx : endedR z (pz z f).st sd with
        | error y =>
         have HRE := Lib.hid (show res = .error y by rw [← HRE2.out, hx])
         have HX := Lib.hid hx
         clear hx SD
         refine wp_region_gate (S := fun w' => w'.cell? ⟨w3.heap.size + 1, 5, none⟩ = some (.slice qb mb cb)) (g := 5) (by kernel_rfl) (y5) (fun hHeld => ?_)
         refine puG (i := 0) (v := ?_) ?_
         try simp only [Act.put, pzz]
         refine tkG (i := 1) (v := ?_) ?_
         try simp only [Act.put, pzz]
         refine puG (i := 2) (v := ?_) ?_
         try simp only [Act.put, pzz]
         refine wpAnyG_ready (rs := [3]) (by kernel_rfl) (by simp) ?_
         refine AllReadyG.held rfl (fun K hK => ?_) AllReadyG.nil
         go_simp
         refine (ended_any HC.out _ r q c z sd SC.out.rd hse.1 hse.2).mono ?_
         intro e w3 hE
         obtain ⟨rfl, o3⟩ := hE.no HX.out
         exact ⟨rfl, SC.out.giv HRE.out o3⟩
        | ok y =>
         obtain ⟨xe, se⟩ := y
         have HRF := Lib.hid (show res = .ok (ndL 6 [nm] ([xa, xb] ++ [xe]), se) by rw [← HRE2.out, hx])
         have HX := Lib.hid hx
         clear hx SD HRE2
         refine wp_region_gate (S := fun w' => w'.cell? ⟨w3.heap.size + 1, 5, none⟩ = some (.slice qb mb cb)) (g := 5) (by kernel_rfl) (y5) (fun hHeld => ?_)
         refine puG (i := 0) (v := ?_) ?_
         try simp only [Act.put, pzz]
         refine tkG (i := 1) (v := ?_) ?_
         try simp only [Act.put, pzz]
         refine puG (i := 2) (v := ?_) ?_
         try simp only [Act.put, pzz]
         refine wpAnyG_ready (rs := [3]) (by kernel_rfl) (by simp) ?_
         refine AllReadyG.held rfl (fun K hK => ?_) AllReadyG.nil
         go_simp
         refine (ended_any HC.out _ r q c z sd SC.out.rd hse.1 hse.2).mono ?_
         intro e we hE
         obtain ⟨v2, rfl, hv, r3, o3⟩ := hE.yes HX.out
         obtain ⟨qn2, mn2, ql2, ml2, rfl⟩ := EncN.open hv
         have SG := SC.out.got o3 r3 hv
         obtain ⟨_, _, _, _, _, z5, _⟩ := SG.six
         obtain ⟨v', W20, hrun, S4⟩ := SG.push (x := xe) (List.mem_cons_self ..) (by simp) 26
         obtain ⟨qe, me, ce, rfl⟩ := S4.slice3
         obtain ⟨nl2, hnl2⟩ : ∃ n, xe.names.length = n := ⟨_, rfl⟩
         obtain ⟨kl2, hkl2⟩ : ∃ n, xe.kids.length = n := ⟨_, rfl⟩
         rw [hnl2, hkl2] at hrun ⊢
         obtain ⟨_, _, _, _, _, k5, _, _, _, _, _, m5⟩ := S4.six
         have l5 := (S4.fst (List.mem_cons_self ..)).2
         have KK := Lib.hid (And.intro k5 m5)
         have HRUN := Lib.hid hrun
         have SE := Lib.hid (S4.set5 (by intro p hp; simp at hp; rw [hp]; simp only; omega) (.slice qe me ce))
         clear hE r3 o3 hv SC SG hrun k5 m5 S4 hnl2 hkl2
         clear hHeld
         refine hK.out _ _ (z5) (fun hHeld => ?_)
         clear hK K
         try simp only [Act.put, pzz]
         refine wpAnyG_ready (rs := [4]) (by kernel_rfl) (by simp) ?_
         refine AllReadyG.held rfl (fun K hK => ?_) AllReadyG.nil
         go_simp
         clear hHeld
         refine hK.out _ _ ?_ (fun hHeld => ?_)
         focus (
          (try dsimp only)
          go_keep)
         clear hK K
         try simp only [Act.put, pzz]
         refine wpAnyG_ready (rs := [5]) (by kernel_rfl) (by simp) ?_
         refine AllReadyG.free rfl (by kernel_rfl) (fun K hK => ?_) AllReadyG.nil
         clear z5 y5
         refine step_append_runs rfl _ _ 26 rfl _ _ _ _ rfl rfl HRUN.out ?_
         clear HRUN
         clear hHeld
         refine hK.out _ _ ?_
         clear hK K
         try simp only [Act.put, pzz]
         refine puG (i := 6) (v := ?_) ?_ (hS := fun h => absurd h (by decide))
         try simp only [Act.put, pzz]
         refine wpAnyG_ready (rs := [7]) (by kernel_rfl) (by simp) ?_
         refine AllReadyG.free rfl (by kernel_rfl) (fun K hK => ?_) AllReadyG.nil
         obtain ⟨k5, m5⟩ := KK.out
         go_simp
         clear k5 m5 KK l5
         refine hK.out _ _ ?_
         clear hK K
         try simp only [Act.put, pzz]
         refine wpAnyG_done (by kernel_rfl) ?_ _
         generalize W20.setCell ⟨w3.heap.size + 1, 5, none⟩ (.slice qe me ce) = WX at *
         obtain ⟨c0, c1, c2, c3, c4, c5, _⟩ := SE.out.six
         obtain ⟨_, _, _, _, _, _, f0, f1, f2, f3, f4, f5⟩ := SE.out.swap.six
         have hltX := (SE.out.fst (b := w.heap.size) (o := ndZ) (by simp)).2
         go_wp2_with fail
         exact bodyPost_ret (v := ndV (ndL 6 [nm] ([xa, xb] ++ [xe])) (.slice (some ⟨w3.heap.size, 0, none⟩) 1 1) (.slice qe me ce)) (by simp [results, Tryz.results180, go_sem, *, ndL_k, ndL_name, ndL_text, ndL_n]) rfl (SE.out.swap.fin (by intro p hp; simp at hp; rw [hp]; simp only; omega) (x := ndL 6 [nm] ([xa, xb] ++ [xe])) _ _ HRF.out fun W' hW' => PtAt.mk _ _ 6 0 _ _ (hW'.pt (by simp)) hW'.kidsd)
      | true =>
       rw [hb, skipP_yes hb] at cT
       have hlt := isW_lt hb
       have HR6 := Lib.hid (show (match (pz z f).ex 0 ⟨s5.p + 1, s5.o⟩ with
              | .error e => .error e
              | .ok (c, s6) => loopE z (pz z f) nm [xa, xb, c] s6) = res by rw [← HR5.out, if_pos hb])
       clear hb HR5
       refine cT.mono ?_
       rintro e w12 ⟨rfl, r12, o12⟩
       have S8 := Lib.hid (S7.out.call o12 r12)
       clear r12 o12 cT S7
       go_wp2_with fail
       obtain ⟨_, _, _, _, _, y5, _⟩ := S8.out.six
       have SC := Lib.hid S8.out.drew
       cases hx : (pz z f).ex 0 ⟨s5.p + 1, s5.o⟩ with
       | error y =>
        have HRE := Lib.hid (show res = .error y by rw [← HR6.out, hx])
        have HX := Lib.hid hx
        clear hx S8
        refine wp_region_gate (S := fun w' => w'.cell? ⟨w3.heap.size + 1, 5, none⟩ = some (.slice qb mb cb)) (g := 5) (by kernel_rfl) (y5) (fun hHeld => ?_)
        refine puG (i := 0) (v := ?_) ?_
        try simp only [Act.put, pzz]
        refine tkG (i := 1) (v := ?_) ?_
        try simp only [Act.put, pzz]
        refine puG (i := 2) (v := ?_) ?_
        try simp only [Act.put, pzz]
        refine wpAnyG_ready (rs := [3]) (by kernel_rfl) (by simp) ?_
        refine AllReadyG.held rfl (fun K hK => ?_) AllReadyG.nil
        go_simp
        refine (HC.out.ex0 _ r q c z ⟨s5.p + 1, s5.o⟩ SC.out.rd (by first | omega | (simp only; omega))).mono ?_
        intro e w3 hE
        obtain ⟨rfl, o3⟩ := hE.no HX.out
        exact ⟨rfl, SC.out.giv HRE.out o3⟩
       | ok y =>
        obtain ⟨xc, s6⟩ := y
        have g6 := And.intro (pz_ex_gt hx).1 (pz_ex_gt hx).2.1
        have HR7 := Lib.hid (show (loopE z (pz z f) nm [xa, xb, xc] s6) = res by rw [← HR6.out, hx]; first | done | rfl)
        have HX := Lib.hid hx
        clear hx S8 HR6
        refine wp_region_gate (S := fun w' => w'.cell? ⟨w3.heap.size + 1, 5, none⟩ = some (.slice qb mb cb)) (g := 5) (by kernel_rfl) (y5) (fun hHeld => ?_)
        refine puG (i := 0) (v := ?_) ?_
        try simp only [Act.put, pzz]
        refine tkG (i := 1) (v := ?_) ?_
        try simp only [Act.put, pzz]
        refine puG (i := 2) (v := ?_) ?_
        try simp only [Act.put, pzz]
        refine wpAnyG_ready (rs := [3]) (by kernel_rfl) (by simp) ?_
        refine AllReadyG.held rfl (fun K hK => ?_) AllReadyG.nil
        go_simp
        refine (HC.out.ex0 _ r q c z ⟨s5.p + 1, s5.o⟩ SC.out.rd (by first | omega | (simp only; omega))).mono ?_
        intro e w13 hE
        obtain ⟨v2, rfl, hv, r3, o3⟩ := hE.yes HX.out
        obtain ⟨qn2, mn2, ql2, ml2, rfl⟩ := EncN.open hv
        have SG := SC.out.got o3 r3 hv
        obtain ⟨_, _, _, _, _, z5, _⟩ := SG.six
        obtain ⟨v', W14, hrun, S4⟩ := SG.push (x := xc) (List.mem_cons_self ..) (by simp) 26
        obtain ⟨qd, md, cd, rfl⟩ := S4.slice3
        obtain ⟨nl2, hnl2⟩ : ∃ n, xc.names.length = n := ⟨_, rfl⟩
        obtain ⟨kl2, hkl2⟩ : ∃ n, xc.kids.length = n := ⟨_, rfl⟩
        rw [hnl2, hkl2] at hrun ⊢
        obtain ⟨_, _, _, _, _, k5, _, _, _, _, _, m5⟩ := S4.six
        have l5 := (S4.fst (List.mem_cons_self ..)).2
        have KK := Lib.hid (And.intro k5 m5)
        have HRUN := Lib.hid hrun
        have S9 := Lib.hid (S4.set5 (by intro p hp; simp at hp; rw [hp]; simp only; omega) (.slice qd md cd))
        clear hE r3 o3 hv SC SG hrun k5 m5 S4 hnl2 hkl2
        clear hHeld
        refine hK.out _ _ (z5) (fun hHeld => ?_)
        clear hK K
        try simp only [Act.put, pzz]
        refine wpAnyG_ready (rs := [4]) (by kernel_rfl) (by simp) ?_
        refine AllReadyG.held rfl (fun K hK => ?_) AllReadyG.nil
        go_simp
        clear hHeld
        refine hK.out _ _ ?_ (fun hHeld => ?_)
        focus (
         (try dsimp only)
         go_keep)
        clear hK K
        try simp only [Act.put, pzz]
        refine wpAnyG_ready (rs := [5]) (by kernel_rfl) (by simp) ?_
        refine AllReadyG.free rfl (by kernel_rfl) (fun K hK => ?_) AllReadyG.nil
        clear z5 y5
        refine step_append_runs rfl _ _ 26 rfl _ _ _ _ rfl rfl HRUN.out ?_
        clear HRUN
        clear hHeld
        refine hK.out _ _ ?_
        clear hK K
        try simp only [Act.put, pzz]
        refine puG (i := 6) (v := ?_) ?_ (hS := fun h => absurd h (by decide))
        try simp only [Act.put, pzz]
        refine wpAnyG_ready (rs := [7]) (by kernel_rfl) (by simp) ?_
        refine AllReadyG.free rfl (by kernel_rfl) (fun K hK => ?_) AllReadyG.nil
        obtain ⟨k5, m5⟩ := KK.out
        go_simp
        clear k5 m5 KK l5
        refine hK.out _ _ ?_
        clear hK K
        try simp only [Act.put, pzz]
        refine wpAnyG_done (by kernel_rfl) ?_ _
        generalize W14.setCell ⟨w3.heap.size + 1, 5, none⟩ (.slice qd md cd) = W15 at *
        have g6' := g6
        simp only at g6'
        have HRD := Lib.hid (show (match wantP z s6 tDo with | .error e => .error e | .ok (_, s1) => match endedR z (pz z f).st s1 with | .error e => .error e | .ok (b, s2) => .ok (ndL 6 [nm] ([xa, xb, xc] ++ [b]), s2)) = res from HR7.out)
        go_wp2_with fail
        refine (want_any W15 r q c z s6 tDo S9.out.rd).mono ?_
        intro e wd hE
        cases hx : wantP z s6 tDo with
        | error y =>
         obtain ⟨rfl, o9⟩ := hE.no hx
         have HRE := Lib.hid (show res = .error y by rw [← HRD.out, hx])
         clear hE hx
         go_wp2_with fail
         exact ⟨rfl, S9.out.giv HRE.out o9⟩
        | ok y =>
         obtain ⟨u, sd⟩ := y
         obtain ⟨v, rfl, hv, r9, o9⟩ := hE.yes hx
         have gd := And.intro (want_gt hx).1 (want_gt hx).2.1
         have HRE2 := Lib.hid (show (match endedR z (pz z f).st sd with | .error e => .error e | .ok (b, s2) => .ok (ndL 6 [nm] ([xa, xb, xc] ++ [b]), s2)) = res by rw [← HRD.out, hx]; first | done | rfl)
         have SD := Lib.hid (S9.out.call o9 r9)
         clear hE hx hv r9 o9 S9 HRD
         go_wp2_with fail
         obtain ⟨_, _, _, _, _, y5, _⟩ := SD.out.six
         have SC := Lib.hid SD.out.drew
         have hse : 1 ≤ sd.p ∧ 10 * (z.ws.length - sd.p) + 9 ≤ f := ⟨by omega, by omega⟩
         cases hx : endedR z (pz z f).st sd with
         | error y =>
          have HRE := Lib.hid (show res = .error y by rw [← HRE2.out, hx])
          have HX := Lib.hid hx
          clear hx SD
          refine wp_region_gate (S := fun w' => w'.cell? ⟨w3.heap.size + 1, 5, none⟩ = some (.slice qd md cd)) (g := 5) (by kernel_rfl) (y5) (fun hHeld => ?_)
          refine puG (i := 0) (v := ?_) ?_
          try simp only [Act.put, pzz]
          refine tkG (i := 1) (v := ?_) ?_
          try simp only [Act.put, pzz]
          refine puG (i := 2) (v := ?_) ?_
          try simp only [Act.put, pzz]
          refine wpAnyG_ready (rs := [3]) (by kernel_rfl) (by simp) ?_
          refine AllReadyG.held rfl (fun K hK => ?_) AllReadyG.nil
          go_simp
          refine (ended_any HC.out _ r q c z sd SC.out.rd hse.1 hse.2).mono ?_
          intro e w3 hE
          obtain ⟨rfl, o3⟩ := hE.no HX.out
          exact ⟨rfl, SC.out.giv HRE.out o3⟩
         | ok y =>
          obtain ⟨xe, se⟩ := y
          have HRF := Lib.hid (show res = .ok (ndL 6 [nm] ([xa, xb, xc] ++ [xe]), se) by rw [← HRE2.out, hx])
          have HX := Lib.hid hx
          clear hx SD HRE2
          refine wp_region_gate (S := fun w' => w'.cell? ⟨w3.heap.size + 1, 5, none⟩ = some (.slice qd md cd)) (g := 5) (by kernel_rfl) (y5) (fun hHeld => ?_)
          refine puG (i := 0) (v := ?_) ?_
          try simp only [Act.put, pzz]
          refine tkG (i := 1) (v := ?_) ?_
          try simp only [Act.put, pzz]
          refine puG (i := 2) (v := ?_) ?_
          try simp only [Act.put, pzz]
          refine wpAnyG_ready (rs := [3]) (by kernel_rfl) (by simp) ?_
          refine AllReadyG.held rfl (fun K hK => ?_) AllReadyG.nil
          go_simp
          refine (ended_any HC.out _ r q c z sd SC.out.rd hse.1 hse.2).mono ?_
          intro e we hE
          obtain ⟨v2, rfl, hv, r3, o3⟩ := hE.yes HX.out
          obtain ⟨qn2, mn2, ql2, ml2, rfl⟩ := EncN.open hv
          have SG := SC.out.got o3 r3 hv
          obtain ⟨_, _, _, _, _, z5, _⟩ := SG.six
          obtain ⟨v', W20, hrun, S4⟩ := SG.push (x := xe) (List.mem_cons_self ..) (by simp) 26
          obtain ⟨qe, me, ce, rfl⟩ := S4.slice3
          obtain ⟨nl2, hnl2⟩ : ∃ n, xe.names.length = n := ⟨_, rfl⟩
          obtain ⟨kl2, hkl2⟩ : ∃ n, xe.kids.length = n := ⟨_, rfl⟩
          rw [hnl2, hkl2] at hrun ⊢
          obtain ⟨_, _, _, _, _, k5, _, _, _, _, _, m5⟩ := S4.six
          have l5 := (S4.fst (List.mem_cons_self ..)).2
          have KK := Lib.hid (And.intro k5 m5)
          have HRUN := Lib.hid hrun
          have SE := Lib.hid (S4.set5 (by intro p hp; simp at hp; rw [hp]; simp only; omega) (.slice qe me ce))
          clear hE r3 o3 hv SC SG hrun k5 m5 S4 hnl2 hkl2
          clear hHeld
          refine hK.out _ _ (z5) (fun hHeld => ?_)
          clear hK K
          try simp only [Act.put, pzz]
          refine wpAnyG_ready (rs := [4]) (by kernel_rfl) (by simp) ?_
          refine AllReadyG.held rfl (fun K hK => ?_) AllReadyG.nil
          go_simp
          clear hHeld
          refine hK.out _ _ ?_ (fun hHeld => ?_)
          focus (
           (try dsimp only)
           go_keep)
          clear hK K
          try simp only [Act.put, pzz]
          refine wpAnyG_ready (rs := [5]) (by kernel_rfl) (by simp) ?_
          refine AllReadyG.free rfl (by kernel_rfl) (fun K hK => ?_) AllReadyG.nil
          clear z5 y5
          refine step_append_runs rfl _ _ 26 rfl _ _ _ _ rfl rfl HRUN.out ?_
          clear HRUN
          clear hHeld
          refine hK.out _ _ ?_
          clear hK K
          try simp only [Act.put, pzz]
          refine puG (i := 6) (v := ?_) ?_ (hS := fun h => absurd h (by decide))
          try simp only [Act.put, pzz]
          refine wpAnyG_ready (rs := [7]) (by kernel_rfl) (by simp) ?_
          refine AllReadyG.free rfl (by kernel_rfl) (fun K hK => ?_) AllReadyG.nil
          obtain ⟨k5, m5⟩ := KK.out
          go_simp
          clear k5 m5 KK l5
          refine hK.out _ _ ?_
          clear hK K
          try simp only [Act.put, pzz]
          refine wpAnyG_done (by kernel_rfl) ?_ _
          generalize W20.setCell ⟨w3.heap.size + 1, 5, none⟩ (.slice qe me ce) = WX at *
          obtain ⟨c0, c1, c2, c3, c4, c5, _⟩ := SE.out.six
          obtain ⟨_, _, _, _, _, _, f0, f1, f2, f3, f4, f5⟩ := SE.out.swap.six
          have hltX := (SE.out.fst (b := w.heap.size) (o := ndZ) (by simp)).2
          go_wp2_with fail
          exact bodyPost_ret (v := ndV (ndL 6 [nm] ([xa, xb, xc] ++ [xe])) (.slice (some ⟨w3.heap.size, 0, none⟩) 1 1) (.slice qe me ce)) (by simp [results, Tryz.results180, go_sem, *, ndL_k, ndL_name, ndL_text, ndL_n]) rfl (SE.out.swap.fin (by intro p hp; simp at hp; rw [hp]; simp only; omega) (x := ndL 6 [nm] ([xa, xb, xc] ++ [xe])) _ _ HRF.out fun W' hW' => PtAt.mk _ _ 6 0 _ _ (hW'.pt (by simp)) hW'.kidsd)
end Go.Proofs.YtkbcnacjaakleaaGreatDoor
