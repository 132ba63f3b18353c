/- behind: an operand with its indices; two operands with an operator. local. -/
import Derived.Test.YtkbcnacjaakleaaGreatDoorYSyY
set_option maxRecDepth 100000
set_option maxHeartbeats 32000000
set_option linter.unusedVariables false
set_option linter.unusedSimpArgs false
namespace Go.Proofs.YtkbcnacjaakleaaGreatDoor
open Go.RowKit

theorem indexL_br_err {z : Wz} {r : Pz} {k : Nat} {s : Ps} {n : Nd} {y : Int × Int} (h : isW z s.p [91] = true) (hb : bracketR z r [93] ⟨s.p + 1, s.o⟩ = .error y) : indexL z r (k + 1) s n = .error y := by unfold indexL; rw [if_pos h, hb]
theorem indexL_br {z : Wz} {r : Pz} {k : Nat} {s s1 : Ps} {n x : Nd} (h : isW z s.p [91] = true) (hb : bracketR z r [93] ⟨s.p + 1, s.o⟩ = .ok (x, s1)) : indexL z r (k + 1) s n = indexL z r k s1 (ndK 16 [n, x]) := by
 conv => lhs; unfold indexL
 rw [if_pos h, hb]
theorem indexL_dot_err {z : Wz} {r : Pz} {k : Nat} {s : Ps} {n : Nd} {y : Int × Int} (h : isW z s.p [91] = false) (h2 : isW z s.p [46] = true) (hb : nameR z ⟨s.p + 1, s.o⟩ = .error y) : indexL z r (k + 1) s n = .error y := by unfold indexL; rw [if_neg (by rw [h]; decide), if_pos h2, hb]
theorem indexL_dot {z : Wz} {r : Pz} {k : Nat} {s s1 : Ps} {n : Nd} {x : ByteArray} (h : isW z s.p [91] = false) (h2 : isW z s.p [46] = true) (hb : nameR z ⟨s.p + 1, s.o⟩ = .ok (x, s1)) : indexL z r (k + 1) s n = indexL z r k s1 (ndK 16 [n, ndT x]) := by
 conv => lhs; unfold indexL
 rw [if_neg (by rw [h]; decide), if_pos h2, hb]
theorem indexL_end {z : Wz} {r : Pz} {k : Nat} {s : Ps} {n : Nd} (h : isW z s.p [91] = false) (h2 : isW z s.p [46] = false) : indexL z r (k + 1) s n = .ok (n, s) := by unfold indexL; rw [if_neg (by rw [h]; decide), if_neg (by rw [h2]; decide)]
theorem behindR_may {z : Wz} {r : Pz} {s s1 : Ps} {n : Nd} (h : operandR z r s = .ok ((n, true), s1)) : behindR z r s = indexL z r (z.ws.length + 1) s1 n := by unfold behindR; rw [h]; simp only; rw [if_pos trivial]
theorem behindR_no {z : Wz} {r : Pz} {s s1 : Ps} {n : Nd} (h : operandR z r s = .ok ((n, false), s1)) : behindR z r s = .ok (n, s1) := by unfold behindR; rw [h]; simp only; rw [if_neg (by decide)]
theorem behindR_err {z : Wz} {r : Pz} {s : Ps} {y : Int × Int} (h : operandR z r s = .error y) : behindR z r s = .error y := by unfold behindR; rw [h]
theorem behind_any {f : Nat} (hC : Con f) (w : World) (r : Nat) (q : Option Addr) (c : Nat) (z : Wz) (s : Ps) (h : RdAt w r q c z s) (hf : 10 * (z.ws.length - s.p) ≤ f) :
  Calls Tryz.prog 181 #[.pointer (some ⟨r, 0, none⟩)] w (RdR (EncN w) w r q c z (behindR z (pz z f) s)) := by
 obtain ⟨res, hres⟩ : ∃ res, behindR z (pz z f) s = res := ⟨_, rfl⟩
 rw [hres]
 have HR := Lib.hid hres
 have HC := Lib.hid hC
 have H0 := Lib.hid ((St.start h).newK ndZ)
 have hlow := h.lt
 have cO := operand_any hC (w.alloc ndZ) r q c z s H0.out.rd hf
 clear hres h hC
 go_enter Tryz.func181, Tryz.ntmps181
 go_wp2_with fail
 refine cO.mono ?_
 intro e w2 hE
 cases hx : operandR z (pz z f) s with
 | error y =>
  obtain ⟨rfl, o2⟩ := hE.no hx
  have HR2 := Lib.hid (show res = .error y by rw [← HR.out, behindR_err hx])
  clear hE hx cO
  go_wp2_with fail
  exact ⟨rfl, H0.out.giv HR2.out o2⟩
 | ok y =>
  obtain ⟨⟨x, may⟩, s1⟩ := y
  obtain ⟨v, rfl, ⟨vn, rfl, hv⟩, r2, o2⟩ := hE.yes hx
  obtain ⟨qn, mn, ql, ml, rfl⟩ := EncN.open hv
  have hgt := operand_gt (pz_adv z f) _ _ _ hx
  have g1 := hgt.1
  have g2 := hgt.2.1
  obtain ⟨nl, hnl⟩ : ∃ n, x.names.length = n := ⟨_, rfl⟩
  obtain ⟨kl, hkl⟩ : ∃ n, x.kids.length = n := ⟨_, rfl⟩
  simp only at hv
  rw [hnl, hkl] at hv ⊢
  have hws : w.heap.size < w2.heap.size := by have := o2.le; rw [size_alloc] at this; omega
  have SX := Lib.hid ((H0.out.got o2 r2 hv).newK (ndBx (.int .i64 x.k) (.string x.name) (.string x.text) (.int .i64 x.n) (.slice qn nl mn) (.slice ql kl ml)))
  cases may with
  | false =>
   have HR2 := Lib.hid (show res = .ok (x, s1) by rw [← HR.out, behindR_no hx])
   clear hE hx cO hgt hv r2 o2 hnl hkl H0
   go_wp2_with fail
   generalize w2.alloc (.cells #[.int .i64 x.k, .string x.name, .string x.text, .int .i64 x.n, .slice qn nl mn, .slice ql kl ml] 28) = W0 at *
   obtain ⟨c0, c1, c2, c3, c4, c5, _⟩ := SX.out.six
   obtain ⟨_, _, _, _, _, _, f0, f1, f2, f3, f4, f5⟩ := SX.out.swap.six
   have hltX := (SX.out.fst (b := w.heap.size) (o := ndZ) (by simp)).2
   refine wp_loop_rounds 1 ?_
   rw [rounds_succ]
   go_wp2_with fail
   exact bodyPost_ret (v := ndV x (.slice qn nl mn) (.slice ql kl ml)) (by simp [results, Tryz.results181, go_sem, *]) rfl (SX.out.swap.fin (by intro p hp; simp at hp; rw [hp]; simp only; omega) _ _ HR2.out fun W' hW' => hW'.pt (List.mem_cons_self ..))
  | true =>
   have HR2 := Lib.hid (show indexL z (pz z f) (z.ws.length + 1) s1 x = res by rw [← HR.out, behindR_may hx])
   clear hE hx cO hgt hv r2 o2 hnl hkl H0
   go_wp2_with fail
   generalize w2.alloc (.cells #[.int .i64 x.k, .string x.name, .string x.text, .int .i64 x.n, .slice qn nl mn, .slice ql kl ml] 28) = W0 at *
   go_loopw [10] (fun s10 wr => ∃ (k : Nat) (s' : Ps) (x : Nd) (qn ql : Option Addr) (nl mn kl ml : Nat), Hid (St w wr r q c z s' [(w2.heap.size, ndBx (.int .i64 x.k) (.string x.name) (.string x.text) (.int .i64 x.n) (.slice qn nl mn) (.slice ql kl ml)), (w.heap.size, ndZ)] [.nd (ndV x (.slice qn nl mn) (.slice ql kl ml)) x] (.slice none 0 0) [] (.slice none 0 0) []) ∧ Hid (indexL z (pz z f) k s' x = res) ∧ z.ws.length - s'.p < k ∧ 10 * (z.ws.length - s'.p) ≤ f) (fun _ wr => z.ws.length - nxt wr r)
   case atStart => exact ⟨_, s1, x, qn, ql, nl, mn, kl, ml, SX, HR2, by omega, by omega⟩
   case round =>
    clear SX HR2 HR g1 g2
    obtain ⟨k, s', x, qn, ql, nl, mn, kl, ml, ST, SP, hk, hfk⟩ := hrel
    obtain ⟨k, rfl⟩ : ∃ k', k = k' + 1 := ⟨k - 1, by omega⟩
    have hle := ST.out.rd.le
    have hlen := ST.out.rd.len
    have hnx := ST.out.nxt
    have c91 := take_any wr r q c z s' [91] ST.out.rd
    cases h91 : isW z s'.p [91] with
    | true =>
     rw [h91, skipP_yes h91] at c91
     have hlt := isW_lt h91
     have H91 := Lib.hid h91
     clear h91
     go_wp2_with fail
     refine c91.mono ?_
     rintro e w4 ⟨rfl, r4, o4⟩
     have S4 := Lib.hid (ST.out.call o4 r4)
     clear r4 o4 c91 ST
     go_wp2_with fail
     obtain ⟨y0, y1, y2, y3, y4, y5, _⟩ := S4.out.six
     have SC := Lib.hid S4.out.drew
     clear S4
     cases hx : bracketR z (pz z f) [93] ⟨s'.p + 1, s'.o⟩ with
     | error y =>
      have HR2 := Lib.hid (show res = .error y by rw [← SP.out, indexL_br_err H91.out hx])
      have HX := Lib.hid hx
      clear hx
      refine wp_region_gate (S := fun w' => w'.cell? ⟨w2.heap.size, 0, none⟩ = some (.int .i64 x.k) ∧ w'.cell? ⟨w2.heap.size, 1, none⟩ = some (.string x.name) ∧ w'.cell? ⟨w2.heap.size, 2, none⟩ = some (.string x.text) ∧ w'.cell? ⟨w2.heap.size, 3, none⟩ = some (.int .i64 x.n) ∧ w'.cell? ⟨w2.heap.size, 4, none⟩ = some (.slice qn nl mn) ∧ w'.cell? ⟨w2.heap.size, 5, none⟩ = some (.slice ql kl ml)) (g := 3) (by kernel_rfl) (⟨y0, y1, y2, y3, y4, y5⟩) (fun hHeld => ?_)
      refine tkG (i := 0) (v := ?_) ?_
      try simp only [Act.put, pzz]
      refine puG (i := 1) (v := ?_) ?_
      try simp only [Act.put, pzz]
      refine wpAnyG_ready (rs := [2]) (by kernel_rfl) (by simp) ?_
      refine AllReadyG.held rfl (fun K hK => ?_) AllReadyG.nil
      go_simp
      refine (bracketed_any HC.out _ r q c z ⟨s'.p + 1, s'.o⟩ [93] SC.out.rd (by simp only; omega) (by simp only; omega)).mono ?_
      intro e w3 hE
      obtain ⟨rfl, o3⟩ := hE.no HX.out
      exact ⟨rfl, SC.out.giv HR2.out o3⟩
     | ok y =>
      obtain ⟨x2, s3⟩ := y
      have hgt := bracket_gt (pz_adv z f) [93] _ _ _ hx
      have g1 := hgt.1
      have g2 := hgt.2.1
      simp only at g1
      have HR2 := Lib.hid (show indexL z (pz z f) k s3 (ndK 16 [x, x2]) = res by rw [← SP.out, indexL_br H91.out hx])
      have HX := Lib.hid hx
      clear hx hgt
      have HNE := Lib.hid (show ∀ p ∈ [(w.heap.size, ndZ)], p.1 ≠ w2.heap.size from fun p hp => by
       simp at hp
       rw [hp]
       simp only
       omega)
      refine wp_region_gate (S := fun w' => w'.cell? ⟨w2.heap.size, 0, none⟩ = some (.int .i64 x.k) ∧ w'.cell? ⟨w2.heap.size, 1, none⟩ = some (.string x.name) ∧ w'.cell? ⟨w2.heap.size, 2, none⟩ = some (.string x.text) ∧ w'.cell? ⟨w2.heap.size, 3, none⟩ = some (.int .i64 x.n) ∧ w'.cell? ⟨w2.heap.size, 4, none⟩ = some (.slice qn nl mn) ∧ w'.cell? ⟨w2.heap.size, 5, none⟩ = some (.slice ql kl ml)) (g := 3) (by kernel_rfl) (⟨y0, y1, y2, y3, y4, y5⟩) (fun hHeld => ?_)
      refine tkG (i := 0) (v := ?_) ?_
      try simp only [Act.put, pzz]
      refine puG (i := 1) (v := ?_) ?_
      try simp only [Act.put, pzz]
      refine wpAnyG_ready (rs := [2]) (by kernel_rfl) (by simp) ?_
      refine AllReadyG.held rfl (fun K hK => ?_) AllReadyG.nil
      go_simp
      refine (bracketed_any HC.out _ r q c z ⟨s'.p + 1, s'.o⟩ [93] SC.out.rd (by simp only; omega) (by simp only; omega)).mono ?_
      intro e w3 hE
      obtain ⟨v2, rfl, hv, r3, o3⟩ := hE.yes HX.out
      obtain ⟨qn2, mn2, ql2, ml2, rfl⟩ := EncN.open hv
      have SG := SC.out.got o3 r3 hv
      obtain ⟨z0, z1, z2, z3, z4, z5, _⟩ := SG.six
      have S3 := SG.two (x := x) (y := x2) (nx := .slice qn nl mn) (lx := .slice ql kl ml) (List.mem_cons_of_mem _ (List.mem_cons_self ..)) (List.mem_cons_self ..)
      obtain ⟨nl2, hnl2⟩ : ∃ n, x2.names.length = n := ⟨_, rfl⟩
      obtain ⟨kl2, hkl2⟩ : ∃ n, x2.kids.length = n := ⟨_, rfl⟩
      rw [hnl2, hkl2] at S3 ⊢
      obtain ⟨_, _, _, _, _, _, f0, f1, f2, f3, f4, f5⟩ := S3.six
      have hlt := (S3.fst (List.mem_cons_self ..)).2
      have HS3 := Lib.hid S3
      have FF := Lib.hid (And.intro f0 (And.intro f1 (And.intro f2 (And.intro f3 (And.intro f4 f5)))))
      clear hE r3 o3 hv hnl2 hkl2 SC SG S3 f0 f1 f2 f3 f4 f5 y0 y1 y2 y3 y4 y5
      clear hHeld
      refine hK.out _ _ (⟨z0, z1, z2, z3, z4, z5⟩) (fun hHeld => ?_)
      clear hK K
      try simp only [Act.put, pzz]
      refine wpAnyG_ready (rs := [3]) (by kernel_rfl) (by simp) ?_
      refine AllReadyG.free rfl (by kernel_rfl) (fun K hK => ?_) AllReadyG.nil
      go_simp
      clear hHeld
      refine hK.out _ _ ?_
      clear hK K
      try simp only [Act.put, pzz]
      refine puG (i := 4) (v := ?_) ?_ (hS := fun h => absurd h (by decide))
      try simp only [Act.put, pzz]
      refine wpAnyG_ready (rs := [5]) (by kernel_rfl) (by simp) ?_
      refine AllReadyG.free rfl (by kernel_rfl) (fun K hK => ?_) AllReadyG.nil
      obtain ⟨f0, f1, f2, f3, f4, f5⟩ := FF.out
      go_simp
      clear f0 f1 f2 f3 f4 f5
      refine hK.out _ _ ?_
      clear hK K
      try simp only [Act.put, pzz]
      refine wpAnyG_done (by kernel_rfl) ?_ _
      have SF := Lib.hid ((HS3.out.set6 HNE.out (.int .i64 16) (.string ⟨#[]⟩) (.string ⟨#[]⟩) (.int .i64 0) (.slice none 0 0) (.slice (some ⟨w3.heap.size, 0, none⟩) 2 2)))
      have SF2 := Lib.hid ((SF.out.add (p := .nd (ndV (ndK 16 [x, x2]) (.slice none 0 0) (.slice (some ⟨w3.heap.size, 0, none⟩) 2 2)) (ndK 16 [x, x2])) (PtAt.mk _ _ 16 0 _ _ (PtAt.tx0 _ _) (SF.out.pts _ (List.mem_cons_self ..)))).sub (N' := [.nd (ndV (ndK 16 [x, x2]) (.slice none 0 0) (.slice (some ⟨w3.heap.size, 0, none⟩) 2 2)) (ndK 16 [x, x2])]) (fun p hp => by
       obtain rfl : p = .nd (ndV (ndK 16 [x, x2]) (.slice none 0 0) (.slice (some ⟨w3.heap.size, 0, none⟩) 2 2)) (ndK 16 [x, x2]) := by simpa using hp
       exact List.mem_cons_self ..))
      have hnx2 := SF2.out.nxt
      clear HS3 FF SF z0 z1 z2 z3 z4 z5
      go_wp2_with fail
      go_roundw
      case rel => exact ⟨k, s3, ndK 16 [x, x2], none, some ⟨w3.heap.size, 0, none⟩, 0, 0, 2, 2, SF2, HR2, by omega, by omega⟩
      case measure => rw [hnx, hnx2]; omega
    | false =>
     rw [h91, skipP_no h91] at c91
     have H91 := Lib.hid h91
     clear h91
     go_wp2_with fail
     refine c91.mono ?_
     rintro e w4 ⟨rfl, r4, o4⟩
     have S4 := Lib.hid (ST.out.call o4 r4)
     clear r4 o4 c91 ST
     go_wp2_with fail
     have c46 := take_any w4 r q c z s' [46] S4.out.rd
     cases h46 : isW z s'.p [46] with
     | false =>
      rw [h46, skipP_no h46] at c46
      have HR2 := Lib.hid (show res = .ok (x, s') by rw [← SP.out, indexL_end H91.out h46])
      clear h46
      refine c46.mono ?_
      rintro e w5 ⟨rfl, r5, o5⟩
      have SX := Lib.hid (S4.out.call o5 r5)
      clear r5 o5 c46 S4
      obtain ⟨c0, c1, c2, c3, c4, c5, _⟩ := SX.out.six
      obtain ⟨_, _, _, _, _, _, f0, f1, f2, f3, f4, f5⟩ := SX.out.swap.six
      have hltX := (SX.out.fst (b := w.heap.size) (o := ndZ) (by simp)).2
      go_wp2_with fail
      exact bodyPost_ret (v := ndV x (.slice qn nl mn) (.slice ql kl ml)) (by simp [results, Tryz.results181, go_sem, *]) rfl (SX.out.swap.fin (by intro p hp; simp at hp; rw [hp]; simp only; omega) _ _ HR2.out fun W' hW' => hW'.pt (List.mem_cons_self ..))
     | true =>
      rw [h46, skipP_yes h46] at c46
      have hlt := isW_lt h46
      have H46 := Lib.hid h46
      clear h46
      refine c46.mono ?_
      rintro e w5 ⟨rfl, r5, o5⟩
      have S5 := Lib.hid (S4.out.call o5 r5)
      clear r5 o5 c46 S4
      go_wp2_with fail
      obtain ⟨y0, y1, y2, y3, y4, y5, _⟩ := S5.out.six
      have SC := Lib.hid S5.out.drew
      clear S5
      cases hx : nameR z ⟨s'.p + 1, s'.o⟩ with
      | error y =>
       have HR2 := Lib.hid (show res = .error y by rw [← SP.out, indexL_dot_err H91.out H46.out hx])
       have HX := Lib.hid hx
       clear hx
       refine wp_region_gate (S := fun w' => w'.cell? ⟨w2.heap.size, 0, none⟩ = some (.int .i64 x.k) ∧ w'.cell? ⟨w2.heap.size, 1, none⟩ = some (.string x.name) ∧ w'.cell? ⟨w2.heap.size, 2, none⟩ = some (.string x.text) ∧ w'.cell? ⟨w2.heap.size, 3, none⟩ = some (.int .i64 x.n) ∧ w'.cell? ⟨w2.heap.size, 4, none⟩ = some (.slice qn nl mn) ∧ w'.cell? ⟨w2.heap.size, 5, none⟩ = some (.slice ql kl ml)) (g := 4) (by kernel_rfl) (⟨y0, y1, y2, y3, y4, y5⟩) (fun hHeld => ?_)
       refine tkG (i := 0) (v := ?_) ?_
       try simp only [Act.put, pzz]
       refine puG (i := 1) (v := ?_) ?_
       try simp only [Act.put, pzz]
       refine wpAnyG_ready (rs := [2]) (by kernel_rfl) (by simp) ?_
       refine AllReadyG.held rfl (fun K hK => ?_) AllReadyG.nil
       go_simp
       refine (name_any' _ r q c z ⟨s'.p + 1, s'.o⟩ SC.out.rd).mono ?_
       intro e w3 hE
       obtain ⟨rfl, o3⟩ := hE.no HX.out
       exact ⟨rfl, SC.out.giv HR2.out o3⟩
      | ok y =>
       obtain ⟨xs, s3⟩ := y
       have hgt := nameR_gt hx
       have g1 := hgt.1
       have g2 := hgt.2.1
       simp only at g1
       have HR2 := Lib.hid (show indexL z (pz z f) k s3 (ndK 16 [x, ndT xs]) = res by rw [← SP.out, indexL_dot H91.out H46.out hx])
       have HX := Lib.hid hx
       clear hx hgt
       have HNE := Lib.hid (show ∀ p ∈ [(w.heap.size, ndZ)], p.1 ≠ w2.heap.size from fun p hp => by
        simp at hp
        rw [hp]
        simp only
        omega)
       refine wp_region_gate (S := fun w' => w'.cell? ⟨w2.heap.size, 0, none⟩ = some (.int .i64 x.k) ∧ w'.cell? ⟨w2.heap.size, 1, none⟩ = some (.string x.name) ∧ w'.cell? ⟨w2.heap.size, 2, none⟩ = some (.string x.text) ∧ w'.cell? ⟨w2.heap.size, 3, none⟩ = some (.int .i64 x.n) ∧ w'.cell? ⟨w2.heap.size, 4, none⟩ = some (.slice qn nl mn) ∧ w'.cell? ⟨w2.heap.size, 5, none⟩ = some (.slice ql kl ml)) (g := 4) (by kernel_rfl) (⟨y0, y1, y2, y3, y4, y5⟩) (fun hHeld => ?_)
       refine tkG (i := 0) (v := ?_) ?_
       try simp only [Act.put, pzz]
       refine puG (i := 1) (v := ?_) ?_
       try simp only [Act.put, pzz]
       refine wpAnyG_ready (rs := [2]) (by kernel_rfl) (by simp) ?_
       refine AllReadyG.held rfl (fun K hK => ?_) AllReadyG.nil
       go_simp
       refine (name_any' _ r q c z ⟨s'.p + 1, s'.o⟩ SC.out.rd).mono ?_
       intro e w3 hE
       obtain ⟨v2, rfl, hv, r3, o3⟩ := hE.yes HX.out
       obtain rfl : v2 = .string xs := hv
       have SG := (SC.out.call o3 r3).add (p := .nd (ndV (ndT xs) (.slice none 0 0) (.slice none 0 0)) (ndT xs)) (PtAt.mk _ _ 14 0 _ _ (PtAt.tx0 _ _) (PtAt.kd0 _ _))
       obtain ⟨z0, z1, z2, z3, z4, z5, _⟩ := SG.six
       have S3 := SG.two (x := x) (y := ndT xs) (nx := .slice qn nl mn) (lx := .slice ql kl ml) (List.mem_cons_of_mem _ (List.mem_cons_self ..)) (List.mem_cons_self ..)
       simp only [ndT_k, ndT_name, ndT_text, ndT_n] at S3
       obtain ⟨_, _, _, _, _, _, f0, f1, f2, f3, f4, f5⟩ := S3.six
       have hlt := (S3.fst (List.mem_cons_self ..)).2
       have HS3 := Lib.hid S3
       have FF := Lib.hid (And.intro f0 (And.intro f1 (And.intro f2 (And.intro f3 (And.intro f4 f5)))))
       clear hE r3 o3 SC SG S3 f0 f1 f2 f3 f4 f5 y0 y1 y2 y3 y4 y5
       clear hHeld
       refine hK.out _ _ (⟨z0, z1, z2, z3, z4, z5⟩) (fun hHeld => ?_)
       clear hK K
       try simp only [Act.put, pzz]
       refine puG (i := 3) (v := ?_) ?_
       try simp only [Act.put, pzz]
       refine wpAnyG_ready (rs := [4]) (by kernel_rfl) (by simp) ?_
       refine AllReadyG.free rfl (by kernel_rfl) (fun K hK => ?_) AllReadyG.nil
       go_simp
       clear hHeld
       refine hK.out _ _ ?_
       clear hK K
       try simp only [Act.put, pzz]
       refine puG (i := 5) (v := ?_) ?_ (hS := fun h => absurd h (by decide))
       try simp only [Act.put, pzz]
       refine wpAnyG_ready (rs := [6]) (by kernel_rfl) (by simp) ?_
       refine AllReadyG.free rfl (by kernel_rfl) (fun K hK => ?_) AllReadyG.nil
       obtain ⟨f0, f1, f2, f3, f4, f5⟩ := FF.out
       go_simp
       clear f0 f1 f2 f3 f4 f5
       refine hK.out _ _ ?_
       clear hK K
       try simp only [Act.put, pzz]
       refine wpAnyG_done (by kernel_rfl) ?_ _
       have SF := Lib.hid ((HS3.out.set6 HNE.out (.int .i64 16) (.string ⟨#[]⟩) (.string ⟨#[]⟩) (.int .i64 0) (.slice none 0 0) (.slice (some ⟨w3.heap.size, 0, none⟩) 2 2)))
       have SF2 := Lib.hid ((SF.out.add (p := .nd (ndV (ndK 16 [x, ndT xs]) (.slice none 0 0) (.slice (some ⟨w3.heap.size, 0, none⟩) 2 2)) (ndK 16 [x, ndT xs])) (PtAt.mk _ _ 16 0 _ _ (PtAt.tx0 _ _) (SF.out.pts _ (List.mem_cons_self ..)))).sub (N' := [.nd (ndV (ndK 16 [x, ndT xs]) (.slice none 0 0) (.slice (some ⟨w3.heap.size, 0, none⟩) 2 2)) (ndK 16 [x, ndT xs])]) (fun p hp => by
        obtain rfl : p = .nd (ndV (ndK 16 [x, ndT xs]) (.slice none 0 0) (.slice (some ⟨w3.heap.size, 0, none⟩) 2 2)) (ndK 16 [x, ndT xs]) := by simpa using hp
        exact List.mem_cons_self ..))
       have hnx2 := SF2.out.nxt
       clear HS3 FF SF z0 z1 z2 z3 z4 z5
       go_wp2_with fail
       go_roundw
       case rel => exact ⟨k, s3, ndK 16 [x, ndT xs], none, some ⟨w3.heap.size, 0, none⟩, 0, 0, 2, 2, SF2, HR2, by omega, by omega⟩
       case measure => rw [hnx, hnx2]; omega
theorem ndL_k (k : Int) (l : List ByteArray) (m : List Nd) : (ndL k l m).k = k := rfl
theorem ndL_name (k : Int) (l : List ByteArray) (m : List Nd) : (ndL k l m).name = ⟨#[]⟩ := rfl
theorem ndL_text (k : Int) (l : List ByteArray) (m : List Nd) : (ndL k l m).text = ⟨#[]⟩ := rfl
theorem ndL_n (k : Int) (l : List ByteArray) (m : List Nd) : (ndL k l m).n = 0 := rfl
theorem mk_k (k n : Int) (a b : ByteArray) (l : List ByteArray) (m : List Nd) : (Nd.mk k a b n l m).k = k := rfl
theorem mk_name (k n : Int) (a b : ByteArray) (l : List ByteArray) (m : List Nd) : (Nd.mk k a b n l m).name = a := rfl
theorem mk_text (k n : Int) (a b : ByteArray) (l : List ByteArray) (m : List Nd) : (Nd.mk k a b n l m).text = b := rfl
theorem mk_n (k n : Int) (a b : ByteArray) (l : List ByteArray) (m : List Nd) : (Nd.mk k a b n l m).n = n := rfl
theorem EncT.open {w W : World} {l : List ByteArray} {v : Value} (h : EncT w l v W) : ∃ q c, v = .slice q l.length c := TxtsAt.slice h
theorem localR_f {z : Wz} {r : Pz} {s : Ps} (h : isW z s.p tFunction = true) : localR z r s = funcR z r ⟨s.p + 1, s.o⟩ := by unfold localR; rw [if_pos h]
theorem localR_n {z : Wz} {r : Pz} {s : Ps} (h : isW z s.p tFunction = false) : localR z r s = (match commaR z (nameR z) s with
 | .error e => .error e
 | .ok (l, s1) => if isW z s1.p [61] then (match commaR z (r.ex 0) ⟨s1.p + 1, s1.o⟩ with
   | .error e => .error e
   | .ok (x, s2) => if l.length < x.length then .error (atW z (s1.p + 1), 220) else .ok (ndL 1 l x, s2))
  else .ok (ndL 1 l [], s1)) := by unfold localR; rw [if_neg (by rw [h]; decide)]; rfl
def funcE (z : Wz) (r : Pz) (nm : ByteArray) (l : List ByteArray) (s : Ps) : PR Nd := match endedR z r.st s with | .error e => .error e | .ok (b, s3) => .ok (.mk 9 nm eB 0 l [b], s3)
theorem funcR_eq {z : Wz} {r : Pz} {s : Ps} : funcR z r s = (match nameR z s with
 | .error e => .error e
 | .ok (nm, s1) => match wantP z s1 [40] with
  | .error e => .error e
  | .ok (_, s2) =>
   if isW z s2.p [41] then funcE z r nm [] ⟨s2.p + 1, s2.o⟩
   else match commaR z (nameR z) s2 with
    | .error e => .error e
    | .ok (l, s3) => match wantP z s3 [41] with
     | .error e => .error e
     | .ok (_, s4) => funcE z r nm l s4) := rfl
theorem local_f {f : Nat} (hC : Con f) (w : World) (r : Nat) (q : Option Addr) (c : Nat) (z : Wz) (s : Ps) (h : RdAt w r q c z s) (hf : 10 * (z.ws.length - s.p) + 9 ≤ f + 10) (hb : isW z s.p tFunction = true) :
  Calls Tryz.prog 175 #[.pointer (some ⟨r, 0, none⟩)] w (RdR (EncN w) w r q c z (localR z (pz z f) s)) := by
 obtain ⟨res, hres⟩ : ∃ res, localR z (pz z f) s = res := ⟨_, rfl⟩
 rw [hres]
 have HC := Lib.hid hC
 have H0 := Lib.hid ((St.start h).newK ndZ)
 have hle := h.le
 have hlen := h.len
 have hlow := h.lt
 rw [localR_f hb, funcR_eq] at hres
 have HR := Lib.hid hres
 have hlt := isW_lt hb
 have cT := take_any (w.alloc ndZ) r q c z s tFunction H0.out.rd
 rw [hb, skipP_yes hb] at cT
 clear hres h hC hb
 go_enter Tryz.func175, Tryz.ntmps175
 go_wp2_with fail
 refine cT.mono ?_
 rintro e w1 ⟨rfl, r1, o1⟩
 have S1 := Lib.hid (H0.out.call o1 r1)
 have hws : w.heap.size < w1.heap.size := by have := o1.le; rw [size_alloc] at this; omega
 clear r1 o1 cT H0
 go_wp2_with fail
 refine (name_any' w1 r q c z ⟨s.p + 1, s.o⟩ S1.out.rd).mono ?_
 intro e w3 hE
 cases hx : nameR z ⟨s.p + 1, s.o⟩ with
 | error y =>
  obtain ⟨rfl, o9⟩ := hE.no hx
  have HRE := Lib.hid (show res = .error y by rw [← HR.out, hx])
  clear hE hx
  go_wp2_with fail
  exact ⟨rfl, S1.out.giv HRE.out o9⟩
 | ok y =>
  obtain ⟨nm, s1⟩ := y
  obtain ⟨v, rfl, hv, r3, o3⟩ := hE.yes hx
  obtain rfl : v = .string nm := hv
  have g1 := (nameR_gt hx).1
  simp only at g1
  have HR1 := Lib.hid (show (match wantP z s1 [40] with
  | .error e => .error e
  | .ok (_, s2) =>
   if isW z s2.p [41] then funcE z (pz z f) nm [] ⟨s2.p + 1, s2.o⟩
   else match commaR z (nameR z) s2 with
    | .error e => .error e
    | .ok (l, s3) => match wantP z s3 [41] with
     | .error e => .error e
     | .ok (_, s4) => funcE z (pz z f) nm l s4) = res by rw [← HR.out, hx])
  have hws3 : w.heap.size < w3.heap.size := by have := o3.le; omega
  have S3 := Lib.hid ((S1.out.call o3 r3).newK (ndBx (.int .i64 9) (.string nm) (.string ⟨#[]⟩) (.int .i64 0) (.slice none 0 0) (.slice none 0 0)))
  clear hE hx r3 o3 S1 HR hws
  go_wp2_with fail
  generalize w3.alloc (.cells #[.int .i64 9, .string nm, .string ⟨#[]⟩, .int .i64 0, .slice none 0 0, .slice none 0 0] 28) = W3 at *
  refine (want_any W3 r q c z s1 [40] S3.out.rd).mono ?_
  intro e w4 hE
  cases hx : wantP z s1 [40] with
  | error y =>
   obtain ⟨rfl, o9⟩ := hE.no hx
   have HRE := Lib.hid (show res = .error y by rw [← HR1.out, hx])
   clear hE hx
   go_wp2_with fail
   exact ⟨rfl, S3.out.giv HRE.out o9⟩
  | ok y =>
   obtain ⟨u, s2⟩ := y
   obtain ⟨v, rfl, hv, r4, o4⟩ := hE.yes hx
   have g2 := (want_gt hx).1
   have HR2 := Lib.hid (show (if isW z s2.p [41] then funcE z (pz z f) nm [] ⟨s2.p + 1, s2.o⟩
   else match commaR z (nameR z) s2 with
    | .error e => .error e
    | .ok (l, s3) => match wantP z s3 [41] with
     | .error e => .error e
     | .ok (_, s4) => funcE z (pz z f) nm l s4) = res by rw [← HR1.out, hx])
   have S4 := Lib.hid (S3.out.call o4 r4)
   clear hE hx hv r4 o4 S3 HR1
   go_wp2_with fail
   have cT := take_any w4 r q c z s2 [41] S4.out.rd
   cases hb : isW z s2.p [41] with
   | true =>
    rw [hb, skipP_yes hb] at cT
    have hlt4 := isW_lt hb
    obtain ⟨s4, hs4⟩ : ∃ s4 : Ps, (⟨s2.p + 1, s2.o⟩ : Ps) = s4 := ⟨_, rfl⟩
    have HRF := Lib.hid (show (match endedR z (pz z f).st s4 with | .error e => .error e | .ok (b, s3) => .ok (.mk 9 nm eB 0 [] [b], s3)) = res by rw [← HR2.out, if_pos hb, ← hs4]; rfl)
    rw [hs4] at cT
    have hp4 : s4.p = s2.p + 1 := by rw [← hs4]
    have hp4' : s2.p + 1 ≤ s4.p ∧ s4.p ≤ s2.p + 1 := ⟨by omega, by omega⟩
    clear hb hs4 hp4
    refine cT.mono ?_
    rintro e w5 ⟨rfl, r5, o5⟩
    have S5 := Lib.hid (S4.out.call o5 r5)
    clear r5 o5 cT S4
    go_wp2_with fail
    refine (ended_any HC.out w5 r q c z s4 S5.out.rd (by omega) (by omega)).mono ?_
    intro e w8 hE
    cases hx : endedR z (pz z f).st s4 with
    | error y =>
     obtain ⟨rfl, o9⟩ := hE.no hx
     have HRE := Lib.hid (show res = .error y by rw [← HRF.out, hx])
     clear hE hx
     go_wp2_with fail
     exact ⟨rfl, S5.out.giv HRE.out o9⟩
    | ok y =>
     obtain ⟨b, s5⟩ := y
     obtain ⟨v, rfl, hv, r8, o8⟩ := hE.yes hx
     obtain ⟨qb, mb, qk, mk', rfl⟩ := EncN.open hv
     have HR2 := Lib.hid (show res = .ok (.mk 9 nm eB 0 ([]) [b], s5) by rw [← HRF.out, hx])
     have SG := S5.out.got o8 r8 hv
     obtain ⟨_, _, _, _, _, k5, _, _, _, _, _, m5⟩ := SG.six
     have l5 := (SG.fst (List.mem_cons_self ..)).2
     have SB := SG.one (x := b) (List.mem_cons_self ..)
     obtain ⟨nb, hnb⟩ : ∃ n, b.names.length = n := ⟨_, rfl⟩
     obtain ⟨kb, hkb⟩ : ∃ n, b.kids.length = n := ⟨_, rfl⟩
     rw [hnb, hkb] at SB ⊢
     have HSB := Lib.hid SB
     clear hE hx r8 o8 hv hnb hkb S5 HRF SB SG
     have SX0 := HSB.out.set5 (by intro p hp; simp at hp; rw [hp]; simp only; omega) (.slice (some ⟨w8.heap.size, 0, none⟩) 1 1)
     rw [World.setCell_alloc_past _ _ _ _ l5] at SX0
     have SX := Lib.hid SX0
     clear SX0
     go_upto_region 8 with (fail)
     generalize (w8.setCell ⟨w3.heap.size, 5, none⟩ (.slice (some ⟨w8.heap.size, 0, none⟩) 1 1)).alloc (.cells #[.int .i64 b.k, .string b.name, .string b.text, .int .i64 b.n, .slice qb nb mb, .slice qk kb mk'] 28) = WX at *
     clear m5 l5 k5 HSB
     obtain ⟨c0, c1, c2, c3, c4, c5, _⟩ := SX.out.six
     obtain ⟨_, _, _, _, _, _, f0, f1, f2, f3, f4, f5⟩ := SX.out.swap.six
     have hltX := (SX.out.fst (b := w.heap.size) (o := ndZ) (by simp)).2
     go_wp2_with fail
     exact bodyPost_ret (v := ndV (.mk 9 nm eB 0 ([]) [b]) (.slice none 0 0) (.slice (some ⟨w8.heap.size, 0, none⟩) 1 1)) (by simp [results, Tryz.results175, go_sem, *, mk_k, mk_name, mk_text, mk_n]) rfl (SX.out.swap.fin (by intro p hp; simp at hp; rw [hp]; simp only; omega) (x := .mk 9 nm eB 0 ([]) [b]) _ _ HR2.out fun W' hW' => PtAt.mk _ _ 9 0 _ _ (PtAt.tx0 _ _) (hW'.pt (List.mem_cons_self ..)))
   | false =>
    rw [hb, skipP_no hb] at cT
    have HR3 := Lib.hid (show (match commaR z (nameR z) s2 with
    | .error e => .error e
    | .ok (l, s3) => match wantP z s3 [41] with
     | .error e => .error e
     | .ok (_, s4) => funcE z (pz z f) nm l s4) = res by rw [← HR2.out, if_neg (by rw [hb]; decide)])
    clear hb HR2
    refine cT.mono ?_
    rintro e w5 ⟨rfl, r5, o5⟩
    have S5 := Lib.hid (S4.out.call o5 r5)
    clear r5 o5 cT S4
    go_wp2_with fail
    refine (names_any w5 r q c z s2 S5.out.rd).mono ?_
    intro e w6 hE
    cases hx : commaR z (nameR z) s2 with
    | error y =>
     obtain ⟨rfl, o9⟩ := hE.no hx
     have HRE := Lib.hid (show res = .error y by rw [← HR3.out, hx])
     clear hE hx
     go_wp2_with fail
     exact ⟨rfl, S5.out.giv HRE.out o9⟩
    | ok y =>
     obtain ⟨l, s3⟩ := y
     obtain ⟨v, rfl, hv, r6, o6⟩ := hE.yes hx
     obtain ⟨qt, ct, rfl⟩ := EncT.open hv
     have g3 := (comma_gt (fun _ _ _ h => nameR_gt h) _ _ _ hx).1
     have HR4 := Lib.hid (show (match wantP z s3 [41] with
     | .error e => .error e
     | .ok (_, s4) => funcE z (pz z f) nm l s4) = res by rw [← HR3.out, hx])
     have S6 := S5.out.got o6 r6 hv
     obtain ⟨nl, hnl⟩ : ∃ n, l.length = n := ⟨_, rfl⟩
     have HNL := Lib.hid hnl
     rw [hnl] at S6 ⊢
     obtain ⟨_, _, _, _, _, _, _, _, _, _, m4, _⟩ := S6.six
     have l4 := (S6.fst (List.mem_cons_self ..)).2
     have S7 := Lib.hid (S6.set4 (by intro p hp; simp at hp; rw [hp]; simp only; omega) (.slice qt nl ct))
     clear hE hx hv r6 o6 S5 HR3 S6 hnl
     go_wp2_with fail
     generalize w6.setCell ⟨w3.heap.size, 4, none⟩ (.slice qt nl ct) = W7 at *
     clear m4 l4
     refine (want_any W7 r q c z s3 [41] S7.out.rd).mono ?_
     intro e w7 hE
     cases hx : wantP z s3 [41] with
     | error y =>
      obtain ⟨rfl, o9⟩ := hE.no hx
      have HRE := Lib.hid (show res = .error y by rw [← HR4.out, hx])
      clear hE hx
      go_wp2_with fail
      exact ⟨rfl, S7.out.giv HRE.out o9⟩
     | ok y =>
      obtain ⟨u, s4⟩ := y
      obtain ⟨v, rfl, hv, r7, o7⟩ := hE.yes hx
      have g4 := (want_gt hx).1
      have HRF := Lib.hid (show (match endedR z (pz z f).st s4 with | .error e => .error e | .ok (b, s3) => .ok (.mk 9 nm eB 0 l [b], s3)) = res by rw [← HR4.out, hx]; rfl)
      have S8 := Lib.hid (S7.out.call o7 r7)
      clear hE hx hv r7 o7 S7 HR4
      go_wp2_with fail
      refine (ended_any HC.out w7 r q c z s4 S8.out.rd (by omega) (by omega)).mono ?_
      intro e w8 hE
      cases hx : endedR z (pz z f).st s4 with
      | error y =>
       obtain ⟨rfl, o9⟩ := hE.no hx
       have HRE := Lib.hid (show res = .error y by rw [← HRF.out, hx])
       clear hE hx
       go_wp2_with fail
       exact ⟨rfl, S8.out.giv HRE.out o9⟩
      | ok y =>
       obtain ⟨b, s5⟩ := y
       obtain ⟨v, rfl, hv, r8, o8⟩ := hE.yes hx
       obtain ⟨qb, mb, qk, mk', rfl⟩ := EncN.open hv
       have HR2 := Lib.hid (show res = .ok (.mk 9 nm eB 0 (l) [b], s5) by rw [← HRF.out, hx])
       have SG := S8.out.got o8 r8 hv
       obtain ⟨_, _, _, _, _, k5, _, _, _, _, _, m5⟩ := SG.six
       have l5 := (SG.fst (List.mem_cons_self ..)).2
       have SB := SG.one (x := b) (List.mem_cons_self ..)
       obtain ⟨nb, hnb⟩ : ∃ n, b.names.length = n := ⟨_, rfl⟩
       obtain ⟨kb, hkb⟩ : ∃ n, b.kids.length = n := ⟨_, rfl⟩
       rw [hnb, hkb] at SB ⊢
       have HSB := Lib.hid SB
       clear hE hx r8 o8 hv hnb hkb S8 HRF SB SG
       have SX0 := HSB.out.set5 (by intro p hp; simp at hp; rw [hp]; simp only; omega) (.slice (some ⟨w8.heap.size, 0, none⟩) 1 1)
       rw [World.setCell_alloc_past _ _ _ _ l5] at SX0
       have SX := Lib.hid SX0
       clear SX0
       go_upto_region 8 with (fail)
       generalize (w8.setCell ⟨w3.heap.size, 5, none⟩ (.slice (some ⟨w8.heap.size, 0, none⟩) 1 1)).alloc (.cells #[.int .i64 b.k, .string b.name, .string b.text, .int .i64 b.n, .slice qb nb mb, .slice qk kb mk'] 28) = WX at *
       clear m5 l5 k5 HSB
       obtain ⟨c0, c1, c2, c3, c4, c5, _⟩ := SX.out.six
       obtain ⟨_, _, _, _, _, _, f0, f1, f2, f3, f4, f5⟩ := SX.out.swap.six
       have hltX := (SX.out.fst (b := w.heap.size) (o := ndZ) (by simp)).2
       go_wp2_with fail
       exact bodyPost_ret (v := ndV (.mk 9 nm eB 0 (l) [b]) (.slice qt nl ct) (.slice (some ⟨w8.heap.size, 0, none⟩) 1 1)) (by simp [results, Tryz.results175, go_sem, *, mk_k, mk_name, mk_text, mk_n]) rfl (SX.out.swap.fin (by intro p hp; simp at hp; rw [hp]; simp only; omega) (x := .mk 9 nm eB 0 (l) [b]) _ _ HR2.out fun W' hW' => PtAt.mk _ _ 9 0 _ _ (hW'.pt (List.mem_cons_of_mem _ (List.mem_cons_of_mem _ (List.mem_cons_self ..)))) (hW'.pt (List.mem_cons_self ..)))
theorem local_n {f : Nat} (hC : Con f) (w : World) (r : Nat) (q : Option Addr) (c : Nat) (z : Wz) (s : Ps) (h : RdAt w r q c z s) (hf : 10 * (z.ws.length - s.p) + 9 ≤ f + 10) (hb : isW z s.p tFunction = false) :
  Calls Tryz.prog 175 #[.pointer (some ⟨r, 0, none⟩)] w (RdR (EncN w) w r q c z (localR z (pz z f) s)) := by
 obtain ⟨res, hres⟩ : ∃ res, localR z (pz z f) s = res := ⟨_, rfl⟩
 rw [hres]
 have HC := Lib.hid hC
 have H0 := Lib.hid ((St.start h).newK ndZ)
 have hle := h.le
 have hlen := h.len
 have hlow := h.lt
 rw [localR_n hb] at hres
 have HR := Lib.hid hres
 have cT := take_any (w.alloc ndZ) r q c z s tFunction H0.out.rd
 rw [hb, skipP_no hb] at cT
 clear hres h hC hb
 go_enter Tryz.func175, Tryz.ntmps175
 go_wp2_with fail
 refine cT.mono ?_
 rintro e w1 ⟨rfl, r1, o1⟩
 have S1 := Lib.hid (H0.out.call o1 r1)
 have hws : w.heap.size < w1.heap.size := by have := o1.le; rw [size_alloc] at this; omega
 clear r1 o1 cT H0
 go_wp2_with fail
 refine (names_any w1 r q c z s S1.out.rd).mono ?_
 intro e w3 hE
 cases hx : commaR z (nameR z) s with
 | error y =>
  obtain ⟨rfl, o9⟩ := hE.no hx
  have HRE := Lib.hid (show res = .error y by rw [← HR.out, hx])
  clear hE hx
  go_wp2_with fail
  exact ⟨rfl, S1.out.giv HRE.out o9⟩
 | ok y =>
  obtain ⟨l, s1⟩ := y
  obtain ⟨v, rfl, hv, r3, o3⟩ := hE.yes hx
  obtain ⟨qt, ct, rfl⟩ := EncT.open hv
  have g1 := (comma_gt (fun _ _ _ h => nameR_gt h) _ _ _ hx).1
  have HR1 := Lib.hid (show (if isW z s1.p [61] then (match commaR z ((pz z f).ex 0) ⟨s1.p + 1, s1.o⟩ with
   | .error e => .error e
   | .ok (x, s2) => if l.length < x.length then .error (atW z (s1.p + 1), 220) else .ok (ndL 1 l x, s2))
  else .ok (ndL 1 l [], s1)) = res by rw [← HR.out, hx])
  have hws3 : w.heap.size < w3.heap.size := by have := o3.le; omega
  have S30 := (S1.out.got o3 r3 hv).newK (ndBx (.int .i64 1) (.string ⟨#[]⟩) (.string ⟨#[]⟩) (.int .i64 0) (.slice qt l.length ct) (.slice none 0 0))
  obtain ⟨nl, hnl⟩ : ∃ n, l.length = n := ⟨_, rfl⟩
  rw [hnl] at S30 HR1 ⊢
  have S3 := Lib.hid S30
  clear hE hx r3 o3 S1 HR hws hv S30 hnl
  go_wp2_with fail
  generalize w3.alloc (.cells #[.int .i64 1, .string ⟨#[]⟩, .string ⟨#[]⟩, .int .i64 0, .slice qt nl ct, .slice none 0 0] 28) = W3 at *
  have cT := take_any W3 r q c z s1 [61] S3.out.rd
  cases hb : isW z s1.p [61] with
  | false =>
   rw [hb, skipP_no hb] at cT
   have HR2 := Lib.hid (show res = .ok (ndL 1 l [], s1) by rw [← HR1.out, if_neg (by rw [hb]; decide)])
   clear hb HR1
   refine cT.mono ?_
   rintro e w5 ⟨rfl, r5, o5⟩
   have SX := Lib.hid (S3.out.call o5 r5)
   clear r5 o5 cT S3
   obtain ⟨c0, c1, c2, c3, c4, c5, _⟩ := SX.out.six
   obtain ⟨_, _, _, _, _, _, f0, f1, f2, f3, f4, f5⟩ := SX.out.swap.six
   have hltX := (SX.out.fst (b := w.heap.size) (o := ndZ) (by simp)).2
   go_wp2_with fail
   exact bodyPost_ret (v := ndV (ndL 1 l []) (.slice qt nl ct) (.slice none 0 0)) (by simp [results, Tryz.results175, go_sem, *, ndL_k, ndL_name, ndL_text, ndL_n]) rfl (SX.out.swap.fin (by intro p hp; simp at hp; rw [hp]; simp only; omega) (x := ndL 1 l []) _ _ HR2.out fun W' hW' => PtAt.mk _ _ 1 0 _ _ (hW'.pt (List.mem_cons_self ..)) (PtAt.kd0 _ _))
  | true =>
   rw [hb, skipP_yes hb] at cT
   have hlt := isW_lt hb
   have HR2 := Lib.hid (show (match commaR z ((pz z f).ex 0) ⟨s1.p + 1, s1.o⟩ with
   | .error e => .error e
   | .ok (x, s2) => if nl < x.length then .error (atW z (s1.p + 1), 220) else .ok (ndL 1 l x, s2)) = res by rw [← HR1.out, if_pos hb])
   clear hb HR1
   refine cT.mono ?_
   rintro e w5 ⟨rfl, r5, o5⟩
   have S5 := Lib.hid (S3.out.call o5 r5)
   clear r5 o5 cT S3
   go_wp2_with fail
   refine (at_any w5 r q c z ⟨s1.p + 1, s1.o⟩ S5.out.rd).mono ?_
   rintro e w6 ⟨rfl, e6⟩
   have S6 := Lib.hid (S5.out.ext e6)
   obtain ⟨pl, hpl⟩ : ∃ pl, atW z (s1.p + 1) = pl := ⟨_, rfl⟩
   simp only [hpl] at HR2 ⊢
   clear e6 S5 hpl
   go_wp2_with fail
   refine (list_any HC.out w6 r q c z ⟨s1.p + 1, s1.o⟩ S6.out.rd (by simp only; omega)).mono ?_
   intro e w7 hE
   cases hx : commaR z ((pz z f).ex 0) ⟨s1.p + 1, s1.o⟩ with
   | error y =>
    obtain ⟨rfl, o9⟩ := hE.no hx
    have HRE := Lib.hid (show res = .error y by rw [← HR2.out, hx])
    clear hE hx
    go_wp2_with fail
    exact ⟨rfl, S6.out.giv HRE.out o9⟩
   | ok y =>
    obtain ⟨x, s2⟩ := y
    obtain ⟨v, rfl, hv, r7, o7⟩ := hE.yes hx
    obtain ⟨qv, cv, rfl⟩ := EncK.open hv
    have HR3 := Lib.hid (show (if nl < x.length then .error (pl, 220) else .ok (ndL 1 l x, s2)) = res by rw [← HR2.out, hx])
    have S7 := S6.out.got o7 r7 hv
    obtain ⟨kl, hkl⟩ : ∃ n, x.length = n := ⟨_, rfl⟩
    rw [hkl] at S7 HR3 ⊢
    obtain ⟨_, _, _, _, _, _, _, _, _, _, _, m5⟩ := S7.six
    have l5 := (S7.fst (List.mem_cons_self ..)).2
    have SX := Lib.hid (S7.set5 (by intro p hp; simp at hp; rw [hp]; simp only; omega) (.slice qv kl cv))
    clear hE hx hv r7 o7 S6 S7 hkl HR2
    go_upto_region 13 with (fail)
    generalize w7.setCell ⟨w3.heap.size, 5, none⟩ (.slice qv kl cv) = WX at *
    clear m5 l5
    obtain ⟨_, _, _, _, k4, k5, _⟩ := SX.out.six
    by_cases hlk : nl < kl
    ·have hd : decide ((nl : Int) < (kl : Int)) = true := decide_eq_true (by omega)
     have hd2 : decide (nl < kl) = true := decide_eq_true hlk
     have HR4 := Lib.hid (show res = .error (pl, 220) by rw [← HR3.out, if_pos hlk])
     clear HR3
     go_wp2_with fail
     exact ⟨rfl, .mk0 HR4.out SX.out.only⟩
    ·have hd : decide ((nl : Int) < (kl : Int)) = false := decide_eq_false (by omega)
     have hd2 : decide (nl < kl) = false := decide_eq_false hlk
     have HR4 := Lib.hid (show res = .ok (ndL 1 l x, s2) by rw [← HR3.out, if_neg hlk])
     clear HR3
     go_upto_region 15 with (fail)
     clear k4 k5
     obtain ⟨c0, c1, c2, c3, c4, c5, _⟩ := SX.out.six
     obtain ⟨_, _, _, _, _, _, f0, f1, f2, f3, f4, f5⟩ := SX.out.swap.six
     have hltX := (SX.out.fst (b := w.heap.size) (o := ndZ) (by simp)).2
     go_wp2_with fail
     exact bodyPost_ret (v := ndV (ndL 1 l x) (.slice qt nl ct) (.slice qv kl cv)) (by simp [results, Tryz.results175, go_sem, *, ndL_k, ndL_name, ndL_text, ndL_n]) rfl (SX.out.swap.fin (by intro p hp; simp at hp; rw [hp]; simp only; omega) (x := ndL 1 l x) _ _ HR4.out fun W' hW' => PtAt.mk _ _ 1 0 _ _ (hW'.pt (List.mem_cons_of_mem _ (List.mem_cons_self ..))) (hW'.pt (List.mem_cons_self ..)))
theorem local_any {f : Nat} (hC : Con f) (w : World) (r : Nat) (q : Option Addr) (c : Nat) (z : Wz) (s : Ps) (h : RdAt w r q c z s) (hf : 10 * (z.ws.length - s.p) + 9 ≤ f + 10) :
  Calls Tryz.prog 175 #[.pointer (some ⟨r, 0, none⟩)] w (RdR (EncN w) w r q c z (localR z (pz z f) s)) := by
 cases hb : isW z s.p tFunction with
 | true => exact local_f hC w r q c z s h hf hb
 | false => exact local_n hC w r q c z s h hf hb
end Go.Proofs.YtkbcnacjaakleaaGreatDoor
