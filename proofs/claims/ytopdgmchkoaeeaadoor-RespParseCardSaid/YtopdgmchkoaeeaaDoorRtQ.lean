/- The reader of requests: its next request. -/
import Derived.Test.YtopdgmchkoaeeaaDoorRtP
namespace Go.Proofs.YtopdgmchkoaeeaaDoor
open Go.RowKit
set_option linter.unusedVariables false
set_option linter.unusedSimpArgs false

theorem own_base {w : World} {base base' : Nat} {e : TypeId} {s : Nat} {v : Value} {n : Nat} {xs : List Value} (h : w.ownsRow base e s v n xs) (hb : base' ≤ base) : w.ownsRow base' e s v n xs :=
  ⟨h.1, h.2.imp id (fun ⟨g, cap, cur, e1, h1, h2⟩ => ⟨g, cap, cur, e1, Nat.le_trans hb h1, h2⟩)⟩
theorem bytes_drop {w : World} {b o c : Nat} {l : List UInt8} (h : BytesAt w (some ⟨b, o, none⟩) c l) (n : Nat) (hn : n ≤ l.length) : BytesAt w (some ⟨b, o + n, none⟩) (c - n) (l.drop n) := by
  have hr := h.room
  have hl := h.len
  refine ⟨fun k hk => ?_, by rw [List.length_drop]; omega, ?_, by rw [List.length_drop]; omega⟩
  · have hk' : n + k < l.length := by rw [List.length_drop] at hk; omega
    obtain ⟨b', o', e, hc⟩ := h.bytes (n + k) hk'
    cases e
    refine ⟨b, o + n, rfl, ?_⟩
    rw [List.getElem_drop, Nat.add_assoc]
    exact hc
  · rcases h.slot with ⟨e, _⟩ | ⟨b', o', e, hb⟩
    · cases e
    · cases e
      exact .inr ⟨_, _, rfl, hb⟩
theorem bytes_done {w : World} {b o c : Nat} {l : List UInt8} (h : BytesAt w (some ⟨b, o, none⟩) c l) : BytesAt w (some ⟨b, o, none⟩) 0 [] := by
  refine ⟨fun k hk => absurd hk (by simp), by simp, ?_, ⟨Nat.le_refl _, by omega⟩⟩
  rcases h.slot with ⟨e, _⟩ | ⟨b', o', e, hb⟩
  · cases e
  · cases e
    exact .inr ⟨_, _, rfl, hb⟩
theorem parse_pos {l : List UInt8} {x : List ByteArray × Nat} (h : parseS l = .ok x) : x.2 ≤ l.length := by
  have hb := parse_br l
  rw [h] at hb
  cases hr : parseR l with
  | error e => rw [hr] at hb; exact False.elim hb
  | ok y => rw [hr] at hb; exact hb.2.1
theorem parse_err {l : List UInt8} {c : Int} (h : parseS l = .error c) : c = 130 ∨ c = 131 := by
  have hb := parse_br l
  rw [h] at hb
  cases hr : parseR l with
  | ok y => rw [hr] at hb; exact False.elim hb
  | error e =>
    rw [hr] at hb
    obtain rfl : c = e := hb
    rcases (parse_goes l []).2 _ hr with h | h
    · exact .inl h
    · exact .inr h.1
/-- What Next leaves of a reader that has not ended. -/
def NextE (w : World) (base g : Nat) (l : List UInt8) (r : Except Int (List ByteArray × Nat)) (e : Ending) (w' : World) : Prop :=
  Only g w w' ∧ (match r with
  | .ok x => ∃ v, e = .returned (.tuple #[v, .int .i64 0]) ∧ TextsFrom w.heap.size w' v x.1 ∧ RdAt w' base g (l.drop x.2) 0
  | .error c => e = .returned (.tuple #[.slice none 0 0, .int .i64 c]) ∧ RdAt w' base g l (if c = 131 then 131 else 0))
theorem NextE.ok {w w' : World} {base g : Nat} {l : List UInt8} {r : Except Int (List ByteArray × Nat)} {e : Ending} {x : List ByteArray × Nat} (hr : r = .ok x) (ho : Only g w w') (h : ∃ v, e = .returned (.tuple #[v, .int .i64 0]) ∧ TextsFrom w.heap.size w' v x.1 ∧ RdAt w' base g (l.drop x.2) 0) : NextE w base g l r e w' := by
  subst hr; exact ⟨ho, h⟩
theorem NextE.err {w w' : World} {base g : Nat} {l : List UInt8} {r : Except Int (List ByteArray × Nat)} {e : Ending} {c : Int} (hr : r = .error c) (ho : Only g w w') (h : e = .returned (.tuple #[.slice none 0 0, .int .i64 c]) ∧ RdAt w' base g l (if c = 131 then 131 else 0)) : NextE w base g l r e w' := by
  subst hr; exact ⟨ho, h⟩
set_option maxRecDepth 100000 in
theorem next_ended (w : World) (base g : Nat) (l : List UInt8) (c : Int) (hc : ¬ c = 0) (h : RdAt w base g l c) :
    Calls Tryd.prog 26 #[.pointer (some ⟨g, 0, none⟩)] w fun e w' => e = .returned (.tuple #[.slice none 0 0, .int .i64 c]) ∧ Ext w w' := by
  obtain ⟨v, hb, ho⟩ := h.ex
  have b1 := hb.cell 1
  have b2 := hb.cell 2
  simp only [List.getElem?_toArray, List.getElem?_cons_zero, List.getElem?_cons_succ] at b1 b2
  have h0 : (c == 0) = false := by simpa using hc
  have h0' : (c != 0) = true := by simpa using hc
  clear h hb ho
  go_enter Tryd.func26, Tryd.ntmps26
  go_wp2_with fail
  go_quiet (fail)
  go_wp2_with fail
  go_ret2
  exact ⟨rfl, (Ext.refl w).drewN _⟩
set_option maxRecDepth 100000 in
set_option maxHeartbeats 2000000 in
theorem next_some (w : World) (base g : Nat) (l : List UInt8) (b o cp : Nat) (h : RdAt w base g l 0) (hb : Blk w g 95 #[.slice (some ⟨b, o, none⟩) l.length cp, .bool true, .int .i64 0])
    (hm : BytesAt w (some ⟨b, o, none⟩) cp l) (hlen : l.length ≤ 140737488355328) :
    Calls Tryd.prog 26 #[.pointer (some ⟨g, 0, none⟩)] w (NextE w base g l (parseS l)) := by
  obtain ⟨r, hr⟩ : ∃ r, parseS l = r := ⟨_, rfl⟩
  have cP := parse_any w (some ⟨b, o, none⟩) cp l hm
  rw [hr] at cP ⊢
  have HR := Lib.hid hr
  have HC := Lib.hid cP
  have H := Lib.hid h
  have HB := Lib.hid hb
  have HM := Lib.hid hm
  have hroom := hm.room
  have b0 := hb.cell 0
  have b1 := hb.cell 1
  have b2 := hb.cell 2
  simp only [List.getElem?_toArray, List.getElem?_cons_zero, List.getElem?_cons_succ] at b0 b1 b2
  have hgl := hb.lt
  have hgb := h.hg
  have hbb := h.hb
  clear h hb hm hr cP
  go_enter Tryd.func26, Tryd.ntmps26
  go_wp2_with fail
  refine HC.out.mono ?_
  clear HC
  intro e w1 hs
  cases r with
  | error c =>
    obtain ⟨rfl, e1⟩ := hs
    have hcc := parse_err HR.out
    have B1 := HB.out.ext e1
    have b0 := B1.cell 0
    have b1 := B1.cell 1
    have b2 := B1.cell 2
    have z0 := B1.frozen 0
    have z2 := B1.frozen 2
    simp only [List.getElem?_toArray, List.getElem?_cons_zero, List.getElem?_cons_succ] at b0 b1 b2
    have E1 := Lib.hid e1
    have HB1 := Lib.hid B1
    have HC := Lib.hid (clone_some w1 b o cp l (HM.out.ext e1) hlen)
    clear e1 B1
    go_wp2_with fail
    refine HC.out.mono ?_
    rintro e w2 ⟨v2, rfl, own2, e2⟩
    obtain ⟨q2, c2, hv2, _⟩ := own_bytes own2
    subst hv2
    have B2 := HB1.out.ext e2
    have b0 := B2.cell 0
    have b1 := B2.cell 1
    have b2 := B2.cell 2
    have z0 := B2.frozen 0
    have z2 := B2.frozen 2
    simp only [List.getElem?_toArray, List.getElem?_cons_zero, List.getElem?_cons_succ] at b0 b1 b2
    have E2 := Lib.hid (E1.out.trans e2)
    have HB2 := Lib.hid B2
    have HO2 := Lib.hid (own_base own2 (Nat.le_trans hbb E1.out.le))
    clear own2 e2 B2 HC E1 HB1
    have hg2 : base ≤ w2.heap.size := Nat.le_trans hbb E2.out.le
    rcases hcc with rfl | rfl
    · go_wp2_with fail
      go_ret2
      refine NextE.err rfl ((Only.of_ext E2.out).set 0 _) ⟨rfl, ⟨⟨_, by simpa using HB2.out.set_ 0 (.slice q2 l.length c2), own_set HO2.out hgb⟩, hgb, by rw [World.size_setCell]; exact hg2⟩⟩
    · go_wp2_with fail
      go_ret2
      refine NextE.err rfl (((Only.of_ext E2.out).set 0 _).set 2 _) ⟨rfl, ⟨⟨_, by simpa using (HB2.out.set_ 0 (.slice q2 l.length c2)).set_ 2 (.int .i64 131), own_set (own_set HO2.out hgb) hgb⟩, hgb, by rw [World.size_setCell, World.size_setCell]; exact hg2⟩⟩
  | ok x =>
    obtain ⟨v, rfl, hT, e1⟩ := hs
    obtain ⟨ts, n⟩ := x
    have hn : n ≤ l.length := parse_pos HR.out
    obtain ⟨q3, c3, hv3⟩ : ∃ q' c', v = .slice q' ts.length c' := ⟨_, _, hT.choose_spec.choose_spec.1⟩
    subst hv3
    have B1 := HB.out.ext e1
    have b0 := B1.cell 0
    have b1 := B1.cell 1
    have b2 := B1.cell 2
    simp only [List.getElem?_toArray, List.getElem?_cons_zero, List.getElem?_cons_succ] at b0 b1 b2
    have HTX := Lib.hid hT
    have E1 := Lib.hid e1
    have HB1 := Lib.hid B1
    have k0 : (0 : Int) ≤ (n : Int) := by omega
    have k1 : (n : Int) ≤ (l.length : Int) := by omega
    have k2 : (l.length : Int) ≤ (cp : Int) := by omega
    have hlz : (l.drop n).length = l.length - n := List.length_drop
    by_cases hcn : cp = n
    · obtain rfl : cp = l.length := by omega
      have HC := Lib.hid (clone_some w1 b o 0 [] (bytes_done (HM.out.ext e1)) (by simp))
      have HN := Lib.hid hcn
      have hd : l.drop n = [] := List.drop_eq_nil_of_le (by omega)
      have HD := Lib.hid hd
      clear hT e1 B1 hlz hd
      subst hcn
      go_wp2_with fail
      refine HC.out.mono ?_
      rintro e w2 ⟨v2, rfl, own2, e2⟩
      obtain ⟨q2, c2, hv2, _⟩ := own_bytes own2
      subst hv2
      have B2 := HB1.out.ext e2
      have b0 := B2.cell 0
      have b1 := B2.cell 1
      have b2 := B2.cell 2
      have z0 := B2.frozen 0
      have z2 := B2.frozen 2
      simp only [List.getElem?_toArray, List.getElem?_cons_zero, List.getElem?_cons_succ] at b0 b1 b2
      have E2 := Lib.hid (E1.out.trans e2)
      have HT2 := Lib.hid (HTX.out.low (fun b o x _ hc => e2.cell hc))
      have HB2 := Lib.hid B2
      have HO2 := Lib.hid (own_base own2 (Nat.le_trans hbb E1.out.le))
      clear own2 e2 B2 HC E1 HB1 HTX
      have hg2 : base ≤ w2.heap.size := Nat.le_trans hbb E2.out.le
      go_wp2_with fail
      go_ret2
      refine NextE.ok rfl ((Only.of_ext E2.out).set 0 _) ⟨_, rfl, HT2.out.low (fun b o x hb hc => by rw [cell_far (by omega)]; exact hc), ⟨⟨_, by simpa using HB2.out.set_ 0 (.slice q2 0 c2), by rw [HD.out]; exact own_set HO2.out hgb⟩, hgb, by rw [World.size_setCell]; exact hg2⟩⟩
    · have hcn' : ¬ n = cp := fun e => hcn e.symm
      have HC := clone_some w1 b (o + n) (cp - n) (l.drop n) (bytes_drop (HM.out.ext e1) n hn) (by omega)
      rw [hlz] at HC
      have HCC := Lib.hid HC
      clear hT e1 B1 hlz HC
      go_wp2_with fail
      refine HCC.out.mono ?_
      rintro e w2 ⟨v2, rfl, own2, e2⟩
      obtain ⟨q2, c2, hv2, _⟩ := own_bytes own2
      rw [List.length_drop] at hv2
      subst hv2
      have B2 := HB1.out.ext e2
      have b0 := B2.cell 0
      have b1 := B2.cell 1
      have b2 := B2.cell 2
      have z0 := B2.frozen 0
      have z2 := B2.frozen 2
      simp only [List.getElem?_toArray, List.getElem?_cons_zero, List.getElem?_cons_succ] at b0 b1 b2
      have E2 := Lib.hid (E1.out.trans e2)
      have HT2 := Lib.hid (HTX.out.low (fun b o x _ hc => e2.cell hc))
      have HB2 := Lib.hid B2
      have HO2 := Lib.hid (own_base own2 (Nat.le_trans hbb E1.out.le))
      clear own2 e2 B2 HCC E1 HB1 HTX
      have hg2 : base ≤ w2.heap.size := Nat.le_trans hbb E2.out.le
      go_wp2_with fail
      go_ret2
      refine NextE.ok rfl ((Only.of_ext E2.out).set 0 _) ⟨_, rfl, HT2.out.low (fun b o x hb hc => by rw [cell_far (by omega)]; exact hc), ⟨⟨_, by simpa using HB2.out.set_ 0 (.slice q2 (l.length - n) c2), own_set HO2.out hgb⟩, hgb, by rw [World.size_setCell]; exact hg2⟩⟩
set_option maxRecDepth 100000 in
set_option maxHeartbeats 2000000 in
theorem next_none (w : World) (base g : Nat) (h : RdAt w base g [] 0) (hb : Blk w g 95 #[.slice none 0 0, .bool true, .int .i64 0]) :
    Calls Tryd.prog 26 #[.pointer (some ⟨g, 0, none⟩)] w (NextE w base g [] (.error 130)) := by
  have hm : BytesAt w none 0 [] := ⟨fun k hk => absurd hk (by simp), by simp, .inl ⟨rfl, rfl⟩, ⟨Nat.le_refl _, by omega⟩⟩
  have HC := Lib.hid (parse_any w none 0 [] hm)
  have H := Lib.hid h
  have HB := Lib.hid hb
  have b0 := hb.cell 0
  have b1 := hb.cell 1
  have b2 := hb.cell 2
  simp only [List.getElem?_toArray, List.getElem?_cons_zero, List.getElem?_cons_succ] at b0 b1 b2
  have hgl := hb.lt
  have hgb := h.hg
  have hbb := h.hb
  have hsl : ∀ W, (Instr.slice 25 (.slice none 0 0) (some (.int .i64 0)) none none).run Tryd.prog W = .ok (.slice none 0 0) W := fun _ => by kernel_rfl
  clear h hb hm
  go_enter Tryd.func26, Tryd.ntmps26
  go_wp2_with fail
  refine HC.out.mono ?_
  clear HC
  intro e w1 hs
  obtain ⟨rfl, e1⟩ : e = .returned (.tuple #[.slice none 0 0, .int .i64 0, .int .i64 130]) ∧ Ext w w1 := hs
  have B1 := HB.out.ext e1
  have b0 := B1.cell 0
  have b1 := B1.cell 1
  have b2 := B1.cell 2
  have z0 := B1.frozen 0
  have z2 := B1.frozen 2
  simp only [List.getElem?_toArray, List.getElem?_cons_zero, List.getElem?_cons_succ] at b0 b1 b2
  have E1 := Lib.hid e1
  have HB1 := Lib.hid B1
  clear e1 B1
  go_wp2_with fail
  refine (clone_nil w1).mono ?_
  rintro e w2 ⟨rfl, rfl⟩
  go_wp2_with fail
  go_ret2
  refine NextE.err rfl ((Only.of_ext E1.out).set 0 _) ⟨rfl, ⟨⟨_, by simpa using HB1.out.set_ 0 (.slice none 0 0), own_set ⟨rfl, .inl ⟨rfl, rfl⟩⟩ hgb⟩, hgb, by rw [World.size_setCell]; exact Nat.le_trans hbb E1.out.le⟩⟩
theorem next_any (w : World) (base g : Nat) (l : List UInt8) (h : RdAt w base g l 0) (hlen : l.length ≤ 140737488355328) :
    Calls Tryd.prog 26 #[.pointer (some ⟨g, 0, none⟩)] w (NextE w base g l (parseS l)) := by
  obtain ⟨v, hb, ho⟩ := h.ex
  obtain ⟨q, c, hv, hm, _⟩ := own_bytes ho
  subst hv
  rcases hm.slot with ⟨rfl, rfl⟩ | ⟨b, o, rfl, _⟩
  · have hr := hm.room.1
    obtain rfl : l = [] := List.eq_nil_of_length_eq_zero (by omega)
    exact next_none w base g h hb
  · exact next_some w base g l b o c h hb hm hlen
end Go.Proofs.YtopdgmchkoaeeaaDoor
