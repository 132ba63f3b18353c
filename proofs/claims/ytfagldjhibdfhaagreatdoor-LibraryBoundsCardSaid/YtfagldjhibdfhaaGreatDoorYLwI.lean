/- LibraryBounds: the walk. -/
import Derived.Test.YtfagldjhibdfhaaGreatDoorYLwG
namespace Go.Proofs.YtfagldjhibdfhaaGreatDoor
open Go.RowKit
set_option linter.unusedVariables false
set_option linter.unusedSimpArgs false

theorem rep_len2 (n : Nat) : (Lib.repeatL ([97, 98] : List UInt8) n).length = n * 2 := by
  induction n with
  | zero => rfl
  | succ n ih =>
    have e : Lib.repeatL ([97, 98] : List UInt8) (n + 1) = [97, 98] ++ Lib.repeatL [97, 98] n := by first | rfl | simp [Lib.repeatL]
    rw [e, List.length_append, ih]
    simp
    omega
theorem call_rep {H : Hp} {s : ByteArray} (h : s.size ≤ 1048576) (n : Int) : callR H wRep [⟨3, 0, s⟩, ⟨2, n, eN⟩] = some (repR H s n) := by
  rw [callR_of (f := 8) (by kernel_rfl) (by show askL H [116, 110] _ = _; simp [askL, bad_t h, bad_n])]
  rfl
abbrev bTab (B : ByteArray) : Tb := [(iK 1, ⟨3, 0, B⟩), (iK 2, ⟨3, 0, eN⟩)]
theorem bset1 (B : ByteArray) (hB : B.size ≤ 1048576) : setW ⟨[[]], 1000000, 65539⟩ ⟨4, 0, eN⟩ ⟨2, 1, eN⟩ ⟨3, 0, B⟩ = eN ∧ setH ⟨[[]], 1000000, 65539⟩ ⟨4, 0, eN⟩ ⟨2, 1, eN⟩ ⟨3, 0, B⟩ = ⟨[[(iK 1, ⟨3, 0, B⟩)]], 1000000, 65540⟩ := by
  have h1 : setW ⟨[[]], 1000000, 65539⟩ ⟨4, 0, eN⟩ ⟨2, 1, eN⟩ ⟨3, 0, B⟩ = eN := by
    unfold setW
    rw [ck_text hB, if_pos rfl]
    kernel_rfl
  refine ⟨h1, ?_⟩
  unfold setH
  rw [if_pos (show _ = sNone from h1)]
  kernel_rfl
theorem bset2 (B : ByteArray) : setW ⟨[[(iK 1, ⟨3, 0, B⟩)]], 1000000, 65540⟩ ⟨4, 0, eN⟩ ⟨2, 2, eN⟩ ⟨3, 0, eN⟩ = eN ∧ setH ⟨[[(iK 1, ⟨3, 0, B⟩)]], 1000000, 65540⟩ ⟨4, 0, eN⟩ ⟨2, 2, eN⟩ ⟨3, 0, eN⟩ = ⟨[bTab B], 1000000, 65541⟩ := ⟨by kernel_rfl, by kernel_rfl⟩
theorem bget (B : ByteArray) : lenV ⟨[bTab B], 1000000, 65541⟩ ⟨4, 0, eN⟩ = 2 ∧ getV ⟨[bTab B], 1000000, 65541⟩ ⟨4, 0, eN⟩ (iK 1) = ⟨3, 0, B⟩ ∧ getV ⟨[bTab B], 1000000, 65541⟩ ⟨4, 0, eN⟩ (iK 2) = ⟨3, 0, eN⟩ := ⟨by kernel_rfl, by kernel_rfl, by kernel_rfl⟩
theorem bask (B sep : ByteArray) (h : sep.size ≤ 1048576) : askW ⟨[bTab B], 1000000, 65541⟩ 2 [⟨4, 0, eN⟩, ⟨3, 0, sep⟩] = sNone := by
  show askL _ [98, 116] _ = _
  have e1 : kindBad 98 ⟨4, 0, eN⟩ = false := by kernel_rfl
  have e2 : lenW ⟨[bTab B], 1000000, 65541⟩ ⟨4, 0, eN⟩ = sNone := by kernel_rfl
  simp [askL, e1, e2, bad_t h]
theorem told3 (B : ByteArray) : toldV ⟨3, 0, B⟩ = B := by kernel_rfl
theorem cat_step2 (H : Hp) (t : Vl) (sep : List UInt8) (r : Nat) (i : Int) (out : List UInt8) : catP H t sep (r + 1) i out =
    if (getV H t (iK i)).k = 3 ∨ (getV H t (iK i)).k = 2 then
      if (((if 1 < i then sep else []) ++ (toldV (getV H t (iK i))).data.toList).length : Int) ≤ 1048576 - out.length then catP H t sep r (i + 1) (out ++ ((if 1 < i then sep else []) ++ (toldV (getV H t (iK i))).data.toList)) else .error sLong
    else .error sType := rfl
theorem bcat1 (B : ByteArray) (hB : B.size = 1048576) : callR ⟨[bTab B], 1000000, 65541⟩ wConcat [⟨4, 0, eN⟩, ⟨3, 0, eN⟩] = some ⟨⟨3, 0, B⟩, eN, ⟨[bTab B], 1000000, 131078⟩⟩ := by
  rw [callR_of (f := 2) (by kernel_rfl) (bask B eN (by decide))]
  obtain ⟨g1, g2, g3⟩ := bget B
  have hl : B.data.toList.length = 1048576 := hB
  show some (concatR ⟨[bTab B], 1000000, 65541⟩ ⟨4, 0, eN⟩ eN) = _
  unfold concatR
  rw [g1]
  show some (match catP _ _ _ 2 1 [] with | .error w => _ | .ok x => _) = _
  rw [cat_step2, g2, if_pos (.inl rfl), told3, if_neg (show ¬ (1 : Int) < 1 by decide), List.nil_append, if_pos (by rw [hl]; decide), List.nil_append]
  rw [cat_step2, show iK (1 + 1) = iK 2 from rfl, g3, if_pos (.inl rfl), told3, if_pos (show (1 : Int) < 1 + 1 by decide)]
  rw [if_pos (by rw [hl]; decide)]
  show some (mkR _ (ba (B.data.toList ++ ([] ++ [])))) = _
  rw [List.append_nil, List.append_nil, ba_of, mkR_fits (by omega) (by show (65541 : Int) + mkN B ≤ 1000000; unfold mkN; rw [hB]; decide)]
  show some (Rs.mk _ _ (Hp.mk _ _ (65541 + mkN B))) = _
  unfold mkN
  rw [hB]
  rfl
theorem bcat2 (B : ByteArray) (hB : B.size = 1048576) : callR ⟨[bTab B], 1000000, 131078⟩ wConcat [⟨4, 0, eN⟩, ⟨3, 0, ⟨#[43]⟩⟩] = some (.no ⟨[bTab B], 1000000, 131078⟩ sLong) := by
  have hask : askW ⟨[bTab B], 1000000, 131078⟩ 2 [⟨4, 0, eN⟩, ⟨3, 0, ⟨#[43]⟩⟩] = sNone := by
    show askL _ [98, 116] _ = _
    have e1 : kindBad 98 ⟨4, 0, eN⟩ = false := by kernel_rfl
    have e2 : lenW ⟨[bTab B], 1000000, 131078⟩ ⟨4, 0, eN⟩ = sNone := by kernel_rfl
    have e3 : kindBad 116 ⟨3, 0, ⟨#[43]⟩⟩ = false := by kernel_rfl
    simp [askL, e1, e2, e3]
  rw [callR_of (f := 2) (by kernel_rfl) hask]
  have g1 : lenV ⟨[bTab B], 1000000, 131078⟩ ⟨4, 0, eN⟩ = 2 := by kernel_rfl
  have g2 : getV ⟨[bTab B], 1000000, 131078⟩ ⟨4, 0, eN⟩ (iK 1) = ⟨3, 0, B⟩ := by kernel_rfl
  have g3 : getV ⟨[bTab B], 1000000, 131078⟩ ⟨4, 0, eN⟩ (iK 2) = ⟨3, 0, eN⟩ := by kernel_rfl
  have hl : B.data.toList.length = 1048576 := hB
  show some (concatR ⟨[bTab B], 1000000, 131078⟩ ⟨4, 0, eN⟩ ⟨#[43]⟩) = _
  unfold concatR
  rw [g1]
  show some (match catP _ _ _ 2 1 [] with | .error w => _ | .ok x => _) = _
  rw [cat_step2, g2, if_pos (.inl rfl), told3, if_neg (show ¬ (1 : Int) < 1 by decide), List.nil_append, if_pos (by rw [hl]; decide), List.nil_append]
  rw [cat_step2, show iK (1 + 1) = iK 2 from rfl, g3, if_pos (.inl rfl), told3, if_pos (show (1 : Int) < 1 + 1 by decide)]
  rw [if_neg (by rw [hl]; decide)]
set_option maxRecDepth 100000 in
set_option maxHeartbeats 8000000 in
theorem law_bounds (w : World) (hL : LLaid w) : Calls Tryz.prog 3 #[] w fun e w' => e = .returned (.bool true) ∧ Ext w w' := by
  have HL := Lib.hid hL
  obtain ⟨B, hB⟩ : ∃ B, ba (Lib.repeatL ([97, 98] : List UInt8) 524288) = B := ⟨_, rfl⟩
  have hBz : B.size = 1048576 := by rw [← hB, ba_size, rep_len2]
  obtain ⟨H1, hH1⟩ : ∃ H1 : Hp, H1 = ⟨[], 1000000, 65537⟩ := ⟨_, rfl⟩
  obtain ⟨H3, hH3⟩ : ∃ H3 : Hp, H3 = ⟨[], 1000000, 65538⟩ := ⟨_, rfl⟩
  obtain ⟨H4, hH4⟩ : ∃ H4 : Hp, H4 = ⟨[[]], 1000000, 65539⟩ := ⟨_, rfl⟩
  obtain ⟨H5, hH5⟩ : ∃ H5 : Hp, H5 = ⟨[[(iK 1, ⟨3, 0, B⟩)]], 1000000, 65540⟩ := ⟨_, rfl⟩
  obtain ⟨H6, hH6⟩ : ∃ H6 : Hp, H6 = ⟨[bTab B], 1000000, 65541⟩ := ⟨_, rfl⟩
  obtain ⟨H7, hH7⟩ : ∃ H7 : Hp, H7 = ⟨[bTab B], 1000000, 131078⟩ := ⟨_, rfl⟩
  have r1 : callR (newH 1000000) wRep [⟨3, 0, ⟨#[97, 98]⟩⟩, ⟨2, 524288, eN⟩] = some ⟨⟨3, 0, B⟩, eN, H1⟩ := by
    rw [call_rep (by decide)]
    unfold repR
    rw [show repL (⟨#[97, 98]⟩ : ByteArray).data.toList 524288 = some (Lib.repeatL [97, 98] 524288) from by unfold repL; rw [if_pos ⟨by decide, by decide⟩, if_neg (by decide)]; rfl]
    show some (mkR _ (ba _)) = _
    rw [hB, mkR_fits (by omega) (by unfold mkN; rw [hBz]; decide), hH1]
    show some (Rs.mk _ _ (Hp.mk _ _ (0 + mkN B))) = _
    unfold mkN
    rw [hBz]
    rfl
  have r2 : callR H1 wRep [⟨3, 0, ⟨#[97, 98]⟩⟩, ⟨2, 524289, eN⟩] = some (.no H1 ⟨#[108, 111, 110, 103]⟩) := by
    rw [call_rep (by decide)]
    unfold repR
    rw [show repL (⟨#[97, 98]⟩ : ByteArray).data.toList 524289 = none from by unfold repL; rw [if_pos ⟨by decide, by decide⟩, if_pos (by decide)]]
    rfl
  have r3 : callR H1 wRep [⟨3, 0, eN⟩, ⟨2, 9223372036854775807, eN⟩] = some ⟨⟨3, 0, eN⟩, eN, H3⟩ := by
    rw [call_rep (by decide), hH1, hH3]
    kernel_rfl
  have r6 := bcat1 B hBz
  have r7 := bcat2 B hBz
  rw [← hH6, ← hH7] at r6
  rw [← hH7] at r7
  have s1 := bset1 B (by omega)
  rw [← hH4, ← hH5] at s1
  have s2 := bset2 B
  rw [← hH5, ← hH6] at s2
  have tb : tabV H3 = ⟨4, 0, eN⟩ ∧ tabW H3 = eN ∧ tabH H3 = H4 := by rw [hH3, hH4]; exact ⟨by kernel_rfl, by kernel_rfl, by kernel_rfl⟩
  have sA : Sound ⟨3, 0, ⟨#[97, 98]⟩⟩ := sound_text _ (by decide)
  have sE : Sound ⟨3, 0, eN⟩ := sound_text _ (by decide)
  have sP : Sound ⟨3, 0, ⟨#[43]⟩⟩ := sound_text _ (by decide)
  have sT : Sound ⟨4, 0, eN⟩ := ⟨⟨by decide, by decide⟩, by decide⟩
  have l0 : (newH 1000000).tabs.length ≤ 1000000000 := by decide
  have l1 : H1.tabs.length ≤ 1000000000 := by rw [hH1]; exact Nat.zero_le _
  have l3 : H3.tabs.length ≤ 1000000000 := by rw [hH3]; exact Nat.zero_le _
  have l4 : H4.tabs.length ≤ 1000000000 := by rw [hH4]; show 1 ≤ 1000000000; decide
  have l5 : H5.tabs.length ≤ 1000000000 := by rw [hH5]; show 1 ≤ 1000000000; decide
  have l6 : H6.tabs.length ≤ 1000000000 := by rw [hH6]; show 1 ≤ 1000000000; decide
  have l7 : H7.tabs.length ≤ 1000000000 := by rw [hH7]; show 1 ≤ 1000000000; decide
  have K1 : Hid (∀ {W : World} {g k : Nat} {L : List (Nat × List Vl)}, NH w W g (newH 1000000) L → (k, [⟨3, 0, ⟨#[97, 98]⟩⟩, ⟨2, 524288, ⟨#[]⟩⟩]) ∈ L → ∀ cap : Nat, Calls Tryz.prog 15 #[.pointer (some ⟨g, 0, none⟩), .string wRep, .slice (some ⟨k, 0, none⟩) 2 cap] W fun e w' =>
      e = .returned (.tuple #[vv 3 0 B, .string eN, .bool true]) ∧ NH w w' g H1 L) := Lib.hid (fun h hm cap => nh_ok (f := 8) h hm HL.out (by first | exact l0 | exact l1 | exact l3 | exact l6 | exact l7) (by simp) wRep (by kernel_rfl) r1 (by exact all2 sA (sound_int _ ⟨by decide, by decide⟩)) cap)
  have K2 : Hid (∀ {W : World} {g k : Nat} {L : List (Nat × List Vl)}, NH w W g H1 L → (k, [⟨3, 0, ⟨#[97, 98]⟩⟩, ⟨2, 524289, ⟨#[]⟩⟩]) ∈ L → ∀ cap : Nat, Calls Tryz.prog 15 #[.pointer (some ⟨g, 0, none⟩), .string wRep, .slice (some ⟨k, 0, none⟩) 2 cap] W fun e w' =>
      e = .returned (.tuple #[vv 0 0 eN, .string ⟨#[108, 111, 110, 103]⟩, .bool true]) ∧ NH w w' g H1 L) := Lib.hid (fun h hm cap => nh_no (by decide) (f := 8) h hm HL.out (by first | exact l0 | exact l1 | exact l3 | exact l6 | exact l7) (by simp) wRep (by kernel_rfl) r2 (by exact all2 sA (sound_int _ ⟨by decide, by decide⟩)) cap)
  have K3 : Hid (∀ {W : World} {g k : Nat} {L : List (Nat × List Vl)}, NH w W g H1 L → (k, [⟨3, 0, ⟨#[]⟩⟩, ⟨2, 9223372036854775807, ⟨#[]⟩⟩]) ∈ L → ∀ cap : Nat, Calls Tryz.prog 15 #[.pointer (some ⟨g, 0, none⟩), .string wRep, .slice (some ⟨k, 0, none⟩) 2 cap] W fun e w' =>
      e = .returned (.tuple #[vv 3 0 eN, .string eN, .bool true]) ∧ NH w w' g H3 L) := Lib.hid (fun h hm cap => nh_ok (f := 8) h hm HL.out (by first | exact l0 | exact l1 | exact l3 | exact l6 | exact l7) (by simp) wRep (by kernel_rfl) r3 (by exact all2 sE (sound_int _ ⟨by decide, by decide⟩)) cap)
  have K6 : Hid (∀ {W : World} {g k : Nat} {L : List (Nat × List Vl)}, NH w W g H6 L → (k, [⟨4, 0, ⟨#[]⟩⟩, ⟨3, 0, ⟨#[]⟩⟩]) ∈ L → ∀ cap : Nat, Calls Tryz.prog 15 #[.pointer (some ⟨g, 0, none⟩), .string wConcat, .slice (some ⟨k, 0, none⟩) 2 cap] W fun e w' =>
      e = .returned (.tuple #[vv 3 0 B, .string eN, .bool true]) ∧ NH w w' g H7 L) := Lib.hid (fun h hm cap => nh_ok (f := 2) h hm HL.out (by first | exact l0 | exact l1 | exact l3 | exact l6 | exact l7) (by simp) wConcat (by kernel_rfl) r6 (by exact all2 sT sE) cap)
  have K7 : Hid (∀ {W : World} {g k : Nat} {L : List (Nat × List Vl)}, NH w W g H7 L → (k, [⟨4, 0, ⟨#[]⟩⟩, ⟨3, 0, ⟨#[43]⟩⟩]) ∈ L → ∀ cap : Nat, Calls Tryz.prog 15 #[.pointer (some ⟨g, 0, none⟩), .string wConcat, .slice (some ⟨k, 0, none⟩) 2 cap] W fun e w' =>
      e = .returned (.tuple #[vv 0 0 eN, .string ⟨#[108, 111, 110, 103]⟩, .bool true]) ∧ NH w w' g H7 L) := Lib.hid (fun h hm cap => nh_no (by decide) (f := 2) h hm HL.out (by first | exact l0 | exact l1 | exact l3 | exact l6 | exact l7) (by simp) wConcat (by kernel_rfl) r7 (by exact all2 sT sP) cap)
  have S1 : Hid (∀ {W : World} {g : Nat} {L : List (Nat × List Vl)}, NH w W g H4 L → Calls Tryz.prog 19 #[.pointer (some ⟨g, 0, none⟩), vv 4 0 ⟨#[]⟩, vv 2 1 ⟨#[]⟩, vv 3 0 B] W fun e w' => e = .returned (.string ⟨#[]⟩) ∧ NH w w' g H5 L) :=
    Lib.hid (fun h => (nh_set h (by omega) ⟨4, 0, ⟨#[]⟩⟩ ⟨2, 1, ⟨#[]⟩⟩ ⟨3, 0, B⟩ ⟨(by decide : (-9223372036854775808 : Int) ≤ 1), (by decide : (1 : Int) ≤ 9223372036854775807)⟩ ⟨(by decide : (-9223372036854775808 : Int) ≤ 0), (by decide : (0 : Int) ≤ 9223372036854775807)⟩).mono fun e w' hh => by rw [s1.1, s1.2] at hh; exact hh)
  have S2 : Hid (∀ {W : World} {g : Nat} {L : List (Nat × List Vl)}, NH w W g H5 L → Calls Tryz.prog 19 #[.pointer (some ⟨g, 0, none⟩), vv 4 0 ⟨#[]⟩, vv 2 2 ⟨#[]⟩, vv 3 0 ⟨#[]⟩] W fun e w' => e = .returned (.string ⟨#[]⟩) ∧ NH w w' g H6 L) :=
    Lib.hid (fun h => (nh_set h (by omega) ⟨4, 0, ⟨#[]⟩⟩ ⟨2, 2, ⟨#[]⟩⟩ ⟨3, 0, ⟨#[]⟩⟩ ⟨(by decide : (-9223372036854775808 : Int) ≤ 2), (by decide : (2 : Int) ≤ 9223372036854775807)⟩ ⟨(by decide : (-9223372036854775808 : Int) ≤ 0), (by decide : (0 : Int) ≤ 9223372036854775807)⟩).mono fun e w' hh => by rw [s2.1, s2.2] at hh; exact hh)
  have TB : Hid (∀ {W : World} {g : Nat} {L : List (Nat × List Vl)}, NH w W g H3 L → Calls Tryz.prog 18 #[.pointer (some ⟨g, 0, none⟩)] W fun e w' => e = .returned (.tuple #[vv 4 0 eN, .string eN]) ∧ NH w w' g H4 L) :=
    Lib.hid (fun h => (nh_table h (by omega)).mono fun e w' hh => by rw [tb.1, tb.2.1, tb.2.2] at hh; exact hh)
  have hgu := fun a b x y W => vl_guard .eql (.inl rfl) a b x y W
  have hv1 : ∀ W, (binOp .eql 26 (vv 3 0 B) (vv 3 0 B)).run Tryz.prog W = .ok (.bool true) W := fun W => by have := vl_eql ⟨3, 0, B⟩ ⟨3, 0, B⟩ W; simpa using this
  have hv2 : ∀ W, (binOp .eql 26 (vv 0 0 ⟨#[]⟩) (vv 0 0 ⟨#[]⟩)).run Tryz.prog W = .ok (.bool true) W := fun W => by have := vl_eql ⟨0, 0, ⟨#[]⟩⟩ ⟨0, 0, ⟨#[]⟩⟩ W; simpa using this
  have hv3 : ∀ W, (binOp .eql 26 (vv 3 0 ⟨#[]⟩) (vv 3 0 ⟨#[]⟩)).run Tryz.prog W = .ok (.bool true) W := fun W => by have := vl_eql ⟨3, 0, ⟨#[]⟩⟩ ⟨3, 0, ⟨#[]⟩⟩ W; simpa using this
  clear hL hB hH1 hH3 hH4 hH5 hH6 hH7 r1 r2 r3 r6 r7 s1 s2 tb sA sE sP sT l0 l1 l3 l4 l5 l6 l7
  go_enter Tryz.func3, Tryz.ntmps3
  go_wp2_with fail
  refine (nh_new 1000000 (Ext.refl w) (by decide) (by decide)).mono ?_
  rintro e w1 ⟨g, rfl, n1⟩
  have N : Hid (NH w w1 g (newH 1000000) []) := Lib.hid n1
  clear n1
  go_wp2_with fail
  refine (text_any _ _).mono ?_
  rintro e w2 ⟨rfl, e2⟩
  replace N := Lib.hid (N.out.ext' e2)
  clear e2
  go_wp2_with fail
  refine (int_any _ _).mono ?_
  rintro e w3 ⟨rfl, e3⟩
  replace N := Lib.hid (N.out.ext' e3)
  clear e3
  go_wp2_with fail
  refine (K1.out (N.out.new (l := [⟨3, 0, ⟨#[97, 98]⟩⟩, ⟨2, 524288, ⟨#[]⟩⟩]) _ rfl) (List.mem_cons_self ..) _).mono ?_
  rintro e w4 ⟨rfl, n4⟩
  replace N := Lib.hid (n4.sub (List.sublist_cons_self _ _))
  clear n4
  go_wp2_with fail
  replace N := Lib.hid (N.out.new (l := [⟨3, 0, B⟩]) #[.int .i64 3, .int .i64 0, .string B] rfl)
  obtain ⟨k2, hk2⟩ : ∃ k, w4.heap.size = k := ⟨_, rfl⟩
  rw [hk2] at N ⊢
  refine (text_any _ _).mono ?_
  rintro e w5 ⟨rfl, e5⟩
  replace N := Lib.hid (N.out.ext' e5)
  clear e5
  go_wp2_with fail
  refine (int_any _ _).mono ?_
  rintro e w6 ⟨rfl, e6⟩
  replace N := Lib.hid (N.out.ext' e6)
  clear e6
  go_wp2_with fail
  refine (K2.out (N.out.new (l := [⟨3, 0, ⟨#[97, 98]⟩⟩, ⟨2, 524289, ⟨#[]⟩⟩]) _ rfl) (List.mem_cons_self ..) _).mono ?_
  rintro e w7 ⟨rfl, n7⟩
  replace N := Lib.hid (n7.sub (List.sublist_cons_self _ _))
  clear n7
  go_wp2_with fail
  replace N := Lib.hid (N.out.new (l := [⟨0, 0, ⟨#[]⟩⟩]) #[.int .i64 0, .int .i64 0, .string ⟨#[]⟩] rfl)
  obtain ⟨k5, hk5⟩ : ∃ k, w7.heap.size = k := ⟨_, rfl⟩
  rw [hk5] at N ⊢
  refine (text_any _ _).mono ?_
  rintro e w8 ⟨rfl, e8⟩
  replace N := Lib.hid (N.out.ext' e8)
  clear e8
  go_wp2_with fail
  refine (int_any _ _).mono ?_
  rintro e w9 ⟨rfl, e9⟩
  replace N := Lib.hid (N.out.ext' e9)
  clear e9
  go_wp2_with fail
  refine (K3.out (N.out.new (l := [⟨3, 0, ⟨#[]⟩⟩, ⟨2, 9223372036854775807, ⟨#[]⟩⟩]) _ rfl) (List.mem_cons_self ..) _).mono ?_
  rintro e w10 ⟨rfl, n10⟩
  replace N := Lib.hid (n10.sub (List.sublist_cons_self _ _))
  clear n10
  go_wp2_with fail
  replace N := Lib.hid (N.out.new (l := [⟨3, 0, ⟨#[]⟩⟩]) #[.int .i64 3, .int .i64 0, .string ⟨#[]⟩] rfl)
  obtain ⟨k8, hk8⟩ : ∃ k, w10.heap.size = k := ⟨_, rfl⟩
  rw [hk8] at N ⊢
  refine (TB.out N.out).mono ?_
  rintro e w11 ⟨rfl, n11⟩
  replace N := Lib.hid n11
  clear n11
  go_wp2_with fail
  replace N := Lib.hid (N.out.new (l := [⟨4, 0, ⟨#[]⟩⟩]) #[.int .i64 4, .int .i64 0, .string ⟨#[]⟩] rfl)
  obtain ⟨k11, hk11⟩ : ∃ k, w11.heap.size = k := ⟨_, rfl⟩
  rw [hk11] at N ⊢
  generalize w11.alloc (.cells #[.int .i64 4, .int .i64 0, .string ⟨#[]⟩] 26) = wa at N ⊢
  go_upto_region 6 with (fail)
  go_cut [13] (fun s13 wx => s13 = .string ⟨#[]⟩ ∧ Hid (NH w wx g H5 [(k11, [⟨4, 0, ⟨#[]⟩⟩]), (k8, [⟨3, 0, ⟨#[]⟩⟩]), (k5, [⟨0, 0, ⟨#[]⟩⟩]), (k2, [⟨3, 0, B⟩])]))
  case first =>
    obtain ⟨ck110, ck111, ck112, _⟩ := N.out.three (k := k11) (x := ⟨4, 0, ⟨#[]⟩⟩) (by simp)
    have hbk11 : k11 < wa.heap.size := N.out.lt (p := (k11, [⟨4, 0, ⟨#[]⟩⟩])) (by simp)
    obtain ⟨ck20, ck21, ck22, _⟩ := N.out.three (k := k2) (x := ⟨3, 0, B⟩) (by simp)
    have hbk2 : k2 < wa.heap.size := N.out.lt (p := (k2, [⟨3, 0, B⟩])) (by simp)
    have HE := Lib.hid (Ext.refl wa)
    go_region_held3 (fun w' => w'.cell? ⟨k11, 0, none⟩ = some (.int .i64 4) ∧ w'.cell? ⟨k11, 1, none⟩ = some (.int .i64 0) ∧ w'.cell? ⟨k11, 2, none⟩ = some (.string ⟨#[]⟩) ∧ w'.cell? ⟨k2, 0, none⟩ = some (.int .i64 3) ∧ w'.cell? ⟨k2, 1, none⟩ = some (.int .i64 0) ∧ w'.cell? ⟨k2, 2, none⟩ = some (.string B)) (go_keep)
      (first
        | (go_at_call 17; refine (int_any _ _).mono ?_; rintro e wq ⟨rfl, eq⟩; have HE := Lib.hid (show Ext wa wq from by first | exact HE.out.trans eq | exact HE.out.drew.trans eq); have xk110 := (HE.out.cells.1 _ _ hbk11).trans ck110; have xk111 := (HE.out.cells.1 _ _ hbk11).trans ck111; have xk112 := (HE.out.cells.1 _ _ hbk11).trans ck112; have xk20 := (HE.out.cells.1 _ _ hbk2).trans ck20; have xk21 := (HE.out.cells.1 _ _ hbk2).trans ck21; have xk22 := (HE.out.cells.1 _ _ hbk2).trans ck22; clear eq)
        | (go_at_call 19; refine (S1.out (N.out.ext' HE.out)).mono ?_; rintro e wq ⟨rfl, nq⟩; have MM := Lib.hid nq; obtain ⟨dk110, dk111, dk112, _⟩ := nq.three (k := k11) (x := ⟨4, 0, ⟨#[]⟩⟩) (by simp); obtain ⟨dk20, dk21, dk22, _⟩ := nq.three (k := k2) (x := ⟨3, 0, B⟩) (by simp); clear nq))
    all_goals go_wp2_with fail
    all_goals (
      go_meet
      exact ⟨rfl, MM⟩)
  case rest =>
  obtain ⟨rfl, HN⟩ := hcut
  obtain ⟨wy6, rfl⟩ : ∃ wy : World, wy = wc := ⟨_, rfl⟩
  replace N := HN
  clear HN
  go_wp2_with fail
  go_upto_region 7 with (fail)
  go_cut [14] (fun s14 wx => s14 = .string ⟨#[]⟩ ∧ Hid (NH w wx g H6 [(k11, [⟨4, 0, ⟨#[]⟩⟩]), (k8, [⟨3, 0, ⟨#[]⟩⟩]), (k5, [⟨0, 0, ⟨#[]⟩⟩]), (k2, [⟨3, 0, B⟩])]))
  case first =>
    obtain ⟨ck110, ck111, ck112, _⟩ := N.out.three (k := k11) (x := ⟨4, 0, ⟨#[]⟩⟩) (by simp)
    have hbk11 : k11 < wy6.heap.size := N.out.lt (p := (k11, [⟨4, 0, ⟨#[]⟩⟩])) (by simp)
    have HE := Lib.hid (Ext.refl wy6)
    go_region_held3 (fun w' => w'.cell? ⟨k11, 0, none⟩ = some (.int .i64 4) ∧ w'.cell? ⟨k11, 1, none⟩ = some (.int .i64 0) ∧ w'.cell? ⟨k11, 2, none⟩ = some (.string ⟨#[]⟩)) (go_keep)
      (first
        | (go_at_call 17; refine (int_any _ _).mono ?_; rintro e wq ⟨rfl, eq⟩; have HE := Lib.hid (show Ext wy6 wq from by first | exact HE.out.trans eq | exact HE.out.drew.trans eq); have xk110 := (HE.out.cells.1 _ _ hbk11).trans ck110; have xk111 := (HE.out.cells.1 _ _ hbk11).trans ck111; have xk112 := (HE.out.cells.1 _ _ hbk11).trans ck112; clear eq)
        | (go_at_call 16; refine (text_any _ _).mono ?_; rintro e wq ⟨rfl, eq⟩; have HE := Lib.hid (show Ext wy6 wq from by first | exact HE.out.trans eq | exact HE.out.drew.trans eq); have xk110 := (HE.out.cells.1 _ _ hbk11).trans ck110; have xk111 := (HE.out.cells.1 _ _ hbk11).trans ck111; have xk112 := (HE.out.cells.1 _ _ hbk11).trans ck112; clear eq)
        | (go_at_call 19; refine (S2.out (N.out.ext' HE.out)).mono ?_; rintro e wq ⟨rfl, nq⟩; have MM := Lib.hid nq; obtain ⟨dk110, dk111, dk112, _⟩ := nq.three (k := k11) (x := ⟨4, 0, ⟨#[]⟩⟩) (by simp); clear nq))
    all_goals go_wp2_with fail
    all_goals (
      go_meet
      exact ⟨rfl, MM⟩)
  case rest =>
  obtain ⟨rfl, HN⟩ := hcut
  obtain ⟨wy7, rfl⟩ : ∃ wy : World, wy = wc := ⟨_, rfl⟩
  replace N := HN
  clear HN
  go_wp2_with fail
  go_upto_region 8 with (fail)
  go_cut [15, 16] (fun s15 s16 wx => ∃ k15, s15 = .pointer (some ⟨k15, 0, none⟩) ∧ s16 = .string eN ∧ Hid (NH w wx g H7 ((k15, [⟨3, 0, B⟩]) :: [(k11, [⟨4, 0, ⟨#[]⟩⟩]), (k8, [⟨3, 0, ⟨#[]⟩⟩]), (k5, [⟨0, 0, ⟨#[]⟩⟩]), (k2, [⟨3, 0, B⟩])])))
  case first =>
    obtain ⟨ck110, ck111, ck112, _⟩ := N.out.three (k := k11) (x := ⟨4, 0, ⟨#[]⟩⟩) (by simp)
    have hbk11 : k11 < wy7.heap.size := N.out.lt (p := (k11, [⟨4, 0, ⟨#[]⟩⟩])) (by simp)
    have hnek11 : ¬ wy7.heap.size = k11 := by omega
    have hnfk11 : ¬ k11 = wy7.heap.size := by omega
    go_region_held3 (fun w' => w'.cell? ⟨k11, 0, none⟩ = some (.int .i64 4) ∧ w'.cell? ⟨k11, 1, none⟩ = some (.int .i64 0) ∧ w'.cell? ⟨k11, 2, none⟩ = some (.string ⟨#[]⟩)) (go_keep)
      (first
        | (go_at_call 16; refine (text_any _ _).mono ?_; rintro e w23 ⟨rfl, eq⟩; (try (have hq : Ext (World.drew wy7) w23 := (by with_reducible exact eq); have Aw23 := Lib.hid (N.out.ext' ((Ext.refl wy7).drew.trans hq)); have EEw23 := Lib.hid ((Ext.refl wy7).drew.trans hq); clear hq)); (try (have hq : Ext (World.alloc (World.drew wy7) (.cells #[.int .i64 0, .int .i64 0, .string ⟨#[]⟩] 26)) w23 := (by with_reducible exact eq); have Bw23 := Lib.hid (((N.out.ext' (Ext.refl wy7).drew).new (l := [Vl.zero]) #[.int .i64 0, .int .i64 0, .string ⟨#[]⟩] rfl).ext' hq); have EEw23 := Lib.hid (((Ext.refl wy7).drew.alloc (.cells #[.int .i64 0, .int .i64 0, .string ⟨#[]⟩] 26)).trans hq); clear hq)); (try (have hq : Ext (World.drew (World.alloc wy7 (.cells #[.int .i64 0, .int .i64 0, .string ⟨#[]⟩] 26))) w23 := (by with_reducible exact eq); have Bw23 := Lib.hid ((((N.out.new (l := [Vl.zero]) #[.int .i64 0, .int .i64 0, .string ⟨#[]⟩] rfl).ext' (Ext.refl _).drew)).ext' hq); have EEw23 := Lib.hid (((Ext.refl wy7).alloc (.cells #[.int .i64 0, .int .i64 0, .string ⟨#[]⟩] 26)).drew.trans hq); clear hq)); have xk110 := (EEw23.out.cells.1 _ _ hbk11).trans ck110; have xk111 := (EEw23.out.cells.1 _ _ hbk11).trans ck111; have xk112 := (EEw23.out.cells.1 _ _ hbk11).trans ck112; have Lw23k11 : k11 < w23.heap.size := Nat.lt_of_lt_of_le hbk11 EEw23.out.le; have nnw23k11 : ¬ w23.heap.size = k11 := Nat.ne_of_gt Lw23k11; have nmw23k11 : ¬ k11 = w23.heap.size := Nat.ne_of_lt Lw23k11; have nkw23k11 : ¬ w23.heap.size + 1 = k11 := (by omega); have nlw23k11 : ¬ k11 = w23.heap.size + 1 := (by omega); clear eq)
        | (go_at_call 15; first
            | (have hz : Hid (NH w w23 g H6 ((wy7.heap.size, [Vl.zero]) :: [(k11, [⟨4, 0, ⟨#[]⟩⟩]), (k8, [⟨3, 0, ⟨#[]⟩⟩]), (k5, [⟨0, 0, ⟨#[]⟩⟩]), (k2, [⟨3, 0, B⟩])])) := (by with_reducible assumption); have CC := K6.out (hz.out.new (l := [⟨4, 0, ⟨#[]⟩⟩, ⟨3, 0, ⟨#[]⟩⟩]) #[.int .i64 4, .int .i64 0, .string ⟨#[]⟩, .int .i64 3, .int .i64 0, .string ⟨#[]⟩] rfl) (List.mem_cons_self ..) 2; (try simp only [size_alloc] at CC); (with_reducible refine Calls.mono CC ?_); clear CC; rintro e w9 ⟨rfl, n9⟩; obtain ⟨yyk110, yyk111, yyk112, _⟩ := n9.three (k := k11) (x := ⟨4, 0, ⟨#[]⟩⟩) (by simp); have L9k11 : k11 < w9.heap.size := n9.lt (p := (k11, [⟨4, 0, ⟨#[]⟩⟩])) (by simp); have nn9k11 : ¬ w9.heap.size = k11 := Nat.ne_of_gt L9k11; have nm9k11 : ¬ k11 = w9.heap.size := Nat.ne_of_lt L9k11; have F9 := Lib.hid (n9.sub (List.sublist_cons_self _ _)); obtain ⟨zl, zv0, zv1, zv2, zf0, zf1, zf2⟩ := ZV.facts (show ZV w9 _ from (F9.out.own _ (List.mem_cons_self ..)).2); clear n9)
            | (have hz : Hid (NH w w23 g H6 [(k11, [⟨4, 0, ⟨#[]⟩⟩]), (k8, [⟨3, 0, ⟨#[]⟩⟩]), (k5, [⟨0, 0, ⟨#[]⟩⟩]), (k2, [⟨3, 0, B⟩])]) := (by with_reducible assumption); have CC := K6.out (hz.out.new (l := [⟨4, 0, ⟨#[]⟩⟩, ⟨3, 0, ⟨#[]⟩⟩]) #[.int .i64 4, .int .i64 0, .string ⟨#[]⟩, .int .i64 3, .int .i64 0, .string ⟨#[]⟩] rfl) (List.mem_cons_self ..) 2; (try simp only [size_alloc] at CC); (with_reducible refine Calls.mono CC ?_); clear CC; rintro e w9 ⟨rfl, n9⟩; obtain ⟨yyk110, yyk111, yyk112, _⟩ := n9.three (k := k11) (x := ⟨4, 0, ⟨#[]⟩⟩) (by simp); have L9k11 : k11 < w9.heap.size := n9.lt (p := (k11, [⟨4, 0, ⟨#[]⟩⟩])) (by simp); have nn9k11 : ¬ w9.heap.size = k11 := Nat.ne_of_gt L9k11; have nm9k11 : ¬ k11 = w9.heap.size := Nat.ne_of_lt L9k11; have G9 := Lib.hid (n9.sub (List.sublist_cons_self _ _)); clear n9)
            | (have hz : Hid (NH w w23 g H6 [(k11, [⟨4, 0, ⟨#[]⟩⟩]), (k8, [⟨3, 0, ⟨#[]⟩⟩]), (k5, [⟨0, 0, ⟨#[]⟩⟩]), (k2, [⟨3, 0, B⟩])]) := (by with_reducible assumption); have CC := K6.out ((hz.out.new (l := [Vl.zero]) #[.int .i64 0, .int .i64 0, .string ⟨#[]⟩] rfl).new (l := [⟨4, 0, ⟨#[]⟩⟩, ⟨3, 0, ⟨#[]⟩⟩]) #[.int .i64 4, .int .i64 0, .string ⟨#[]⟩, .int .i64 3, .int .i64 0, .string ⟨#[]⟩] rfl) (List.mem_cons_self ..) 2; (try simp only [size_alloc] at CC); (with_reducible refine Calls.mono CC ?_); clear CC; rintro e w9 ⟨rfl, n9⟩; obtain ⟨yyk110, yyk111, yyk112, _⟩ := n9.three (k := k11) (x := ⟨4, 0, ⟨#[]⟩⟩) (by simp); have L9k11 : k11 < w9.heap.size := n9.lt (p := (k11, [⟨4, 0, ⟨#[]⟩⟩])) (by simp); have nn9k11 : ¬ w9.heap.size = k11 := Nat.ne_of_gt L9k11; have nm9k11 : ¬ k11 = w9.heap.size := Nat.ne_of_lt L9k11; have F9 := Lib.hid (n9.sub (List.sublist_cons_self _ _)); obtain ⟨zl, zv0, zv1, zv2, zf0, zf1, zf2⟩ := ZV.facts (show ZV w9 _ from (F9.out.own _ (List.mem_cons_self ..)).2); clear n9)
            | (have hz : Hid (NH w w23 g H6 [(k11, [⟨4, 0, ⟨#[]⟩⟩]), (k8, [⟨3, 0, ⟨#[]⟩⟩]), (k5, [⟨0, 0, ⟨#[]⟩⟩]), (k2, [⟨3, 0, B⟩])]) := (by with_reducible assumption); have CC := K6.out ((hz.out.new (l := [⟨4, 0, ⟨#[]⟩⟩, ⟨3, 0, ⟨#[]⟩⟩]) #[.int .i64 4, .int .i64 0, .string ⟨#[]⟩, .int .i64 3, .int .i64 0, .string ⟨#[]⟩] rfl).new (l := [Vl.zero]) #[.int .i64 0, .int .i64 0, .string ⟨#[]⟩] rfl) (List.mem_cons_of_mem _ (List.mem_cons_self ..)) 2; (try simp only [size_alloc] at CC); (with_reducible refine Calls.mono CC ?_); clear CC; rintro e w9 ⟨rfl, n9⟩; obtain ⟨yyk110, yyk111, yyk112, _⟩ := n9.three (k := k11) (x := ⟨4, 0, ⟨#[]⟩⟩) (by simp); have L9k11 : k11 < w9.heap.size := n9.lt (p := (k11, [⟨4, 0, ⟨#[]⟩⟩])) (by simp); have nn9k11 : ¬ w9.heap.size = k11 := Nat.ne_of_gt L9k11; have nm9k11 : ¬ k11 = w9.heap.size := Nat.ne_of_lt L9k11; have F9 := Lib.hid (n9.sub (List.Sublist.cons_cons _ (List.sublist_cons_self _ _))); obtain ⟨zl, zv0, zv1, zv2, zf0, zf1, zf2⟩ := ZV.facts (show ZV w9 _ from (F9.out.own _ (List.mem_cons_self ..)).2); clear n9)))
    all_goals go_wp2_with fail
    all_goals (
      go_meet
      first
        | exact ⟨_, rfl, rfl, Lib.hid (G9.out.new (l := [⟨3, 0, B⟩]) _ rfl)⟩
        | exact ⟨_, rfl, rfl, Lib.hid (F9.out.put (y := ⟨3, 0, B⟩))⟩)
  case rest =>
  obtain ⟨k15, rfl, rfl, HM⟩ := hcut
  obtain ⟨wz, rfl⟩ : ∃ wz : World, wz = wc := ⟨_, rfl⟩
  replace N := HM
  clear HM
  go_wp2_with fail
  go_upto_region 9 with (fail)
  go_cut [18, 19] (fun s18 s19 wx => ∃ k18, s18 = .pointer (some ⟨k18, 0, none⟩) ∧ s19 = .string ⟨#[108, 111, 110, 103]⟩ ∧ Hid (NH w wx g H7 ((k18, [⟨0, 0, ⟨#[]⟩⟩]) :: ((k15, [⟨3, 0, B⟩]) :: [(k11, [⟨4, 0, ⟨#[]⟩⟩]), (k8, [⟨3, 0, ⟨#[]⟩⟩]), (k5, [⟨0, 0, ⟨#[]⟩⟩]), (k2, [⟨3, 0, B⟩])]))))
  case first =>
    obtain ⟨ck110, ck111, ck112, _⟩ := N.out.three (k := k11) (x := ⟨4, 0, ⟨#[]⟩⟩) (by simp)
    have hbk11 : k11 < wz.heap.size := N.out.lt (p := (k11, [⟨4, 0, ⟨#[]⟩⟩])) (by simp)
    have hnek11 : ¬ wz.heap.size = k11 := by omega
    have hnfk11 : ¬ k11 = wz.heap.size := by omega
    go_region_held3 (fun w' => w'.cell? ⟨k11, 0, none⟩ = some (.int .i64 4) ∧ w'.cell? ⟨k11, 1, none⟩ = some (.int .i64 0) ∧ w'.cell? ⟨k11, 2, none⟩ = some (.string ⟨#[]⟩)) (go_keep)
      (first
        | (go_at_call 16; refine (text_any _ _).mono ?_; rintro e w24 ⟨rfl, eq⟩; (try (have hq : Ext (World.drew wz) w24 := (by with_reducible exact eq); have Aw24 := Lib.hid (N.out.ext' ((Ext.refl wz).drew.trans hq)); have EEw24 := Lib.hid ((Ext.refl wz).drew.trans hq); clear hq)); (try (have hq : Ext (World.alloc (World.drew wz) (.cells #[.int .i64 0, .int .i64 0, .string ⟨#[]⟩] 26)) w24 := (by with_reducible exact eq); have Bw24 := Lib.hid (((N.out.ext' (Ext.refl wz).drew).new (l := [Vl.zero]) #[.int .i64 0, .int .i64 0, .string ⟨#[]⟩] rfl).ext' hq); have EEw24 := Lib.hid (((Ext.refl wz).drew.alloc (.cells #[.int .i64 0, .int .i64 0, .string ⟨#[]⟩] 26)).trans hq); clear hq)); (try (have hq : Ext (World.drew (World.alloc wz (.cells #[.int .i64 0, .int .i64 0, .string ⟨#[]⟩] 26))) w24 := (by with_reducible exact eq); have Bw24 := Lib.hid ((((N.out.new (l := [Vl.zero]) #[.int .i64 0, .int .i64 0, .string ⟨#[]⟩] rfl).ext' (Ext.refl _).drew)).ext' hq); have EEw24 := Lib.hid (((Ext.refl wz).alloc (.cells #[.int .i64 0, .int .i64 0, .string ⟨#[]⟩] 26)).drew.trans hq); clear hq)); have xk110 := (EEw24.out.cells.1 _ _ hbk11).trans ck110; have xk111 := (EEw24.out.cells.1 _ _ hbk11).trans ck111; have xk112 := (EEw24.out.cells.1 _ _ hbk11).trans ck112; have Lw24k11 : k11 < w24.heap.size := Nat.lt_of_lt_of_le hbk11 EEw24.out.le; have nnw24k11 : ¬ w24.heap.size = k11 := Nat.ne_of_gt Lw24k11; have nmw24k11 : ¬ k11 = w24.heap.size := Nat.ne_of_lt Lw24k11; have nkw24k11 : ¬ w24.heap.size + 1 = k11 := (by omega); have nlw24k11 : ¬ k11 = w24.heap.size + 1 := (by omega); clear eq)
        | (go_at_call 15; first
            | (have hz : Hid (NH w w24 g H7 ((wz.heap.size, [Vl.zero]) :: ((k15, [⟨3, 0, B⟩]) :: [(k11, [⟨4, 0, ⟨#[]⟩⟩]), (k8, [⟨3, 0, ⟨#[]⟩⟩]), (k5, [⟨0, 0, ⟨#[]⟩⟩]), (k2, [⟨3, 0, B⟩])]))) := (by with_reducible assumption); have CC := K7.out (hz.out.new (l := [⟨4, 0, ⟨#[]⟩⟩, ⟨3, 0, ⟨#[43]⟩⟩]) #[.int .i64 4, .int .i64 0, .string ⟨#[]⟩, .int .i64 3, .int .i64 0, .string ⟨#[43]⟩] rfl) (List.mem_cons_self ..) 2; (try simp only [size_alloc] at CC); (with_reducible refine Calls.mono CC ?_); clear CC; rintro e w9 ⟨rfl, n9⟩; obtain ⟨yyk110, yyk111, yyk112, _⟩ := n9.three (k := k11) (x := ⟨4, 0, ⟨#[]⟩⟩) (by simp); have L9k11 : k11 < w9.heap.size := n9.lt (p := (k11, [⟨4, 0, ⟨#[]⟩⟩])) (by simp); have nn9k11 : ¬ w9.heap.size = k11 := Nat.ne_of_gt L9k11; have nm9k11 : ¬ k11 = w9.heap.size := Nat.ne_of_lt L9k11; have F9 := Lib.hid (n9.sub (List.sublist_cons_self _ _)); obtain ⟨zl, zv0, zv1, zv2, zf0, zf1, zf2⟩ := ZV.facts (show ZV w9 _ from (F9.out.own _ (List.mem_cons_self ..)).2); clear n9)
            | (have hz : Hid (NH w w24 g H7 ((k15, [⟨3, 0, B⟩]) :: [(k11, [⟨4, 0, ⟨#[]⟩⟩]), (k8, [⟨3, 0, ⟨#[]⟩⟩]), (k5, [⟨0, 0, ⟨#[]⟩⟩]), (k2, [⟨3, 0, B⟩])])) := (by with_reducible assumption); have CC := K7.out (hz.out.new (l := [⟨4, 0, ⟨#[]⟩⟩, ⟨3, 0, ⟨#[43]⟩⟩]) #[.int .i64 4, .int .i64 0, .string ⟨#[]⟩, .int .i64 3, .int .i64 0, .string ⟨#[43]⟩] rfl) (List.mem_cons_self ..) 2; (try simp only [size_alloc] at CC); (with_reducible refine Calls.mono CC ?_); clear CC; rintro e w9 ⟨rfl, n9⟩; obtain ⟨yyk110, yyk111, yyk112, _⟩ := n9.three (k := k11) (x := ⟨4, 0, ⟨#[]⟩⟩) (by simp); have L9k11 : k11 < w9.heap.size := n9.lt (p := (k11, [⟨4, 0, ⟨#[]⟩⟩])) (by simp); have nn9k11 : ¬ w9.heap.size = k11 := Nat.ne_of_gt L9k11; have nm9k11 : ¬ k11 = w9.heap.size := Nat.ne_of_lt L9k11; have G9 := Lib.hid (n9.sub (List.sublist_cons_self _ _)); clear n9)
            | (have hz : Hid (NH w w24 g H7 ((k15, [⟨3, 0, B⟩]) :: [(k11, [⟨4, 0, ⟨#[]⟩⟩]), (k8, [⟨3, 0, ⟨#[]⟩⟩]), (k5, [⟨0, 0, ⟨#[]⟩⟩]), (k2, [⟨3, 0, B⟩])])) := (by with_reducible assumption); have CC := K7.out ((hz.out.new (l := [Vl.zero]) #[.int .i64 0, .int .i64 0, .string ⟨#[]⟩] rfl).new (l := [⟨4, 0, ⟨#[]⟩⟩, ⟨3, 0, ⟨#[43]⟩⟩]) #[.int .i64 4, .int .i64 0, .string ⟨#[]⟩, .int .i64 3, .int .i64 0, .string ⟨#[43]⟩] rfl) (List.mem_cons_self ..) 2; (try simp only [size_alloc] at CC); (with_reducible refine Calls.mono CC ?_); clear CC; rintro e w9 ⟨rfl, n9⟩; obtain ⟨yyk110, yyk111, yyk112, _⟩ := n9.three (k := k11) (x := ⟨4, 0, ⟨#[]⟩⟩) (by simp); have L9k11 : k11 < w9.heap.size := n9.lt (p := (k11, [⟨4, 0, ⟨#[]⟩⟩])) (by simp); have nn9k11 : ¬ w9.heap.size = k11 := Nat.ne_of_gt L9k11; have nm9k11 : ¬ k11 = w9.heap.size := Nat.ne_of_lt L9k11; have F9 := Lib.hid (n9.sub (List.sublist_cons_self _ _)); obtain ⟨zl, zv0, zv1, zv2, zf0, zf1, zf2⟩ := ZV.facts (show ZV w9 _ from (F9.out.own _ (List.mem_cons_self ..)).2); clear n9)
            | (have hz : Hid (NH w w24 g H7 ((k15, [⟨3, 0, B⟩]) :: [(k11, [⟨4, 0, ⟨#[]⟩⟩]), (k8, [⟨3, 0, ⟨#[]⟩⟩]), (k5, [⟨0, 0, ⟨#[]⟩⟩]), (k2, [⟨3, 0, B⟩])])) := (by with_reducible assumption); have CC := K7.out ((hz.out.new (l := [⟨4, 0, ⟨#[]⟩⟩, ⟨3, 0, ⟨#[43]⟩⟩]) #[.int .i64 4, .int .i64 0, .string ⟨#[]⟩, .int .i64 3, .int .i64 0, .string ⟨#[43]⟩] rfl).new (l := [Vl.zero]) #[.int .i64 0, .int .i64 0, .string ⟨#[]⟩] rfl) (List.mem_cons_of_mem _ (List.mem_cons_self ..)) 2; (try simp only [size_alloc] at CC); (with_reducible refine Calls.mono CC ?_); clear CC; rintro e w9 ⟨rfl, n9⟩; obtain ⟨yyk110, yyk111, yyk112, _⟩ := n9.three (k := k11) (x := ⟨4, 0, ⟨#[]⟩⟩) (by simp); have L9k11 : k11 < w9.heap.size := n9.lt (p := (k11, [⟨4, 0, ⟨#[]⟩⟩])) (by simp); have nn9k11 : ¬ w9.heap.size = k11 := Nat.ne_of_gt L9k11; have nm9k11 : ¬ k11 = w9.heap.size := Nat.ne_of_lt L9k11; have F9 := Lib.hid (n9.sub (List.Sublist.cons_cons _ (List.sublist_cons_self _ _))); obtain ⟨zl, zv0, zv1, zv2, zf0, zf1, zf2⟩ := ZV.facts (show ZV w9 _ from (F9.out.own _ (List.mem_cons_self ..)).2); clear n9)))
    all_goals go_wp2_with fail
    all_goals (
      go_meet
      first
        | exact ⟨_, rfl, rfl, Lib.hid (G9.out.new (l := [⟨0, 0, ⟨#[]⟩⟩]) _ rfl)⟩
        | exact ⟨_, rfl, rfl, Lib.hid (F9.out.put (y := ⟨0, 0, ⟨#[]⟩⟩))⟩)
  case rest =>
  obtain ⟨k18, rfl, rfl, HM⟩ := hcut
  obtain ⟨wv, rfl⟩ : ∃ wv : World, wv = wc := ⟨_, rfl⟩
  replace N := HM
  clear HM
  obtain ⟨dk20, dk21, dk22, _⟩ := N.out.three (k := k2) (x := ⟨3, 0, B⟩) (by simp)
  obtain ⟨dk50, dk51, dk52, _⟩ := N.out.three (k := k5) (x := ⟨0, 0, ⟨#[]⟩⟩) (by simp)
  obtain ⟨dk80, dk81, dk82, _⟩ := N.out.three (k := k8) (x := ⟨3, 0, ⟨#[]⟩⟩) (by simp)
  obtain ⟨dk150, dk151, dk152, _⟩ := N.out.three (k := k15) (x := ⟨3, 0, B⟩) (by simp)
  obtain ⟨dk180, dk181, dk182, _⟩ := N.out.three (k := k18) (x := ⟨0, 0, ⟨#[]⟩⟩) (by simp)
  go_wp2_with fail
  refine wp_region_ext (by kernel_rfl) (by kernel_rfl) ?_
  repeat (
    first
      | go_big_quiet_skip
      | (go_big_quiet_want
         go_big_quiet_op
         first
           | go_big_quiet_on
           | (apply Exists.intro
              refine ⟨fun wq hq => ?_, ?_⟩
              focus (
                have dk20 := cell_of_ext dk20 hq
                have dk21 := cell_of_ext dk21 hq
                have dk22 := cell_of_ext dk22 hq
                have dk50 := cell_of_ext dk50 hq
                have dk51 := cell_of_ext dk51 hq
                have dk52 := cell_of_ext dk52 hq
                have dk80 := cell_of_ext dk80 hq
                have dk81 := cell_of_ext dk81 hq
                have dk82 := cell_of_ext dk82 hq
                have dk150 := cell_of_ext dk150 hq
                have dk151 := cell_of_ext dk151 hq
                have dk152 := cell_of_ext dk152 hq
                have dk180 := cell_of_ext dk180 hq
                have dk181 := cell_of_ext dk181 hq
                have dk182 := cell_of_ext dk182 hq
                first
                  | (go_at_call 16; exact Calls.ext_of hq (text_any _ _); done)
                  | (go_at_call 20; exact Calls.ext_of hq (works_any _ (HL.out.ext (N.out.ext.trans hq))); done)
                  | (go_simp; exact rfl))
              go_big_quiet_on)))
  refine wpQuiet_nil ?_
  intro we hwe
  clear dk20 dk21 dk22 dk50 dk51 dk52 dk80 dk81 dk82 dk150 dk151 dk152 dk180 dk181 dk182
  go_wp2_with fail
  go_ret
  exact ⟨rfl, N.out.ext.trans hwe⟩
end Go.Proofs.YtfagldjhibdfhaaGreatDoor
