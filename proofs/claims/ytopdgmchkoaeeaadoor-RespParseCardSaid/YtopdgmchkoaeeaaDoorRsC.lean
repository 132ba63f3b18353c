/- Bytes that must be these. -/
import Derived.Test.YtopdgmchkoaeeaaDoorRsB
import Derived.Test.YtopdgmchkoaeeaaDoorRspP
namespace Go.Proofs.YtopdgmchkoaeeaaDoor
open Go.RowKit
set_option linter.unusedVariables false
set_option linter.unusedSimpArgs false

theorem bytes_ext (w : World) (e : TypeId) (s : ByteArray) : Ext w (Lib.bytesWorld w e s) :=
  ⟨rfl, rfl, rfl, by rw [Lib.bytesWorld_size]; omega, fun k hk => Lib.bytesWorld_at_old w e s k hk⟩

/-- What skip leaves. -/
def SkipE (w : World) (g : Nat) (q : Option Addr) (cap : Nat) (l : List UInt8) (t i : Int) (r : Except Int Nat) (e : Ending) (w' : World) : Prop :=
  match r with
  | .ok p => e = .returned (.tuple #[]) ∧ InAt w' g q cap l p t i ∧ Only g w w'
  | .error c => Gave c e ∧ Only g w w'
theorem SkipE.ok {w : World} {g : Nat} {q : Option Addr} {cap : Nat} {l : List UInt8} {t i : Int} {r : Except Int Nat} {e : Ending} {w' : World} {p : Nat} (hr : r = .ok p) (h : e = .returned (.tuple #[]) ∧ InAt w' g q cap l p t i ∧ Only g w w') : SkipE w g q cap l t i r e w' := by
  subst hr; exact h
theorem SkipE.err {w : World} {g : Nat} {q : Option Addr} {cap : Nat} {l : List UInt8} {t i : Int} {r : Except Int Nat} {e : Ending} {w' : World} {c : Int} (hr : r = .error c) (h : Gave c e ∧ Only g w w') : SkipE w g q cap l t i r e w' := by
  subst hr; exact h

set_option maxRecDepth 100000 in
set_option maxHeartbeats 1000000 in
theorem skip_any (s : ByteArray) (w : World) (g : Nat) (q : Option Addr) (cap : Nat) (l : List UInt8) (p : Nat) (t i : Int) (h : InAt w g q cap l p t i) (hs : s.size ≤ 9223372036854775807) :
    Calls Tryd.prog 43 #[.pointer (some ⟨g, 0, none⟩), .string s] w (SkipE w g q cap l t i (skipS l s.data.toList p)) := by
  have kc := fun (W : World) => Lib.run_convert_string_bytes (P := Tryd.prog) W 9 25 5 s Tryd.underlying9 Tryd.underlying25 Tryd.underlying5
  obtain ⟨r, hr⟩ : ∃ r, skipS l s.data.toList p = r := ⟨_, rfl⟩
  rw [hr]
  have HR := Lib.hid hr
  have H := Lib.hid h
  have E0 := Lib.hid (bytes_ext w 5 s)
  have C0 := Lib.hid (Lib.bytesWorld_cell w 5 s)
  have Z0 := Lib.hid (Lib.bytesWorld_size w 5 s)
  have hsz : s.data.toList.length = s.size := rfl
  have hg := H.out.lt
  clear hr h
  go_enter Tryd.func43, Tryd.ntmps43
  go_wp2_with fail
  generalize Lib.bytesWorld w 5 s = w1 at E0 C0 Z0 ⊢
  go_loopw [9] (fun k wr => ∃ n : Nat, n ≤ s.size ∧ k = .int .i64 n ∧ Hid (InAt wr g q cap l ((p + n : Nat) : Int) t i) ∧ Hid (Only g w1 wr) ∧ Hid (skipS l (s.data.toList.drop n) (p + n) = r)) (fun k _ => s.size - (intOf k).toNat)
  case atStart => exact ⟨0, Nat.zero_le _, rfl, Lib.hid (by simpa using H.out.ext E0.out), Lib.hid (Only.refl _ _), Lib.hid (by simpa using HR.out)⟩
  case round =>
    obtain ⟨n, hn, rfl, HI, HO, HS⟩ := hrel
    clear HR kc
    by_cases hlt : n < s.size
    · have hnl : n < s.data.toList.length := hlt
      have cb : wr.cell? ⟨w.heap.size, n, none⟩ = some (.int .u8 (s.data.toList[n].toNat : Int)) := by
        have := HO.out.cell (b := w.heap.size) (by omega) (C0.out n hlt)
        rw [this]
        simp [List.getD, List.getElem?_eq_getElem hnl]
      have S := HS.out
      rw [List.drop_eq_getElem_cons hnl] at S
      have HC := Lib.hid S
      clear S HS
      generalize s.data.toList[n] = c at cb HC
      by_cases hp : p + n < l.length
      · have S := HC.out
        simp only [skipS, dif_pos hp] at S
        have HD := Lib.hid S
        clear S HC
        by_cases hc : l[p + n] = c
        · have S := HD.out
          rw [if_pos hc] at S
          have HE := Lib.hid S
          have e1 : ((l[p + n].toNat : Int) == (c.toNat : Int)) = true := by rw [hc]; simp
          clear S HD hc
          go_wp2_with (fail)
          refine (one_ok _ _ _ _ _ _ _ _ HI.out hp).mono ?_
          rintro e w' ⟨rfl, h1, o1⟩
          have HI2 := Lib.hid h1
          have HO2 := Lib.hid (HO.out.trans o1)
          clear h1 o1
          go_wp2_with (fail)
          refine (must_yes _ _).mono ?_
          rintro e w' ⟨rfl, rfl⟩
          go_wp2_with fail
          go_roundw
          case rel => exact ⟨n + 1, by omega, by go_num, HI2, HO2, HE⟩
          case measure => simp [intOf]; omega
        · have S := HD.out
          rw [if_neg hc] at S
          have HE := Lib.hid S
          have e1 : ((l[p + n].toNat : Int) == (c.toNat : Int)) = false := by
            simp only [beq_eq_false_iff_ne, ne_eq, Int.natCast_inj]
            intro h; exact hc (UInt8.toNat_inj.mp h)
          clear S HD hc
          go_wp2_with (fail)
          refine (one_ok _ _ _ _ _ _ _ _ HI.out hp).mono ?_
          rintro e w' ⟨rfl, h1, o1⟩
          have HO2 := Lib.hid (HO.out.trans o1)
          clear h1 o1
          go_wp2_with (fail)
          refine (must_no _ _).mono ?_
          rintro e w' ⟨rfl, rfl⟩
          go_wp2_with fail
          exact ⟨rfl, SkipE.err HE.out.symm ⟨rfl, (Only.of_ext E0.out).trans HO2.out⟩⟩
      · have S := HC.out
        simp only [skipS, dif_neg hp] at S
        have HE := Lib.hid S
        clear S HC
        go_wp2_with (fail)
        refine (one_end _ _ _ _ _ _ _ _ HI.out (by omega)).mono ?_
        rintro e w' ⟨rfl, e1⟩
        go_wp2_with fail
        exact ⟨rfl, SkipE.err HE.out.symm ⟨rfl, (Only.of_ext E0.out).trans (HO.out.ext e1)⟩⟩
    · obtain rfl : n = s.size := by omega
      have S := HS.out
      rw [← hsz, List.drop_length] at S
      simp only [skipS] at S
      have HE := Lib.hid S
      clear S HS
      go_wp2_with fail
      refine bodyPost_ret (results_none rfl _ _ _) rfl ?_
      exact SkipE.ok HE.out.symm ⟨rfl, HI.out, (Only.of_ext E0.out).trans HO.out⟩
end Go.Proofs.YtopdgmchkoaeeaaDoor
