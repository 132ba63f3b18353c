/- Words: a text with its bytes and backslashes, in the program. -/
import Derived.Test.YthknpnhiijbgfaaDoorWdF
import Derived.Test.YthknpnhiijbgfaaDoorOwn
import Derived.Lib.IndexBytes
namespace Go.Proofs.YthknpnhiijbgfaaDoor
open Go.RowKit
set_option linter.unusedVariables false
set_option linter.unusedSimpArgs false

def txtV : Option (List UInt8 × Nat) → Value
  | none => .tuple #[.string ⟨#[]⟩, .int .i64 0]
  | some (x, n) => .tuple #[.string ⟨x.toArray⟩, .int .i64 ((n + 1 : Nat) : Int)]
theorem map_acc (a : List UInt8) (r : Option (List UInt8 × Nat)) (b : UInt8) (k j i : Nat) (h : k + j = i) : ((r.map fun x => (b :: x.1, x.2 + j)).map fun x => (a ++ x.1, x.2 + k)) = r.map fun x => ((a ++ [b]) ++ x.1, x.2 + i) := by
  cases r with
  | none => rfl
  | some x => simp; omega
theorem text_end0 (q : UInt8) : textP q [] = none := by rw [textP]
theorem text_nl {q c : UInt8} {l : List UInt8} (h1 : c ≠ q) (h : c.toNat = 10) : textP q (c :: l) = none := by
  rw [textP]; simp [h1, h]
theorem text_bad {q : UInt8} {c : UInt8} {l : List UInt8} (h1 : c ≠ q) (h2 : ¬ c.toNat = 10) (h3 : c.toNat = 92) (h : escP l = none) : textP q (c :: l) = none := by
  rw [textP]; simp [h1, h2, h3, h]
theorem text_esc {q c : UInt8} {l : List UInt8} {b : UInt8} {n : Nat} (h1 : c ≠ q) (h2 : ¬ c.toNat = 10) (h3 : c.toNat = 92) (h : escP l = some (b, n)) : textP q (c :: l) = (textP q (l.drop n)).map fun x => (b :: x.1, x.2 + (n + 1)) := by
  rw [textP]; simp [h1, h2, h3, h]
set_option maxRecDepth 100000 in
set_option maxHeartbeats 2000000 in
theorem text_any (w : World) (s : ByteArray) (q : UInt8) (t : List UInt8) (hs : s.data.toList = q :: t) (hmax : s.size ≤ 140737488355000) : Calls Tryd.prog 62 #[.string s] w fun e w' => e = .returned (txtV (textP q t)) ∧ Ext w w' := by
  obtain ⟨n, hn⟩ : ∃ n, s.size = n := ⟨_, rfl⟩
  obtain ⟨l, hL⟩ : ∃ l, s.data.toList = l := ⟨_, rfl⟩
  have hl : l.length = n := by rw [← hL]; exact hn
  have hlq : l = q :: t := by rw [← hL, hs]
  have hlt : l.drop 1 = t := by rw [hlq]; rfl
  obtain ⟨r, hr⟩ : ∃ r, textP q t = r := ⟨_, rfl⟩
  rw [hr]
  have hn0 : 0 < n := by rw [← hl, hlq]; simp
  have hs0 : 0 < s.size := by omega
  have hq0 : s[0]'hs0 = q := by
    rw [← str_get s 0 hs0, get_of hL, get_of hlq]; rfl
  have HR := Lib.hid hr
  have HL := Lib.hid hL
  have HLL := Lib.hid hl
  have HT := Lib.hid hlt
  have HN := Lib.hid hn
  clear hr hL hl hlq hlt hs
  go_enter Tryd.func62, Tryd.ntmps62
  go_wp2_with fail
  go_loopw [4, 5] (fun v4 v5 wr => ∃ (k : Nat) (v : Value) (acc : List UInt8), v5 = .int .i64 (k : Int) ∧ v = v4 ∧ 1 ≤ k ∧ k ≤ n ∧ acc.length ≤ k ∧ Hid (Ext w wr) ∧ Hid (OwnB wr w.heap.size v acc) ∧ Hid (r = (textP q (l.drop k)).map fun x => (acc ++ x.1, x.2 + (k - 1)))) (fun _ v5 _ => n - (intOf v5).toNat)
  case atStart => exact ⟨1, _, [], rfl, rfl, Nat.le_refl _, by omega, by simp, Lib.hid (Ext.refl _), Lib.hid (OwnB.nil _ _), Lib.hid (by rw [HT.out, HR.out]; cases r <;> simp)⟩
  case round =>
    obtain ⟨k, v, acc, rfl, rfl, hk1, hk, hacc, HE, HO, HK⟩ := hrel
    by_cases hkn : k < n
    · have d1 : decide ((k : Int) < (s.size : Int)) = true := decide_eq_true (by omega)
      have d1n : decide (k < s.size) = true := decide_eq_true (by omega)
      have hks : k < s.size := by omega
      obtain ⟨c, hc⟩ : ∃ c, s[k]'hks = c := ⟨_, rfl⟩
      obtain ⟨m, hm⟩ : ∃ m, l.drop (k + 1) = m := ⟨_, rfl⟩
      have hd : l.drop k = c :: m := by rw [List.drop_eq_getElem_cons (by have := HLL.out; omega), ← hc, hm]; congr 1; rw [← str_get]; exact get_of HL.out.symm _
      have hdl : m.length = n - (k + 1) := by rw [← hm, List.length_drop, HLL.out]
      have HM := Lib.hid hm
      have HDL := Lib.hid hdl
      have hK := HK.out
      rw [hd] at hK
      clear hd hm hdl HK
      by_cases hcq : c = q
      · have f0 : ((c.toNat : Int) == (q.toNat : Int)) = true := by rw [hcq]; simp
        have hres : Hid (r = some (acc, k)) := Lib.hid (by rw [hK, hcq, textP_end]; simp; omega)
        obtain ⟨qa, cp, rfl⟩ := HO.out.slice
        have cv := HO.out.conv
        have HCQ := Lib.hid hcq
        clear hK hcq
        go_wp2_with fail
        go_ret2
        exact ⟨by rw [hres.out]; exact ret2_of ⟨rfl, int_eq (by omega)⟩, HE.out⟩
      have f0 : ((c.toNat : Int) == (q.toNat : Int)) = false := by rw [beq_eq_false_iff_ne]; exact fun e => hcq (u8_eq (by omega))
      by_cases h10 : c.toNat = 10
      · have f1 : ((c.toNat : Int) == 10) = true := by rw [h10]; rfl
        have hres : Hid (r = none) := Lib.hid (by rw [hK, text_nl hcq h10]; rfl)
        have HCQ := Lib.hid hcq
        have H10 := Lib.hid h10
        clear hK hcq h10
        go_wp2_with fail
        go_ret2
        exact ⟨by rw [hres.out]; rfl, HE.out⟩
      have f1 : ((c.toNat : Int) == 10) = false := by rw [beq_eq_false_iff_ne]; omega
      by_cases h92 : c.toNat = 92
      · have f2 : ((c.toNat : Int) == 92) = true := by rw [h92]; rfl
        have dk : k + 1 ≤ s.size := by omega
        have hex : (s.extract (k + 1) n).data.toList = m := by rw [← hn, Lib.extract_to_end, HL.out, HM.out]
        have HX := Lib.hid hex
        have HCQ := Lib.hid hcq
        have H10 := Lib.hid h10
        have H92 := Lib.hid h92
        have HKK := Lib.hid hK
        clear hK hcq h10 h92 hex
        go_wp2_with fail
        refine (escaped_any _ _).mono ?_
        rintro e w1 ⟨rfl, he1⟩
        rw [HX.out]
        have HE1 := Lib.hid he1
        clear he1
        obtain ⟨y, hy⟩ : ∃ y, escP m = y := ⟨_, rfl⟩
        rw [hy]
        cases y with
        | none =>
          have hres : Hid (r = none) := Lib.hid (by rw [HKK.out, text_bad HCQ.out H10.out H92.out hy]; rfl)
          clear hy
          show _
          simp only [escV]
          go_wp2_with fail
          go_ret2
          exact ⟨by rw [hres.out]; rfl, HE.out.trans HE1.out⟩
        | some x =>
          obtain ⟨b, j⟩ := x
          have hel := esc_len hy
          have hj : ((j : Int) == 0) = false := by rw [beq_eq_false_iff_ne]; omega
          have hjk : k + 1 + j ≤ n := by have := HDL.out; omega
          have hj1 : 1 ≤ j := hel.1
          have HK2 : Hid (r = (textP q (l.drop (k + 1 + j))).map fun x => ((acc ++ [b]) ++ x.1, x.2 + (k + 1 + j - 1))) := Lib.hid (by
            rw [HKK.out, text_esc HCQ.out H10.out H92.out hy, map_acc acc _ b (k - 1) (j + 1) (k + 1 + j - 1) (by omega), ← List.drop_drop, HM.out])
          have hO1 := HO.out.ext HE1.out
          obtain ⟨v', w2, hrun, happ⟩ := app_lit w1 52 w.heap.size v acc [b] hO1 (by have h1 := HE.out.le; have h2 := HE1.out.le; omega) (by simp; omega)
          have HRUN := Lib.hid hrun
          have HA := Lib.hid happ
          have HE2 : Hid (Ext w w2) := Lib.hid (happ.ext ((HE.out.trans HE1.out).alloc _) (Nat.le_refl _))
          clear hrun happ hO1 hel hy
          simp only [escV]
          go_wp2_with (at_builtin; refine wpList_append_run rfl _ _ 52 rfl _ _ _ _ rfl rfl HRUN.out ?_)
          go_roundw
          case rel => exact ⟨k + 1 + j, v', acc ++ [b], by go_num, rfl, by omega, hjk, by simp; omega, HE2, Lib.hid HA.out.own, HK2⟩
          case measure => simp [intOf]; omega
      · have f2 : ((c.toNat : Int) == 92) = false := by rw [beq_eq_false_iff_ne]; omega
        have HK2 : Hid (r = (textP q (l.drop (k + 1))).map fun x => ((acc ++ [c]) ++ x.1, x.2 + (k + 1 - 1))) := Lib.hid (by
          rw [hK, textP_plain m hcq h10 h92, map_acc acc _ c (k - 1) 1 (k + 1 - 1) (by omega), HM.out])
        obtain ⟨v', w2, hrun, happ⟩ := app_lit wr 52 w.heap.size v acc [c] HO.out (by have h1 := HE.out.le; omega) (by simp; omega)
        have HRUN := Lib.hid hrun
        have HA := Lib.hid happ
        have HE2 : Hid (Ext w w2) := Lib.hid (happ.ext (HE.out.alloc _) (Nat.le_refl _))
        have HCQ := Lib.hid hcq
        clear hrun happ hK hcq h10 h92
        go_wp2_with (at_builtin; refine wpList_append_run rfl _ _ 52 rfl _ _ _ _ rfl rfl HRUN.out ?_)
        go_roundw
        case rel => exact ⟨k + 1, v', acc ++ [c], by go_num, rfl, by omega, by omega, by simp; omega, HE2, Lib.hid HA.out.own, HK2⟩
        case measure => simp [intOf]; omega
    · obtain rfl : k = n := by omega
      have d1 : decide ((k : Int) < (s.size : Int)) = false := decide_eq_false (by omega)
      have d1n : decide (k < s.size) = false := decide_eq_false (by omega)
      have hres : Hid (r = none) := Lib.hid (by rw [HK.out, List.drop_eq_nil_of_le (by have := HLL.out; omega), text_end0]; rfl)
      go_wp2_with fail
      go_ret2
      exact ⟨by rw [hres.out]; rfl, HE.out⟩
end Go.Proofs.YthknpnhiijbgfaaDoor
