/- A text of so many bytes, and the line's end; a length and a text. -/
import Derived.Test.YtopdgmchkoaeeaaDoorRsD
import Derived.Laws.BytesArg
namespace Go.Proofs.YtopdgmchkoaeeaaDoor
open Go.RowKit
set_option linter.unusedVariables false
set_option linter.unusedSimpArgs false

/-- What text, bulk leave. -/
def TextE (w : World) (g : Nat) (q : Option Addr) (cap : Nat) (l : List UInt8) (t i : Int) (r : Except Int (ByteArray × Nat)) (e : Ending) (w' : World) : Prop :=
  match r with
  | .ok x => e = .returned (.string x.1) ∧ InAt w' g q cap l x.2 (t - x.1.size) i ∧ Only g w w'
  | .error c => Gave c e ∧ Only g w w'
theorem TextE.ok {w : World} {g : Nat} {q : Option Addr} {cap : Nat} {l : List UInt8} {t i : Int} {r : Except Int (ByteArray × Nat)} {e : Ending} {w' : World} {x : ByteArray × Nat} (hr : r = .ok x) (h : e = .returned (.string x.1) ∧ InAt w' g q cap l x.2 (t - x.1.size) i ∧ Only g w w') : TextE w g q cap l t i r e w' := by
  subst hr; exact h
theorem TextE.err {w : World} {g : Nat} {q : Option Addr} {cap : Nat} {l : List UInt8} {t i : Int} {r : Except Int (ByteArray × Nat)} {e : Ending} {w' : World} {c : Int} (hr : r = .error c) (h : Gave c e ∧ Only g w w') : TextE w g q cap l t i r e w' := by
  subst hr; exact h

def cutN (l : List UInt8) (p n : Nat) : List Int := ((l.drop p).take n).map fun c => (c.toNat : Int)
theorem cut_str (l : List UInt8) (p n : Nat) : strOfNums (cutN l p n) = cutS l p n := by
  unfold strOfNums cutN cutS
  congr 2
  rw [List.map_map]
  conv => rhs; rw [← List.map_id ((l.drop p).take n)]
  exact List.map_congr_left fun c _ => by simp
theorem cut_len (l : List UInt8) (p n : Nat) (h : p + n ≤ l.length) : (cutN l p n).length = n := by
  unfold cutN; simp; omega
theorem cut_size (l : List UInt8) (p n : Nat) (h : p + n ≤ l.length) : (cutS l p n).size = n := by
  unfold cutS; show ((l.drop p).take n).toArray.size = n; simp; omega
theorem cut_get (l : List UInt8) (p n k : Nat) (h : p + n ≤ l.length) (hk : k < n) : (cutN l p n).getD k 0 = ((l[p + k]'(by omega)).toNat : Int) := by
  have h1 : k < (cutN l p n).length := by rw [cut_len l p n h]; exact hk
  rw [List.getD_eq_getElem?_getD, List.getElem?_eq_getElem h1]
  simp only [cutN, Option.getD_some, List.getElem_map, List.getElem_take, List.getElem_drop]
/-- What the bytes say as a text. -/
theorem conv_cut (w : World) (g : Nat) (b o cap p n c : Nat) (l : List UInt8) (P t i : Int) (h : InAt w g (some ⟨b, o, none⟩) cap l P t i) (hn : p + n ≤ l.length) (o' : Nat) (ho : 0 < n → o' = o + p) :
    (convert 25 9 (.slice (some ⟨b, o', none⟩) n c)).run Tryd.prog w = .ok (.string (cutS l p n)) w := by
  have := run_convert_bytes_arg (P := Tryd.prog) w 25 5 Tryd.underlying25 Tryd.underlying5 b o' n c (cutN l p n) (cut_len l p n hn) (fun k hk => by
    obtain ⟨b', o'', e, _, hc⟩ := h.bytes (p + k) (by omega)
    cases e
    rw [cut_get l p n k hn hk, ho (by omega), Nat.add_assoc]
    exact hc) 9 Tryd.underlying9
  rw [cut_str] at this
  exact this
theorem conv_nil (w : World) (c k : Nat) : (convert 25 9 (.slice none k c)).run Tryd.prog w = .ok (.string ByteArray.empty) w :=
  run_convert_bytes_nil (P := Tryd.prog) w 25 5 Tryd.underlying25 Tryd.underlying5 k c 9 Tryd.underlying9

set_option maxRecDepth 100000 in
set_option maxHeartbeats 2000000 in
theorem text_no (n : Nat) (w : World) (g : Nat) (q : Option Addr) (cap : Nat) (l : List UInt8) (p : Nat) (t i : Int) (h : InAt w g q cap l p t i) (hp : p ≤ l.length) (hn : ¬ p + n ≤ l.length) :
    Calls Tryd.prog 65 #[.pointer (some ⟨g, 0, none⟩), .int .i64 n] w fun e w' => Gave 130 e ∧ Only g w w' := by
  have hd : decide ((n : Int) ≤ (l.length : Int) - (p : Int)) = false := by simp; omega
  have hl := h.len
  have hw : IntKind.i64.wrap ((l.length : Int) - (p : Int)) = (l.length : Int) - (p : Int) := IntWalk.i64_in _ (by omega)
  have c0 := h.blk.cell 0
  have c1 := h.blk.cell 1
  simp only [List.getElem?_toArray, List.getElem?_cons_zero, List.getElem?_cons_succ] at c0 c1
  clear h
  go_enter Tryd.func65, Tryd.ntmps65
  go_wp2_with fail
  go_still_tail 12, (by kernel_rfl)
  change wpList _ _ _ _ _ w.drew
  generalize hw2 : w.drew = w2
  go_wp2_with fail
  refine (must_no _ _).mono ?_
  rintro e w' ⟨rfl, rfl⟩
  go_wp2_with fail
  exact ⟨rfl, rfl, hw2 ▸ (Only.refl g w).drew⟩

set_option maxRecDepth 100000 in
set_option maxHeartbeats 2000000 in
theorem text_yes (n p : Nat) (w : World) (g : Nat) (b o cap : Nat) (l : List UInt8) (t i : Int) (h : InAt w g (some ⟨b, o, none⟩) cap l (p : Int) t i) (hn : p + n ≤ l.length) (hc : p < cap) (ht : 0 ≤ t ∧ t ≤ 1048576) (htn : (n : Int) ≤ t) :
    Calls Tryd.prog 65 #[.pointer (some ⟨g, 0, none⟩), .int .i64 (n : Int)] w (TextE w g (some ⟨b, o, none⟩) cap l t i (textS l n p)) := by
  have hl := h.len
  have hr := h.room
  have hn : p + n ≤ l.length := by omega
  have k3 : ¬ p = cap := by omega
  have hd : decide ((n : Int) ≤ (l.length : Int) - (p : Int)) = true := by simp; omega
  have hw : IntKind.i64.wrap ((l.length : Int) - (p : Int)) = (l.length : Int) - (p : Int) := IntWalk.i64_in _ (by omega)
  have hw2 : IntKind.i64.wrap ((p : Int) + (n : Int)) = (p : Int) + (n : Int) := IntWalk.i64_in _ (by omega)
  have k0 : (0 : Int) ≤ (p : Int) := by omega
  have k1 : (p : Int) ≤ (p : Int) + (n : Int) := by omega
  have k2 : (p : Int) + (n : Int) ≤ (cap : Int) := by omega
  have c0 := h.blk.cell 0
  have c1 := h.blk.cell 1
  have c2 := h.blk.cell 2
  simp only [List.getElem?_toArray, List.getElem?_cons_zero, List.getElem?_cons_succ] at c0 c1 c2
  have H := Lib.hid h
  obtain ⟨r, hr⟩ : ∃ r, textS l n p = r := ⟨_, rfl⟩
  rw [hr]
  have HR := Lib.hid hr
  have HZ := Lib.hid (cut_size l p n hn)
  clear h hr
  go_enter Tryd.func65, Tryd.ntmps65
  go_wp2_with fail
  go_still_tail 12, (by kernel_rfl)
  change wpList _ _ _ _ _ w.drew
  generalize hw2 : w.drew = w2
  have E2 := Lib.hid (hw2 ▸ (Ext.refl w).drew : Ext w w2)
  replace c0 := E2.out.cell c0
  replace c1 := E2.out.cell c1
  replace c2 := E2.out.cell c2
  clear hw2
  go_wp2_with fail
  refine (must_yes _ _).mono ?_
  rintro e w' ⟨rfl, rfl⟩
  go_wp2_with fail
  go_still_tail 15, (by kernel_rfl)
  change wpList _ _ _ _ _ w2.drew
  generalize hw3 : w2.drew = w3
  have E3 := Lib.hid (E2.out.trans (hw3 ▸ (Ext.refl w2).drew : Ext w2 w3))
  replace c1 := (hw3 ▸ (Ext.refl w2).drew : Ext w2 w3).cell c1
  replace c2 := (hw3 ▸ (Ext.refl w2).drew : Ext w2 w3).cell c2
  clear hw3 c0 E2
  have H3 := Lib.hid (H.out.ext E3.out)
  have z1 := H3.out.blk.frozen 1
  have z2 := H3.out.blk.frozen 2
  have hx := fun c => conv_cut w3 g b o cap p n c l p t i H3.out hn (o + p) (fun _ => rfl)
  have B := ((H3.out.blk.set_ 1 (.int .i64 ((p : Int) + (n : Int)))).set_ 2 (.int .i64 (t - (n : Int))))
  have O : Only g w ((w3.setCell ⟨g, 1, none⟩ (.int .i64 ((p : Int) + (n : Int)))).setCell ⟨g, 2, none⟩ (.int .i64 (t - (n : Int)))) := ((Only.of_ext E3.out).set 1 _).set 2 _
  have H4 := Lib.hid (H.out.put O (p' := ((p + n : Nat) : Int)) (t' := t - (n : Int)) (i' := i) (by simpa using B))
  have O4 := Lib.hid O
  clear B O
  go_wp2_with fail
  refine (skip_any ⟨#[13, 10]⟩ _ _ _ _ _ _ _ _ H4.out (by decide)).mono ?_
  intro e w' hs
  have S := HR.out
  unfold textS at S
  rw [if_pos hn] at S
  obtain ⟨sr, hsr⟩ : ∃ sr, skipS l [13, 10] (p + n) = sr := ⟨_, rfl⟩
  have hs' : SkipE _ g _ _ l (t - (n : Int)) i (skipS l [13, 10] (p + n)) e w' := hs
  rw [hsr] at S hs'
  clear hs HR hsr
  cases sr with
  | error x =>
    obtain ⟨rfl, o2⟩ := hs'
    go_wp2_with fail
    exact ⟨rfl, TextE.err S.symm ⟨rfl, O4.out.trans o2⟩⟩
  | ok x =>
    obtain ⟨rfl, i2, o2⟩ := hs'
    have HS := Lib.hid S
    have HI := Lib.hid i2
    have HO := Lib.hid (O4.out.trans o2)
    clear S i2 o2
    go_wp2_with fail
    go_ret
    exact TextE.ok HS.out.symm ⟨rfl, by rw [show ((cutS l p n).size : Int) = (n : Int) by have := HZ.out; omega]; exact HI.out, HO.out⟩
set_option maxRecDepth 100000 in
set_option maxHeartbeats 2000000 in
theorem text_cap (p : Nat) (w : World) (g : Nat) (b o : Nat) (l : List UInt8) (t i : Int) (h : InAt w g (some ⟨b, o, none⟩) p l (p : Int) t i) (hc : p ≤ l.length) (ht : 0 ≤ t ∧ t ≤ 1048576) (htn : (0 : Int) ≤ t) :
    Calls Tryd.prog 65 #[.pointer (some ⟨g, 0, none⟩), .int .i64 (0 : Int)] w (TextE w g (some ⟨b, o, none⟩) p l t i (textS l 0 p)) := by
  have hl := h.len
  have hr := h.room
  have hn : p + 0 ≤ l.length := by omega
  have hd : decide ((0 : Int) ≤ (l.length : Int) - (p : Int)) = true := by simp; omega
  have hd2 : (p : Int) ≤ (l.length : Int) := by omega
  have hw : IntKind.i64.wrap ((l.length : Int) - (p : Int)) = (l.length : Int) - (p : Int) := IntWalk.i64_in _ (by omega)
  have hw2 : IntKind.i64.wrap (p : Int) = (p : Int) := IntWalk.i64_in _ (by omega)
  have k0 : (0 : Int) ≤ (p : Int) := by omega
  have c0 := h.blk.cell 0
  have c1 := h.blk.cell 1
  have c2 := h.blk.cell 2
  simp only [List.getElem?_toArray, List.getElem?_cons_zero, List.getElem?_cons_succ] at c0 c1 c2
  have H := Lib.hid h
  obtain ⟨r, hr⟩ : ∃ r, textS l 0 p = r := ⟨_, rfl⟩
  rw [hr]
  have HR := Lib.hid hr
  have HZ := Lib.hid (cut_size l p 0 hn)
  clear h hr
  go_enter Tryd.func65, Tryd.ntmps65
  go_wp2_with fail
  go_still_tail 12, (by kernel_rfl)
  change wpList _ _ _ _ _ w.drew
  generalize hw2 : w.drew = w2
  have E2 := Lib.hid (hw2 ▸ (Ext.refl w).drew : Ext w w2)
  replace c0 := E2.out.cell c0
  replace c1 := E2.out.cell c1
  replace c2 := E2.out.cell c2
  clear hw2
  go_wp2_with fail
  refine (must_yes _ _).mono ?_
  rintro e w' ⟨rfl, rfl⟩
  go_wp2_with fail
  go_still_tail 15, (by kernel_rfl)
  change wpList _ _ _ _ _ w2.drew
  generalize hw3 : w2.drew = w3
  have E3 := Lib.hid (E2.out.trans (hw3 ▸ (Ext.refl w2).drew : Ext w2 w3))
  replace c1 := (hw3 ▸ (Ext.refl w2).drew : Ext w2 w3).cell c1
  replace c2 := (hw3 ▸ (Ext.refl w2).drew : Ext w2 w3).cell c2
  clear hw3 c0 E2
  have H3 := Lib.hid (H.out.ext E3.out)
  have z1 := H3.out.blk.frozen 1
  have z2 := H3.out.blk.frozen 2
  have hx := fun c => conv_cut w3 g b o p p 0 c l p t i H3.out hn o (fun h => absurd h (by omega))
  have B := ((H3.out.blk.set_ 1 (.int .i64 ((p : Int)))).set_ 2 (.int .i64 (t)))
  have O : Only g w ((w3.setCell ⟨g, 1, none⟩ (.int .i64 ((p : Int)))).setCell ⟨g, 2, none⟩ (.int .i64 (t))) := ((Only.of_ext E3.out).set 1 _).set 2 _
  have H4 := Lib.hid (H.out.put O (p' := ((p + 0 : Nat) : Int)) (t' := t - (0 : Int)) (i' := i) (by simpa using B))
  have O4 := Lib.hid O
  clear B O
  go_wp2_with fail
  refine (skip_any ⟨#[13, 10]⟩ _ _ _ _ _ _ _ _ H4.out (by decide)).mono ?_
  intro e w' hs
  have S := HR.out
  unfold textS at S
  rw [if_pos hn] at S
  obtain ⟨sr, hsr⟩ : ∃ sr, skipS l [13, 10] (p + 0) = sr := ⟨_, rfl⟩
  have hs' : SkipE _ g _ _ l (t - (0 : Int)) i (skipS l [13, 10] (p + 0)) e w' := hs
  rw [hsr] at S hs'
  clear hs HR hsr
  cases sr with
  | error x =>
    obtain ⟨rfl, o2⟩ := hs'
    go_wp2_with fail
    exact ⟨rfl, TextE.err S.symm ⟨rfl, O4.out.trans o2⟩⟩
  | ok x =>
    obtain ⟨rfl, i2, o2⟩ := hs'
    have HS := Lib.hid S
    have HI := Lib.hid i2
    have HO := Lib.hid (O4.out.trans o2)
    clear S i2 o2
    go_wp2_with fail
    go_ret
    exact TextE.ok HS.out.symm ⟨rfl, by rw [show ((cutS l p 0).size : Int) = (0 : Int) by have := HZ.out; omega]; exact HI.out, HO.out⟩
set_option maxRecDepth 100000 in
set_option maxHeartbeats 2000000 in
theorem text_nil (w : World) (g : Nat) (l : List UInt8) (t i : Int) (h : InAt w g none 0 l (0 : Int) t i)  (ht : 0 ≤ t ∧ t ≤ 1048576) (htn : (0 : Int) ≤ t) :
    Calls Tryd.prog 65 #[.pointer (some ⟨g, 0, none⟩), .int .i64 (0 : Int)] w (TextE w g none 0 l t i (textS l 0 0)) := by
  have hl := h.len
  have hr := h.room
  obtain rfl : l = [] := List.length_eq_zero_iff.mp (by omega)
  have hn : 0 + 0 ≤ ([] : List UInt8).length := by omega
  have hw : IntKind.i64.wrap 0 = 0 := IntWalk.i64_in _ (by omega)
  have hsl : ∀ W, (Instr.slice 25 (.slice none 0 0) (some (.int .i64 0)) (some (.int .i64 0)) none).run Tryd.prog W = .ok (.slice none 0 0) W := fun _ => by kernel_rfl
  have c0 := h.blk.cell 0
  have c1 := h.blk.cell 1
  have c2 := h.blk.cell 2
  simp only [List.getElem?_toArray, List.getElem?_cons_zero, List.getElem?_cons_succ, List.length_nil] at c0 c1 c2
  have H := Lib.hid h
  obtain ⟨r, hr⟩ : ∃ r, textS [] 0 0 = r := ⟨_, rfl⟩
  rw [hr]
  have HR := Lib.hid hr
  have HZ := Lib.hid (cut_size [] 0 0 hn)
  clear h hr
  go_enter Tryd.func65, Tryd.ntmps65
  go_wp2_with fail
  go_still_tail 12, (by kernel_rfl)
  change wpList _ _ _ _ _ w.drew
  generalize hw2 : w.drew = w2
  have E2 := Lib.hid (hw2 ▸ (Ext.refl w).drew : Ext w w2)
  replace c0 := E2.out.cell c0
  replace c1 := E2.out.cell c1
  replace c2 := E2.out.cell c2
  clear hw2
  go_wp2_with fail
  refine (must_yes _ _).mono ?_
  rintro e w' ⟨rfl, rfl⟩
  go_wp2_with fail
  go_still_tail 15, (by kernel_rfl)
  change wpList _ _ _ _ _ w2.drew
  generalize hw3 : w2.drew = w3
  have E3 := Lib.hid (E2.out.trans (hw3 ▸ (Ext.refl w2).drew : Ext w2 w3))
  replace c1 := (hw3 ▸ (Ext.refl w2).drew : Ext w2 w3).cell c1
  replace c2 := (hw3 ▸ (Ext.refl w2).drew : Ext w2 w3).cell c2
  clear hw3 c0 E2
  have H3 := Lib.hid (H.out.ext E3.out)
  have z1 := H3.out.blk.frozen 1
  have z2 := H3.out.blk.frozen 2
  have hx : ∀ k c, (convert 25 9 (.slice none k c)).run Tryd.prog w3 = .ok (.string (cutS [] 0 0)) w3 := fun k c => conv_nil w3 c k
  have B := ((H3.out.blk.set_ 1 (.int .i64 ((0 : Int)))).set_ 2 (.int .i64 (t)))
  have O : Only g w ((w3.setCell ⟨g, 1, none⟩ (.int .i64 ((0 : Int)))).setCell ⟨g, 2, none⟩ (.int .i64 (t))) := ((Only.of_ext E3.out).set 1 _).set 2 _
  have H4 := Lib.hid (H.out.put O (p' := ((0 + 0 : Nat) : Int)) (t' := t - (0 : Int)) (i' := i) (by simpa using B))
  have O4 := Lib.hid O
  clear B O
  go_wp2_with fail
  refine (skip_any ⟨#[13, 10]⟩ _ _ _ _ _ _ _ _ H4.out (by decide)).mono ?_
  intro e w' hs
  have S := HR.out
  unfold textS at S
  rw [if_pos hn] at S
  obtain ⟨sr, hsr⟩ : ∃ sr, skipS [] [13, 10] (0 + 0) = sr := ⟨_, rfl⟩
  have hs' : SkipE _ g _ _ [] (t - (0 : Int)) i (skipS [] [13, 10] (0 + 0)) e w' := hs
  rw [hsr] at S hs'
  clear hs HR hsr
  cases sr with
  | error x =>
    obtain ⟨rfl, o2⟩ := hs'
    go_wp2_with fail
    exact ⟨rfl, TextE.err S.symm ⟨rfl, O4.out.trans o2⟩⟩
  | ok x =>
    obtain ⟨rfl, i2, o2⟩ := hs'
    have HS := Lib.hid S
    have HI := Lib.hid i2
    have HO := Lib.hid (O4.out.trans o2)
    clear S i2 o2
    go_wp2_with fail
    go_ret
    exact TextE.ok HS.out.symm ⟨rfl, by rw [show ((cutS [] 0 0).size : Int) = (0 : Int) by have := HZ.out; omega]; exact HI.out, HO.out⟩
theorem text_any (n : Nat) (w : World) (g : Nat) (q : Option Addr) (cap : Nat) (l : List UInt8) (p : Nat) (t i : Int) (h : InAt w g q cap l p t i) (hp : p ≤ l.length) (ht : 0 ≤ t ∧ t ≤ 1048576) (htn : (n : Int) ≤ t) :
    Calls Tryd.prog 65 #[.pointer (some ⟨g, 0, none⟩), .int .i64 n] w (TextE w g q cap l t i (textS l n p)) := by
  by_cases hn : p + n ≤ l.length
  · have hr := h.room
    rcases h.slot with ⟨rfl, hc⟩ | ⟨b, o, rfl, _⟩
    · subst hc
      obtain rfl : n = 0 := by omega
      obtain rfl : p = 0 := by omega
      exact text_nil w g l t i h ht htn
    · by_cases hc : p < cap
      · exact text_yes n p w g b o cap l t i h hn hc ht htn
      · obtain rfl : n = 0 := by omega
        obtain rfl : cap = p := by omega
        exact text_cap cap w g b o l t i h hp ht htn
  · refine (text_no n w g q cap l p t i h hp hn).mono fun e w' h => ?_
    exact TextE.err (by unfold textS; rw [if_neg hn]) h
/-- A line of digits, and how far it goes. -/
theorem skip_pos {l : List UInt8} : ∀ (s : List UInt8) (p q : Nat), p ≤ l.length → skipS l s p = .ok q → p ≤ q ∧ q ≤ l.length
  | [], p, q, hp, h => by simp only [skipS, Except.ok.injEq] at h; omega
  | c :: s, p, q, hp, h => by
    simp only [skipS] at h
    split at h
    · rename_i hlt
      split at h
      · have := skip_pos s (p + 1) q (by omega) h; omega
      · cases h
    · cases h
theorem num_pos {l : List UInt8} {a b : Nat} : ∀ (k m n p : Nat) (x : Nat × Nat), p ≤ l.length → n ≤ b → numS l a b k m n p = .ok x → x.1 ≤ b ∧ p ≤ x.2 ∧ x.2 ≤ l.length
  | 0, m, n, p, x, hp, hn, h => by simp only [numS] at h; cases h
  | k + 1, m, n, p, x, hp, hn, h => by
    simp only [numS] at h
    split at h
    · rename_i hlt
      split at h
      · cases hs : skipS l [10] (p + 1) with
        | error e => rw [hs] at h; cases h
        | ok q =>
          rw [hs] at h
          have := skip_pos _ _ _ (by omega) hs
          cases h
          exact ⟨hn, by show p ≤ q; omega, by show q ≤ l.length; omega⟩
      · split at h
        · cases h
        · split at h
          · rename_i hle
            have := num_pos k (m + 1) _ (p + 1) x (by omega) hle h
            omega
          · cases h
    · cases h

set_option maxRecDepth 100000 in
set_option maxHeartbeats 2000000 in
theorem bulk_any (w : World) (g : Nat) (q : Option Addr) (cap : Nat) (l : List UInt8) (p t : Nat) (i : Int) (h : InAt w g q cap l p t i) (hp : p ≤ l.length) (ht : t ≤ 1048576) :
    Calls Tryd.prog 45 #[.pointer (some ⟨g, 0, none⟩)] w (TextE w g q cap l t i (bulkS l t p)) := by
  have c2 := h.blk.cell 2
  simp only [List.getElem?_toArray, List.getElem?_cons_zero, List.getElem?_cons_succ] at c2
  have hw : IntKind.u64.wrap (t : Int) = (t : Int) := IntWalk.u64_in _ (by omega)
  have cN := Lib.hid (number_any 0 t w g q cap l p t i h (by omega) (by omega))
  obtain ⟨r, hr⟩ : ∃ r, bulkS l t p = r := ⟨_, rfl⟩
  rw [hr]
  have HR := Lib.hid hr
  clear h hr
  go_enter Tryd.func45, Tryd.ntmps45
  go_wp2_with fail
  refine cN.out.mono ?_
  intro e w1 hs
  have S := HR.out
  unfold bulkS at S
  obtain ⟨sr, hsr⟩ : ∃ sr, numS l 0 t (l.length - p) 0 0 p = sr := ⟨_, rfl⟩
  have hs' := hs
  rw [hsr] at S hs'
  have HN := Lib.hid hsr
  clear hs HR hsr cN c2
  cases sr with
  | error x =>
    obtain ⟨rfl, o2⟩ := hs'
    go_wp2_with fail
    exact ⟨rfl, TextE.err S.symm ⟨rfl, o2⟩⟩
  | ok x =>
    obtain ⟨rfl, i2, o2⟩ := hs'
    have hx := num_pos _ _ _ _ _ hp (by omega) HN.out
    obtain ⟨n, p'⟩ := x
    have hx1 : n ≤ t := hx.1
    have hx2 : p' ≤ l.length := hx.2.2
    clear hx
    have HS := Lib.hid S
    have HI := Lib.hid i2
    have HO := Lib.hid o2
    have hw2 : IntKind.i64.wrap (n : Int) = (n : Int) := IntWalk.i64_in _ (by omega)
    clear S i2 o2 HN
    simp only at HI
    go_wp2_with fail
    refine (text_any n _ _ _ _ _ p' _ _ HI.out hx2 (by omega) (by omega)).mono ?_
    intro e w2 hs
    have S : textS l n p' = r := HS.out
    rw [S] at hs
    clear HS S
    cases r with
    | error x =>
      obtain ⟨rfl, o2⟩ := hs
      go_wp2_with fail
      exact ⟨rfl, TextE.err rfl ⟨rfl, HO.out.trans o2⟩⟩
    | ok x =>
      obtain ⟨rfl, i2, o2⟩ := hs
      have HI2 := Lib.hid i2
      have HO2 := Lib.hid (HO.out.trans o2)
      clear i2 o2
      go_wp2_with fail
      go_ret
      exact TextE.ok rfl ⟨rfl, HI2.out, HO2.out⟩
end Go.Proofs.YtopdgmchkoaeeaaDoor
