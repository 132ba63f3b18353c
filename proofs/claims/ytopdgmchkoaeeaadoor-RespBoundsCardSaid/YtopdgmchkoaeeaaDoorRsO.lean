/- A reply is read by its sign. -/
import Derived.Test.YtopdgmchkoaeeaaDoorRsN
namespace Go.Proofs.YtopdgmchkoaeeaaDoor
open Go.RowKit
set_option linter.unusedVariables false
set_option linter.unusedSimpArgs false

theorem zero_fn (w : World) : (zeroValue 110).run Tryd.prog w = .ok .nilFunc w := by kernel_rfl
theorem RepE.far {w w0 w2 : World} {g : Nat} {q : Option Addr} {cap : Nat} {l : List UInt8} {d : Nat} {r : Except Int (Rep × St)} {e : Ending} {w' : World} (O : Only g w w2) (h : RepE w2 g q cap l d r e w') : RepE w g q cap l d r e w' := by
  cases r with
  | error x => exact ⟨h.1, O.trans h.2⟩
  | ok x =>
    obtain ⟨v, e1, ⟨lv, e2, hv⟩, hi, ho⟩ := h
    have hle := O.le
    exact ⟨v, e1, ⟨lv, e2, hv.keep (fun _ _ _ _ h => h) (fun _ _ h => Nat.le_trans hle h)⟩, hi, O.trans ho⟩
set_option maxRecDepth 100000 in
set_option maxHeartbeats 4000000 in
theorem reply_with (w : World) (g : Nat) (q : Option Addr) (cap : Nat) (l : List UInt8) (d p t i D : Nat) (h : InAt w g q cap l p t i) (hp : p < l.length) (c : Nat) (hc : l[p].toNat = c) (F : FuncId) (caps : Nat → Nat → Nat → Array Value) (r : Except Int (Rep × St))
    (hF : ∀ args w, (callFunc F args).run Tryd.prog w = .ok (.enter F args) w)
    (hu : ∀ B tp ts, under (.int .u8) (.int .u8 (c : Int)) (kindL B tp ts) = some (.func (.func F) #[] (caps B tp ts)))
    (hcall : ∀ W W1 W2 M tp ts, KindsAt W W1 W.heap.size g d M tp ts → g < W.heap.size → Only g W1 W2 → InAt W2 g q cap l ((p + 1 : Nat) : Int) t i → Calls Tryd.prog F (caps W.heap.size tp ts) W2 (RepE W2 g q cap l D r)) :
    Calls Tryd.prog 50 #[.pointer (some ⟨g, 0, none⟩), .int .i64 (d : Int)] w (RepE w g q cap l D r) := by
  have H := Lib.hid h
  have hg := h.lt
  have HP := Lib.hid hp
  have A0 : Hid (Ext w (w.alloc (.cells #[.int .i64 0, .int .i64 0, .string ⟨#[]⟩, .slice none 0 0] 41))) := Lib.hid ((Ext.refl w).alloc _)
  have R0 : Hid (Blk (w.alloc (.cells #[.int .i64 0, .int .i64 0, .string ⟨#[]⟩, .slice none 0 0] 41)) w.heap.size 41 #[.int .i64 0, .int .i64 0, .string ⟨#[]⟩, .slice none 0 0]) := Lib.hid (Blk.new w _ _)
  have HU := Lib.hid hu
  have HC := Lib.hid hcall
  clear h hu hcall
  go_enter Tryd.func50, Tryd.ntmps50
  go_wp2_with fail
  generalize w.alloc (.cells #[.int .i64 0, .int .i64 0, .string ⟨#[]⟩, .slice none 0 0] 41) = w0 at A0 R0 ⊢
  refine (kinds_any w0 g d).mono ?_
  rintro e w1 ⟨M, tp, ts, rfl, hk⟩
  have HK := Lib.hid hk
  have H1 := Lib.hid (H.out.ext (A0.out.trans hk.ext))
  clear hk
  go_wp2_with fail
  have co := one_ok _ _ _ _ _ _ _ _ H1.out hp
  rw [hc] at co
  refine co.mono ?_
  clear co hc
  rintro e w2 ⟨rfl, i2, o2⟩
  have hM : M ≠ g := by have := HK.out.hM; have := A0.out.le; omega
  have hm2 : w2.heap[M]? = some (.map (ents (kindL w0.heap.size tp ts) 0).toArray 5) := by
    rw [o2.block M (by
      rcases Nat.lt_or_ge M w1.heap.size with h | h
      · exact h
      · have := HK.out.map; rw [Array.getElem?_eq_none h] at this; cases this) (fun e => hM (Option.some.inj e))]
    exact HK.out.map
  have lk := run_lookup_lit Tryd.underlying112 Tryd.underlying5 rfl _ 5 M _ _ hm2 (HU.out w0.heap.size tp ts) true
  have I2 := Lib.hid i2
  have O2 := Lib.hid o2
  have O02 := Lib.hid ((Only.of_ext (A0.out.trans HK.out.ext)).trans o2)
  have C2 := Lib.hid (HC.out w0 w1 w2 M tp ts HK.out (Nat.lt_of_lt_of_le hg A0.out.le) o2 i2)
  have R2 := Lib.hid ((R0.out.ext HK.out.ext).only o2 (by omega))
  clear i2 o2 hm2 HC HU
  simp only [if_true] at lk
  go_wp2_with fail
  refine (must_yes _ _).mono ?_
  rintro e w' ⟨rfl, rfl⟩
  go_wp2_with fail
  refine C2.out.mono ?_
  intro e w3 hs
  clear lk
  cases r with
  | error x =>
    obtain ⟨rfl, o3⟩ := hs
    go_wp2_with fail
    exact ⟨rfl, RepE.err rfl ⟨rfl, O02.out.trans o3⟩⟩
  | ok x =>
    obtain ⟨v, rfl, ⟨lv, rfl, hv⟩, i3, o3⟩ := hs
    obtain ⟨q9, c9, hlv⟩ := hv.slice
    subst hlv
    have B3 := R2.out.only o3 (by omega)
    have HV := Lib.hid hv
    have I3 := Lib.hid i3
    have O3 := Lib.hid (O02.out.trans o3)
    have L3 := Lib.hid (Nat.le_trans (show w.heap.size + 1 ≤ w1.heap.size by have := R0.out.lt; have := HK.out.ext.le; omega) O2.out.le)
    have b0 := B3.cell 0
    have b1 := B3.cell 1
    have b2 := B3.cell 2
    have b3 := B3.cell 3
    have z0 := B3.frozen 0
    have z1 := B3.frozen 1
    have z2 := B3.frozen 2
    have z3 := B3.frozen 3
    simp only [List.getElem?_toArray, List.getElem?_cons_zero, List.getElem?_cons_succ] at b0 b1 b2 b3
    have HB := Lib.hid B3
    clear hv i3 o3 B3
    go_wp2_with fail
    have R := rep_put H.out I3.out O3.out (Nat.le_refl _) HB.out (.int .i64 x.1.k) (.int .i64 x.1.n) (.string x.1.s) (.slice q9 x.1.l.length c9)
    have KL : ListAt (fun b => w.heap.size ≤ b) ((((w3.setCell { block := w.heap.size, off := 0 } (.int .i64 x.1.k)).setCell { block := w.heap.size, off := 1 } (.int .i64 x.1.n)).setCell { block := w.heap.size, off := 2 } (.string x.1.s)).setCell { block := w.heap.size, off := 3 } (Value.slice q9 x.1.l.length c9)) D (.slice q9 x.1.l.length c9) x.1.l :=
      HV.out.keep (fun b' o' v hok hc => by have := L3.out; rw [cell_far (by omega), cell_far (by omega), cell_far (by omega), cell_far (by omega)]; exact hc) (fun b' _ hok => by have := L3.out; omega)
    generalize (((w3.setCell { block := w.heap.size, off := 0 } (.int .i64 x.1.k)).setCell { block := w.heap.size, off := 1 } (.int .i64 x.1.n)).setCell { block := w.heap.size, off := 2 } (.string x.1.s)).setCell { block := w.heap.size, off := 3 } (Value.slice q9 x.1.l.length c9) = w4 at R KL ⊢
    obtain ⟨I4, O4, B4⟩ := R
    have e0 := B4.cell 0
    have e1 := B4.cell 1
    have e2 := B4.cell 2
    have e3 := B4.cell 3
    simp only [List.getElem?_toArray, List.getElem?_cons_zero, List.getElem?_cons_succ] at e0 e1 e2 e3
    exact bodyPost_ret (v := .agg #[.int .i64 x.1.k, .int .i64 x.1.n, .string x.1.s, .slice q9 x.1.l.length c9]) (by simp [results, Tryd.results50, go_sem, e0, e1, e2, e3]) rfl (RepE.ok rfl ⟨_, rfl, ⟨_, rfl, KL⟩, I4, O4⟩)
theorem kind_no (B tp ts c : Nat) (h : ¬ c = 43 ∧ ¬ c = 45 ∧ ¬ c = 58 ∧ ¬ c = 36 ∧ ¬ c = 42) : noKey (.int .u8) (.int .u8 (c : Int)) (kindL B tp ts) = true := by
  obtain ⟨h1, h2, h3, h4, h5⟩ := h
  have e1 : ((c : Int) == 43) = false := by simp; omega
  have e2 : ((c : Int) == 45) = false := by simp; omega
  have e3 : ((c : Int) == 58) = false := by simp; omega
  have e4 : ((c : Int) == 36) = false := by simp; omega
  have e5 : ((c : Int) == 42) = false := by simp; omega
  simp [noKey, kindL, Instr.sameNow, e1, e2, e3, e4, e5]
set_option maxRecDepth 100000 in
set_option maxHeartbeats 4000000 in
theorem reply_no (w : World) (g : Nat) (q : Option Addr) (cap : Nat) (l : List UInt8) (d p t i D : Nat) (h : InAt w g q cap l p t i) (hp : p < l.length) (c : Nat) (hc : l[p].toNat = c) (hno : ¬ c = 43 ∧ ¬ c = 45 ∧ ¬ c = 58 ∧ ¬ c = 36 ∧ ¬ c = 42) :
    Calls Tryd.prog 50 #[.pointer (some ⟨g, 0, none⟩), .int .i64 (d : Int)] w (RepE w g q cap l D (.error 131)) := by
  have H := Lib.hid h
  have hg := h.lt
  have A0 : Hid (Ext w (w.alloc (.cells #[.int .i64 0, .int .i64 0, .string ⟨#[]⟩, .slice none 0 0] 41))) := Lib.hid ((Ext.refl w).alloc _)
  have HN := Lib.hid hno
  clear h hno
  go_enter Tryd.func50, Tryd.ntmps50
  go_wp2_with fail
  generalize w.alloc (.cells #[.int .i64 0, .int .i64 0, .string ⟨#[]⟩, .slice none 0 0] 41) = w0 at A0 ⊢
  refine (kinds_any w0 g d).mono ?_
  rintro e w1 ⟨M, tp, ts, rfl, hk⟩
  have HK := Lib.hid hk
  have H1 := Lib.hid (H.out.ext (A0.out.trans hk.ext))
  clear hk
  go_wp2_with fail
  have co := one_ok _ _ _ _ _ _ _ _ H1.out hp
  rw [hc] at co
  refine co.mono ?_
  clear co hc
  rintro e w2 ⟨rfl, i2, o2⟩
  have hM : M ≠ g := by have := HK.out.hM; have := A0.out.le; omega
  have hm2 : w2.heap[M]? = some (.map (ents (kindL w0.heap.size tp ts) 0).toArray 5) := by
    rw [o2.block M (by
      rcases Nat.lt_or_ge M w1.heap.size with h | h
      · exact h
      · have := HK.out.map; rw [Array.getElem?_eq_none h] at this; cases this) (fun e => hM (Option.some.inj e))]
    exact HK.out.map
  have lk := run_lookup_none Tryd.underlying112 Tryd.underlying5 rfl _ 5 M _ .nilFunc (zero_fn w2) hm2 (kind_no w0.heap.size tp ts c HN.out) true
  have O02 := Lib.hid ((Only.of_ext (A0.out.trans HK.out.ext)).trans o2)
  clear i2 o2 hm2 HN
  simp only [if_true] at lk
  go_wp2_with fail
  refine (must_no _ _).mono ?_
  rintro e w' ⟨rfl, rfl⟩
  go_wp2_with fail
  exact ⟨rfl, RepE.err rfl ⟨rfl, O02.out⟩⟩
set_option maxRecDepth 100000 in
set_option maxHeartbeats 4000000 in
theorem reply_end (w : World) (g : Nat) (q : Option Addr) (cap : Nat) (l : List UInt8) (d p t i D : Nat) (h : InAt w g q cap l p t i) (hp : ¬ p < l.length) :
    Calls Tryd.prog 50 #[.pointer (some ⟨g, 0, none⟩), .int .i64 (d : Int)] w (RepE w g q cap l D (.error 130)) := by
  have H := Lib.hid h
  have hg := h.lt
  have A0 : Hid (Ext w (w.alloc (.cells #[.int .i64 0, .int .i64 0, .string ⟨#[]⟩, .slice none 0 0] 41))) := Lib.hid ((Ext.refl w).alloc _)
  have hpi : ¬ (p : Int) < (l.length : Int) := by omega
  clear h
  go_enter Tryd.func50, Tryd.ntmps50
  go_wp2_with fail
  generalize w.alloc (.cells #[.int .i64 0, .int .i64 0, .string ⟨#[]⟩, .slice none 0 0] 41) = w0 at A0 ⊢
  refine (kinds_any w0 g d).mono ?_
  rintro e w1 ⟨M, tp, ts, rfl, hk⟩
  have HE := Lib.hid (A0.out.trans hk.ext)
  clear hk
  go_wp2_with fail
  refine (one_end _ _ _ _ _ _ _ _ (H.out.ext HE.out) (by omega)).mono ?_
  rintro e w' ⟨rfl, e1⟩
  go_wp2_with fail
  exact ⟨rfl, RepE.err rfl ⟨rfl, Only.of_ext (HE.out.trans e1)⟩⟩

/-! ### All signs -/
theorem reply_kind (w : World) (g : Nat) (q : Option Addr) (cap : Nat) (l : List UInt8) (d p t i : Nat) (h : InAt w g q cap l p t i) (hp : p < l.length) (ht : t ≤ 1048576) (hi : i ≤ 65536) (sub : Option (St → Except Int (Rep × St)))
    (h42 : l[p].toNat = 42 → Calls Tryd.prog 50 #[.pointer (some ⟨g, 0, none⟩), .int .i64 (d : Int)] w (RepE w g q cap l d (kindS l sub 42 ⟨p + 1, t, i⟩))) :
    Calls Tryd.prog 50 #[.pointer (some ⟨g, 0, none⟩), .int .i64 (d : Int)] w (RepE w g q cap l d (kindS l sub l[p].toNat ⟨p + 1, t, i⟩)) := by
  obtain ⟨c, hc⟩ : ∃ c, l[p].toNat = c := ⟨_, rfl⟩
  rw [hc] at h42 ⊢
  have hlt := h.lt
  by_cases h1 : c = 43
  · subst h1
    refine reply_with w g q cap l d p t i d h hp 43 hc 79 (fun B tp ts => #[.pointer (some ⟨tp, 0, none⟩)]) _ (fun _ _ => by kernel_rfl) (fun B tp ts => rfl) (fun W W1 W2 M tp ts hk hg o2 i2 => ?_)
    exact kind1_any W2 g tp q cap l d (p + 1) t i i2 (by omega) ht (hk.p.only o2 (by have := hk.hp; omega))
  · by_cases h2 : c = 45
    · subst h2
      refine reply_with w g q cap l d p t i d h hp 45 hc 80 (fun B tp ts => #[.pointer (some ⟨tp, 0, none⟩)]) _ (fun _ _ => by kernel_rfl) (fun B tp ts => rfl) (fun W W1 W2 M tp ts hk hg o2 i2 => ?_)
      exact kind2_any W2 g tp q cap l d (p + 1) t i i2 (by omega) ht (hk.p.only o2 (by have := hk.hp; omega))
    · by_cases h3 : c = 58
      · subst h3
        refine reply_with w g q cap l d p t i d h hp 58 hc 81 (fun B tp ts => #[.pointer (some ⟨ts, 0, none⟩)]) _ (fun _ _ => by kernel_rfl) (fun B tp ts => rfl) (fun W W1 W2 M tp ts hk hg o2 i2 => ?_)
        exact kind3_any W2 g ts q cap l d (p + 1) t i i2 (by omega) (hk.s.only o2 (by have := hk.hs; omega))
      · by_cases h4 : c = 36
        · subst h4
          refine reply_with w g q cap l d p t i d h hp 36 hc 82 (fun B tp ts => #[.pointer (some ⟨B, 0, none⟩)]) _ (fun _ _ => by kernel_rfl) (fun B tp ts => rfl) (fun W W1 W2 M tp ts hk hg o2 i2 => ?_)
          exact kind4_any W2 g _ q cap l d (p + 1) t i i2 (by omega) ht (hk.r.only o2 (by omega))
        · by_cases h5 : c = 42
          · subst h5
            exact h42 rfl
          · have e : kindS l sub c ⟨p + 1, t, i⟩ = .error 131 := by
              unfold kindS
              rw [if_neg h1, if_neg h2, if_neg h3, if_neg h4, if_neg h5]
            rw [e]
            exact reply_no w g q cap l d p t i d h hp c hc ⟨h1, h2, h3, h4, h5⟩
theorem reply_any (g : Nat) (q : Option Addr) (cap : Nat) (l : List UInt8) : ∀ (d : Nat), d ≤ 1000 → SubOk g q cap l d
  | 0, hd, w, p, t, i, h, hp, ht, hi => by
    have hlt := h.lt
    by_cases hpl : p < l.length
    · simp only [replyS, dif_pos hpl]
      refine reply_kind w g q cap l 0 p t i h hpl ht hi none (fun h42 => ?_)
      refine reply_with w g q cap l 0 p t i 0 h hpl 42 h42 83 (fun B tp ts => #[.pointer (some ⟨B + 1, 0, none⟩), .pointer (some ⟨B, 0, none⟩)]) _ (fun _ _ => by kernel_rfl) (fun B tp ts => rfl) (fun W W1 W2 M tp ts hk hg o2 i2 => ?_)
      exact kind5_zero W2 g _ q cap l 0 (hk.d.only o2 (by omega))
    · simp only [replyS, dif_neg hpl]
      exact reply_end w g q cap l 0 p t i 0 h hpl
  | d + 1, hd, w, p, t, i, h, hp, ht, hi => by
    have hlt := h.lt
    by_cases hpl : p < l.length
    · simp only [replyS, dif_pos hpl]
      refine reply_kind w g q cap l (d + 1) p t i h hpl ht hi (some (replyS l d)) (fun h42 => ?_)
      refine reply_with w g q cap l (d + 1) p t i (d + 1) h hpl 42 h42 83 (fun B tp ts => #[.pointer (some ⟨B + 1, 0, none⟩), .pointer (some ⟨B, 0, none⟩)]) _ (fun _ _ => by kernel_rfl) (fun B tp ts => rfl) (fun W W1 W2 M tp ts hk hg o2 i2 => ?_)
      exact kind5_any W2 g _ q cap l d (p + 1) t i i2 (by omega) ht hi (by omega) (hk.r.only o2 (by omega)) (hk.d.only o2 (by omega)) ⟨by omega, by omega⟩ (reply_any g q cap l d (by omega))
    · simp only [replyS, dif_neg hpl]
      exact reply_end w g q cap l (d + 1) p t i (d + 1) h hpl
end Go.Proofs.YtopdgmchkoaeeaaDoor
