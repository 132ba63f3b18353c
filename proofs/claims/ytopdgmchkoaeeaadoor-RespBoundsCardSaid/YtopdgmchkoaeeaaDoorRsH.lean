/- A request that is read: the walk of Parse. -/
import Derived.Test.YtopdgmchkoaeeaaDoorRsF
import Derived.Deep.RegionHeld3
import Derived.Deep.RegionWith
import Derived.Deep.DeepCutAuto
import Derived.Deep.DrawnRows
namespace Go.Proofs.YtopdgmchkoaeeaaDoor
open Go.RowKit
set_option linter.unusedVariables false
set_option linter.unusedSimpArgs false
attribute [local go_sem ↓] Go.wp_at_zero Go.wp_at_succ

theorem infoStr : (Tryd.prog.info? 9).map (fun i => (i.zero, i.size, i.bytes)) = some (some (.string ⟨#[]⟩), 1, 16) := by kernel_rfl

theorem cell_far {w : World} {b o b' o' : Nat} {v : Value} (h : ¬ b' = b) : (w.setCell ⟨b', o', none⟩ v).cell? ⟨b, o, none⟩ = w.cell? ⟨b, o, none⟩ :=
  World.cell?_setCell_other _ _ _ _ (fun e => h (congrArg Addr.block e))
theorem TextsFrom.from_le {base base' : Nat} {w : World} {v : Value} {ts : List ByteArray} (h : TextsFrom base w v ts) (hb : base' ≤ base) : TextsFrom base' w v ts := by
  obtain ⟨q, c, e, h⟩ := h
  exact ⟨q, c, e, fun hl => let ⟨b, e, hb', hx⟩ := h hl; ⟨b, e, Nat.le_trans hb hb', hx⟩⟩
theorem own_of_heap {w w' : World} {base : Nat} {e : TypeId} {s : Nat} {v : Value} {n : Nat} {xs : List Value} (h : w.ownsRow base e s v n xs) (hh : ∀ g, base ≤ g → g < w.heap.size → w'.heap[g]? = w.heap[g]?) : w'.ownsRow base e s v n xs := by
  obtain ⟨hl, h⟩ := h
  refine ⟨hl, ?_⟩
  rcases h with h | ⟨g, cap, cur, e1, hb, hc, h2⟩
  · exact .inl h
  · have hg : g < w.heap.size := by
      rcases Nat.lt_or_ge g w.heap.size with h | h
      · exact h
      · rw [Array.getElem?_eq_none h] at hc; cases hc
    exact .inr ⟨g, cap, cur, e1, hb, (hh g hb hg).trans hc, h2⟩
theorem own_only {w w' : World} {base g : Nat} {e : TypeId} {s : Nat} {v : Value} {n : Nat} {xs : List Value} (h : w.ownsRow base e s v n xs) (ho : Only g w w') (hg : g < base) : w'.ownsRow base e s v n xs :=
  own_of_heap h fun k hk hl => ho.block k hl (fun e => by have := Option.some.inj e; omega)
theorem own_ext {w w' : World} {base : Nat} {e : TypeId} {s : Nat} {v : Value} {n : Nat} {xs : List Value} (h : w.ownsRow base e s v n xs) (ho : Ext w w') : w'.ownsRow base e s v n xs :=
  own_of_heap h fun k hk hl => ho.block k hl
theorem own_set {w : World} {base g i : Nat} {u : Value} {e : TypeId} {s : Nat} {v : Value} {n : Nat} {xs : List Value} (h : w.ownsRow base e s v n xs) (hg : g < base) : (w.setCell ⟨g, i, none⟩ u).ownsRow base e s v n xs :=
  own_of_heap h fun k hk hl => Below.heap_setCell w _ u k (by show k ≠ g; omega)
theorem own_block {w : World} {base : Nat} {e : TypeId} {s : Nat} {v : Value} {n : Nat} {xs : List Value} (h : w.ownsRow base e s v n xs) : ∀ x, v.ownBlock = some x → base ≤ x := by
  intro x hx
  obtain ⟨_, ⟨rfl, _⟩ | ⟨g, cap, cur, rfl, hb, _⟩⟩ := h
  · cases hx
  · cases hx; exact hb
theorem Ext.grown {a b c : World} {row : Option Nat} (h : Ext a b) (hg : b.grownBy c row) (hr : ∀ x, row = some x → a.heap.size ≤ x) : Ext a c :=
  ⟨hg.os.trans h.os, hg.tape.trans h.tape, hg.output.trans h.output, Nat.le_trans h.size hg.size, fun k hk => (hg.block k (Nat.lt_of_lt_of_le hk h.size) (fun e => by have := hr k e.symm; omega)).trans (h.block k hk)⟩
theorem Blk.grown {w w' : World} {g : Nat} {t : TypeId} {cs : Array Value} {row : Option Nat} (h : Blk w g t cs) (hb : w.grownBy w' row) (hr : ∀ x, row = some x → ¬ g = x) : Blk w' g t cs :=
  (hb.block g h.lt (fun e => hr g e.symm rfl)).trans h
theorem map_two (b : Except Int (List ByteArray × Nat)) (s : ByteArray) (ts : List ByteArray) : (b.map (fun x => (s :: x.1, x.2))).map (fun x => (ts ++ x.1, x.2)) = b.map (fun x => ((ts ++ [s]) ++ x.1, x.2)) := by
  cases b <;> simp [Except.map]
/-- Where Parse stands at the head of its loop. -/
structure PAt (w wr : World) (B : Nat) (q : Option Addr) (cap : Nat) (l : List UInt8) (N k : Nat) (v : Value) (ts : List ByteArray) (p t : Nat) (r : Except Int (List ByteArray × Nat)) : Prop where
  ext : Ext w wr
  inn : InAt wr (B + 1 + 1 + 1) q cap l p t 0
  fac : Faces wr B v 0 0
  own : wr.ownsRow (B + 1 + 1 + 1 + 1) 9 1 v k (ts.map Value.string)
  base : B + 1 + 1 + 1 + 1 ≤ wr.heap.size
  low : w.heap.size = B
  len : ts.length = k
  pl : p ≤ l.length
  tl : t ≤ 1048576
  spec : r = (bulksS l (N - k) t p).map (fun x => (ts ++ x.1, x.2))

set_option maxRecDepth 100000 in
set_option maxHeartbeats 4000000 in
theorem parse_any (w : World) (q : Option Addr) (cap : Nat) (l : List UInt8) (h : BytesAt w q cap l) :
    Calls Tryd.prog 18 #[.slice q l.length cap] w (ParseE w (parseS l)) := by
  have H := Lib.hid h
  obtain ⟨r, hr⟩ : ∃ r, parseS l = r := ⟨_, rfl⟩
  rw [hr]
  unfold parseS at hr
  have HR := Lib.hid hr
  have hmf : ∀ (fn : Fn) (first cap : Array Value) (w : World), (Instr.makeFunc fn first cap).run Tryd.prog w = .ok (.func fn first cap) w := fun _ _ _ _ => rfl
  obtain ⟨B, hB⟩ : ∃ B, w.heap.size = B := ⟨_, rfl⟩
  have HB := Lib.hid hB
  have HE := Lib.hid (((((Ext.refl w).alloc (.cells #[.slice none 0 0] 22)).alloc (.cells #[.int .i64 0] 3)).alloc (.cells #[.int .i64 0] 26)).alloc (.cells #[.slice q l.length cap, .int .i64 0, .int .i64 1048576, .int .i64 0] 85))
  have HF : Hid (Faces ((((w.alloc (.cells #[.slice none 0 0] 22)).alloc (.cells #[.int .i64 0] 3)).alloc (.cells #[.int .i64 0] 26)).alloc (.cells #[.slice q l.length cap, .int .i64 0, .int .i64 1048576, .int .i64 0] 85)) w.heap.size (.slice none 0 0) 0 0) :=
    Lib.hid ⟨(((Blk.new w _ _).alloc _).alloc _).alloc _, by
      have h1 : Blk ((w.alloc (.cells #[.slice none 0 0] 22)).alloc (.cells #[.int .i64 0] 3)) (w.heap.size + 1) 3 #[.int .i64 0] := by
        have := Blk.new (w.alloc (.cells #[.slice none 0 0] 22)) 3 #[.int .i64 0]
        rwa [size_alloc] at this
      exact (h1.alloc _).alloc _, by
      have h1 : Blk (((w.alloc (.cells #[.slice none 0 0] 22)).alloc (.cells #[.int .i64 0] 3)).alloc (.cells #[.int .i64 0] 26)) (w.heap.size + 1 + 1) 26 #[.int .i64 0] := by
        have := Blk.new ((w.alloc (.cells #[.slice none 0 0] 22)).alloc (.cells #[.int .i64 0] 3)) 26 #[.int .i64 0]
        rwa [size_alloc, size_alloc] at this
      exact h1.alloc _⟩
  have HI : Hid (InAt ((((w.alloc (.cells #[.slice none 0 0] 22)).alloc (.cells #[.int .i64 0] 3)).alloc (.cells #[.int .i64 0] 26)).alloc (.cells #[.slice q l.length cap, .int .i64 0, .int .i64 1048576, .int .i64 0] 85)) (w.heap.size + 1 + 1 + 1) q cap l ((0 : Nat) : Int) 1048576 0) :=
    Lib.hid (H.out.reader HE.out (by omega) (by
      have := Blk.new (((w.alloc (.cells #[.slice none 0 0] 22)).alloc (.cells #[.int .i64 0] 3)).alloc (.cells #[.int .i64 0] 26)) 85 #[.slice q l.length cap, .int .i64 0, .int .i64 1048576, .int .i64 0]
      rwa [size_alloc, size_alloc, size_alloc] at this))
  have HS : Hid (((((w.alloc (.cells #[.slice none 0 0] 22)).alloc (.cells #[.int .i64 0] 3)).alloc (.cells #[.int .i64 0] 26)).alloc (.cells #[.slice q l.length cap, .int .i64 0, .int .i64 1048576, .int .i64 0] 85)).heap.size = w.heap.size + 1 + 1 + 1 + 1) := Lib.hid (by rw [size_alloc, size_alloc, size_alloc, size_alloc])
  clear h hr hB
  go_enter_defers Tryd.func18, Tryd.ntmps18
  go_wp2_with fail
  have cS := skip_any ⟨#[42]⟩ _ _ _ _ _ _ _ _ HI.out (by decide)
  generalize (((w.alloc (.cells #[.slice none 0 0] 22)).alloc (.cells #[.int .i64 0] 3)).alloc (.cells #[.int .i64 0] 26)).alloc (.cells #[.slice q l.length cap, .int .i64 0, .int .i64 1048576, .int .i64 0] 85) = w0 at HE HF HI HS cS ⊢
  have HB' := HB.out
  rw [HB'] at HF HI HS cS
  rw [HB']
  clear HB'
  refine cS.mono ?_
  clear cS HI
  intro e w1 hs
  have hs' : SkipE _ (B + 1 + 1 + 1) q cap l 1048576 0 (skipS l [42] 0) e w1 := hs
  have S := HR.out
  obtain ⟨sr, hsr⟩ : ∃ sr, skipS l [42] 0 = sr := ⟨_, rfl⟩
  rw [hsr] at S hs'
  have HP := Lib.hid hsr
  clear hs HR hsr
  cases sr with
  | error x =>
    obtain ⟨rfl, o2⟩ := hs'
    have hx := skip_err _ _ _ HP.out
    have F1 := HF.out.only o2 (by omega)
    have E1 := (Only.to_ext o2 HE.out (by have := HB.out; omega))
    go_wp2_with fail
    exact parse_door w w1 B _ _ _ 0 x (by omega) F1 E1 (by have := HB.out; omega) _ (fun w'' h'' => ParseE.err S.symm rfl h'') _ _ _ _ _ _ _ _ _ _ _ _ _ _ _ _ _ _ _ _ _ _ _ _ _ _
  | ok p1 =>
    obtain ⟨rfl, i2, o2⟩ := hs'
    have hp1 := skip_pos _ _ _ (by omega) HP.out
    have HI1 := Lib.hid i2
    have HF1 := Lib.hid (HF.out.only o2 (by omega))
    have HE1 := Lib.hid (Only.to_ext o2 HE.out (by have := HB.out; omega))
    have HS1 : Hid (B + 1 + 1 + 1 + 1 ≤ w1.heap.size) := Lib.hid (by have h1 := o2.le; have h2 := HS.out; omega)
    have HR := Lib.hid S
    clear i2 o2 S HF HE HS HP
    go_wp2_with fail
    refine (number_any 1 65536 _ _ _ _ _ _ _ _ HI1.out (by omega) (by omega)).mono ?_
    intro e w2 hs
    have hs' : NumE w1 (B + 1 + 1 + 1) q cap l 1048576 0 (numS l 1 65536 (l.length - p1) 0 0 p1) e w2 := hs
    have S := HR.out
    obtain ⟨sr, hsr⟩ : ∃ sr, numS l 1 65536 (l.length - p1) 0 0 p1 = sr := ⟨_, rfl⟩
    simp only [hsr] at S hs'
    have HP := Lib.hid hsr
    clear hs HR hsr
    cases sr with
    | error x =>
      obtain ⟨rfl, o2⟩ := hs'
      have hx := num_err _ _ _ _ _ HP.out
      have F1 := HF1.out.only o2 (by omega)
      have E1 := (Only.to_ext o2 HE1.out (by have := HB.out; omega))
      go_wp2_with fail
      exact parse_door w w2 B _ _ _ 0 x (by omega) F1 E1 (by have := HB.out; omega) _ (fun w'' h'' => ParseE.err S.symm rfl h'') _ _ _ _ _ _ _ _ _ _ _ _ _ _ _ _ _ _ _ _ _ _ _ _ _ _
    | ok x =>
      obtain ⟨rfl, i2, o2⟩ := hs'
      have hx := num_pos _ _ _ _ _ hp1.2 (by omega) HP.out
      obtain ⟨N, p2⟩ := x
      have hN : N ≤ 65536 := hx.1
      have hp2 : p2 ≤ l.length := hx.2.2
      have S' : bulksS l N 1048576 p2 = r := S
      have HQ : Hid (PAt w w2 B q cap l N 0 (.slice none 0 0) [] p2 1048576 r) := Lib.hid
        ⟨Only.to_ext o2 HE1.out (by have := HB.out; omega), i2, HF1.out.only o2 (by omega), ⟨rfl, .inl ⟨rfl, rfl⟩⟩, Nat.le_trans HS1.out o2.le, HB.out, rfl, hp2, by omega, by
          rw [← S']
          cases bulksS l N 1048576 p2 <;> simp [Except.map]⟩
      clear i2 o2 hx S S' HP HI1 HF1 HE1 HS1 hp2 hp1
      go_wp2_with fail
      go_loopw [14] (fun s14 wr => ∃ k : Nat, s14 = .int .u64 k ∧ k ≤ N ∧ Hid (∃ v ts p t, PAt w wr B q cap l N k v ts p t r)) (fun s14 _ => N - (intOf s14).toNat)
      case atStart => exact ⟨0, rfl, Nat.zero_le _, Lib.hid ⟨_, _, _, _, HQ.out⟩⟩
      case round =>
        obtain ⟨k, rfl, hk, HX⟩ := hrel
        obtain ⟨v, ts, p, t, hP⟩ := HX.out
        have HP := Lib.hid hP
        clear HQ HX hP
        by_cases hlt : k < N
        · have S := HP.out.spec
          rw [show N - k = (N - (k + 1)) + 1 by omega] at S
          simp only [bulksS] at S
          have HR := Lib.hid S
          clear S
          have hp := HP.out.pl
          have ht := HP.out.tl
          go_wp2_with fail
          refine (skip_any ⟨#[36]⟩ _ _ _ _ _ _ _ _ HP.out.inn (by decide)).mono ?_
          intro e w3 hs
          have hs' : SkipE wr (B + 1 + 1 + 1) q cap l t 0 (skipS l [36] p) e w3 := hs
          have S := HR.out
          obtain ⟨sr, hsr⟩ : ∃ sr, skipS l [36] p = sr := ⟨_, rfl⟩
          simp only [hsr] at S hs'
          have HK := Lib.hid hsr
          clear hs HR hsr
          cases sr with
          | error x =>
            obtain ⟨rfl, o2⟩ := hs'
            have hx := skip_err _ _ _ HK.out
            have F1 := HP.out.fac.only o2 (by omega)
            have E1 := (Only.to_ext o2 HP.out.ext (by have := HB.out; omega))
            have hT := texts_of_row HP.out.own
            obtain ⟨q', c', hv⟩ : ∃ q' c', v = .slice q' ts.length c' := ⟨_, _, hT.choose_spec.choose_spec.1⟩
            subst hv
            go_wp2_with fail
            exact parse_door w w3 B _ _ _ 0 x (by omega) F1 E1 (by have := HB.out; omega) _ (fun w'' h'' => ParseE.err S rfl h'') _ _ _ _ _ _ _ _ _ _ _ _ _ _ _ _ _ _ _ _ _ _ _ _ _ _
          | ok p3 =>
            obtain ⟨rfl, i2, o2⟩ := hs'
            have hp3 := skip_pos _ _ _ hp HK.out
            go_wp2_with fail
            have E3 := Lib.hid (Only.to_ext o2 HP.out.ext (by have := HB.out; omega))
            have F3 := Lib.hid (HP.out.fac.only o2 (by omega))
            have I3 := Lib.hid i2
            have O3 := Lib.hid o2
            have b0 := F3.out.l.cell 0
            simp only [List.getElem?_toArray, List.getElem?_cons_zero, List.getElem?_cons_succ] at b0
            have cB := fun W (hE : Ext w3 W) => bulk_any W (B + 1 + 1 + 1) q cap l p3 t 0 (i2.ext hE) hp3.2 ht
            obtain ⟨br, hbr⟩ : ∃ br, bulkS l t p3 = br := ⟨_, rfl⟩
            simp only [hbr] at S cB
            have HK3 := Lib.hid hbr
            clear hbr i2 o2
            cases br with
            | error x =>
              have hx := bulk_err HK3.out
              have hT := texts_of_row HP.out.own
              obtain ⟨q', c', hv⟩ : ∃ q' c', v = .slice q' ts.length c' := ⟨_, _, hT.choose_spec.choose_spec.1⟩
              subst hv
              have D : ∀ w', Only (B + 1 + 1 + 1) w3.drew w' → Ext w w' ∧ Faces w' B (.slice q' ts.length c') 0 0 := fun w' o4 =>
                ⟨Only.to_ext o4 E3.out.drew (by have := HB.out; omega), (F3.out.ext (Ext.refl _).drew).only o4 (by omega)⟩
              have PD := fun w' (o4 : Only (B + 1 + 1 + 1) w3.drew w') => parse_door w w' B _ _ _ 0 x (by omega) (D w' o4).2 (D w' o4).1 (by have := HB.out; omega) (ParseE w r) (fun w'' h'' => ParseE.err S rfl h'')
              refine wp_region_any (by kernel_rfl) ?_
              change wpAny _ _ _ _ _ _ _ (World.drew _)
              refine wpAny_ready (rs := [0, 1]) (by kernel_rfl) (by simp) ?_
              refine AllReady.cons rfl (fun K hK => ?_) ?_
              · go_simp
                refine hK _ _ ?_
                clear hK K
                refine wpAny_ready (rs := [1]) (by kernel_rfl) (by simp) ?_
                refine AllReady.cons rfl (fun K hK => ?_) ?_
                · go_simp
                  refine hK _ _ ?_
                  clear hK K
                  refine wpAny_ready (rs := [2]) (by kernel_rfl) (by simp) ?_
                  refine AllReady.cons rfl (fun K hK => ?_) ?_
                  · go_simp
                    refine (cB _ (Ext.refl _).drew).mono ?_
                    rintro e w' ⟨rfl, o4⟩
                    go_simp
                    exact PD w' o4 _ _ _ _ _ _ _ _ _ _ _ _ _ _ _ _ _ _ _ _ _ _ _ _ _ _
                  · skip
                    exact AllReady.nil
                · skip
                  exact AllReady.nil
              · skip
                refine AllReady.cons rfl (fun K hK => ?_) ?_
                · go_simp
                  refine hK _ _ ?_
                  clear hK K
                  refine wpAny_ready (rs := [0, 2]) (by kernel_rfl) (by simp) ?_
                  refine AllReady.cons rfl (fun K hK => ?_) ?_
                  · go_simp
                    refine hK _ _ ?_
                    clear hK K
                    refine wpAny_ready (rs := [2]) (by kernel_rfl) (by simp) ?_
                    refine AllReady.cons rfl (fun K hK => ?_) ?_
                    · go_simp
                      refine (cB _ (Ext.refl _).drew).mono ?_
                      rintro e w' ⟨rfl, o4⟩
                      go_simp
                      exact PD w' o4 _ _ _ _ _ _ _ _ _ _ _ _ _ _ _ _ _ _ _ _ _ _ _ _ _ _
                    · skip
                      exact AllReady.nil
                  · skip
                    refine AllReady.cons rfl (fun K hK => ?_) ?_
                    · go_simp
                      refine (cB _ (Ext.refl _).drew).mono ?_
                      rintro e w' ⟨rfl, o4⟩
                      go_simp
                      exact PD w' o4 _ _ _ _ _ _ _ _ _ _ _ _ _ _ _ _ _ _ _ _ _ _ _ _ _ _
                    · skip
                      exact AllReady.nil
                · skip
                  exact AllReady.nil
            | ok y =>
              have HR := Lib.hid S
              clear S
              have hy := bulk_pos hp3.2 HK3.out
              have hrow := own_block HP.out.own
              obtain ⟨i0, hi0, hz0, hz1, hz2⟩ := info_parts infoStr
              have zB := F3.out.l.frozen 0
              have hBl := F3.out.l.lt
              have OW3 := Lib.hid (own_only HP.out.own O3.out (by omega))
              refine wp_calm ?_
              go_region_law (first
                  | ((go_simp; go_at_call 45; refine (cB _ (Ext.refl _).drew).mono ?_; rintro e w4 ⟨rfl, i4, o4⟩; have OW4 := Lib.hid (own_only (own_ext OW3.out (Ext.refl _).drew) o4 (by omega)); have I4 := Lib.hid i4; have O4 := Lib.hid o4; have hs4 : B < w4.heap.size := Nat.lt_of_lt_of_le hBl o4.le; have hb4 : B + 1 + 1 + 1 + 1 ≤ w4.heap.size := Nat.le_trans HP.out.base (Nat.le_trans O3.out.le o4.le); have b4 : w4.cell? ⟨B, 0, none⟩ = some v := o4.cell (by omega) b0; have z4 : w4.frozen? ⟨B, 0, none⟩ = false := (o4.cells.2 _ _ hBl (by omega)).trans zB; clear i4 o4; go_simp))
                  | ((refine step_append_lies _ (by rfl) _ _ _ (by rfl) (B + 1 + 1 + 1 + 1) 9 i0 _ 1 16 Tryd.underlying22 hi0 hz0 hz1 hz2 rfl (by omega) v k (ts.map Value.string) (by rfl) (own_ext OW4.out ((Ext.refl _).alloc _)) ⟨w4.heap.size, 0, none⟩ 1 1 [.string y.1] (by rfl) (by rfl) (World.news_of_block (cs := #[.string y.1]) (t := 9) (fr := (0, 0)) (heap_alloc_new w4 _)) (by simp [Value.oneCell']) (by omega) (by unfold maxLen; omega) (by omega) (by rw [size_alloc]; omega) (w4.heap.size + 1) (by simp) ?_; intro gg gcap w5 hown1 hgrow hat hlt; have b5 : w5.cell? ⟨B, 0, none⟩ = some v := (hgrow.cell_far _ (by simp; omega) (fun e => by have := hrow _ e.symm; simp at this; omega)).trans (Ext.cell ((Ext.refl _).alloc _) b4); have z5 : w5.frozen? ⟨B, 0, none⟩ = false := (hgrow.frozen_far _ (by simp; omega) (fun e => by have := hrow _ e.symm; simp at this; omega)).trans (((Ext.cells ((Ext.refl _).alloc _)).2 _ _ hs4).trans z4); have OW5 := Lib.hid hown1; have G5 := Lib.hid hgrow; clear hown1 hgrow hat hlt)))
              all_goals
                refine calm_normal ?_
                go_wp2_with fail
                have hBw := HB.out
                have X5 : Ext w w5 := (Ext.alloc (Only.to_ext O4.out E3.out.drew (by omega)) _).grown G5.out (fun x hx => by have := hrow x hx; omega)
                have X6 : Ext w (w5.setCell ⟨B, 0, none⟩ (.slice (some ⟨gg, 0, none⟩) (k + 1) gcap)) := X5.setCell (by show w.heap.size ≤ B; omega) _
                have F4 : Faces w4 B v 0 0 := (F3.out.ext (Ext.refl _).drew).only O4.out (by omega)
                have F5n : Blk w5 (B + 1) 3 #[.int .i64 0] := (F4.n.alloc _).grown G5.out (fun x hx => by have := hrow x hx; omega)
                have F5e : Blk w5 (B + 1 + 1) 26 #[.int .i64 0] := (F4.e.alloc _).grown G5.out (fun x hx => by have := hrow x hx; omega)
                have F5l : Blk w5 B 22 #[v] := (F4.l.alloc _).grown G5.out (fun x hx => by have := hrow x hx; omega)
                have I5 : Blk w5 (B + 1 + 1 + 1) 85 #[.slice q l.length cap, .int .i64 (y.2 : Int), .int .i64 ((t : Int) - (y.1.size : Int)), .int .i64 0] := (I4.out.blk.alloc _).grown G5.out (fun x hx => by have := hrow x hx; omega)
                have hT : ((t - y.1.size : Nat) : Int) = (t : Int) - (y.1.size : Int) := by omega
                have S := HR.out
                have NX : PAt w (w5.setCell ⟨B, 0, none⟩ (.slice (some ⟨gg, 0, none⟩) (k + 1) gcap)) B q cap l N (k + 1) (.slice (some ⟨gg, 0, none⟩) (k + 1) gcap) (ts ++ [y.1]) y.2 (t - y.1.size) r :=
                  ⟨X6, H.out.reader X6 (by omega) (by rw [hT]; exact I5.far (by show ¬ B + 1 + 1 + 1 = B; omega) _),
                    ⟨by simpa using F5l.set_ 0 (.slice (some ⟨gg, 0, none⟩) (k + 1) gcap), F5n.far (by show ¬ B + 1 = B; omega) _, F5e.far (by show ¬ B + 1 + 1 = B; omega) _⟩,
                    own_set (by have h5 := OW5.out; simp only [List.map_append, List.map_cons, List.map_nil]; exact h5) (by omega), by
                      have h1 := G5.out.size
                      rw [size_alloc] at h1
                      have : (w5.setCell ⟨B, 0, none⟩ (.slice (some ⟨gg, 0, none⟩) (k + 1) gcap)).heap.size = w5.heap.size := World.size_setCell _ _ _
                      omega, hBw, by simp [HP.out.len], hy.2.2, by omega, by
                      rw [S]
                      exact map_two _ _ _⟩
                clear X5 X6 F4 F5n F5e F5l I5 hT S hBw
                have NY := Lib.hid NX
                clear NX
                go_roundw
                case rel => exact ⟨k + 1, by go_num, by omega, Lib.hid ⟨_, _, _, _, NY.out⟩⟩
                case measure => simp [intOf]; omega
        · obtain rfl : k = N := by omega
          have S := HP.out.spec
          rw [Nat.sub_self] at S
          simp only [bulksS, Except.map, List.append_nil] at S
          have HR := Lib.hid S
          have b0 := HP.out.fac.l.cell 0
          have b1 := HP.out.inn.blk.cell 1
          have b2 := HP.out.fac.n.cell 0
          have b3 := HP.out.fac.e.cell 0
          simp only [List.getElem?_toArray, List.getElem?_cons_zero, List.getElem?_cons_succ] at b0 b1 b2 b3
          have z0 := HP.out.fac.l.frozen 0
          have z2 := HP.out.fac.n.frozen 0
          have z3 := HP.out.fac.e.frozen 0
          have hT := texts_of_row HP.out.own
          obtain ⟨q', c', hv⟩ : ∃ q' c', v = .slice q' ts.length c' := ⟨_, _, hT.choose_spec.choose_spec.1⟩
          have HT := Lib.hid hT
          have HV := Lib.hid hv
          subst hv
          clear S hT
          clear HV
          go_wp2_with fail
          go_region
          go_wp2_with fail
          have hB := HB.out
          have FL : Blk ((((wr.setCell ⟨B, 0, none⟩ (.slice q' ts.length c')).setCell ⟨B + 1, 0, none⟩ (.int .i64 (p : Int))).setCell ⟨B + 1 + 1, 0, none⟩ (.int .i64 0)).drew) B 22 #[.slice q' ts.length c'] :=
            ((Blk.far (by simpa using HP.out.fac.l.set_ 0 (.slice q' ts.length c')) (by show ¬ B = B + 1; omega) _).far (by show ¬ B = B + 1 + 1; omega) _).drew
          have FN : Blk ((((wr.setCell ⟨B, 0, none⟩ (.slice q' ts.length c')).setCell ⟨B + 1, 0, none⟩ (.int .i64 (p : Int))).setCell ⟨B + 1 + 1, 0, none⟩ (.int .i64 0)).drew) (B + 1) 3 #[.int .i64 (p : Int)] :=
            (Blk.far (by simpa using (HP.out.fac.n.far (p := ⟨B, 0, none⟩) (by show ¬ B + 1 = B; omega) (.slice q' ts.length c')).set_ 0 (.int .i64 (p : Int))) (by show ¬ B + 1 = B + 1 + 1; omega) _).drew
          have FE : Blk ((((wr.setCell ⟨B, 0, none⟩ (.slice q' ts.length c')).setCell ⟨B + 1, 0, none⟩ (.int .i64 (p : Int))).setCell ⟨B + 1 + 1, 0, none⟩ (.int .i64 0)).drew) (B + 1 + 1) 26 #[.int .i64 0] := by
            simpa using (((HP.out.fac.e.far (p := ⟨B, 0, none⟩) (by show ¬ B + 1 + 1 = B; omega) (.slice q' ts.length c')).far (p := ⟨B + 1, 0, none⟩) (by show ¬ B + 1 + 1 = B + 1; omega) (.int .i64 (p : Int))).set_ 0 (.int .i64 0)).drew
          have EX : Ext w ((((wr.setCell ⟨B, 0, none⟩ (.slice q' ts.length c')).setCell ⟨B + 1, 0, none⟩ (.int .i64 (p : Int))).setCell ⟨B + 1 + 1, 0, none⟩ (.int .i64 0)).drew) :=
            (((HP.out.ext.setCell (by show w.heap.size ≤ B; omega) _).setCell (by show w.heap.size ≤ B + 1; omega) _).setCell (by show w.heap.size ≤ B + 1 + 1; omega) _).drew
          refine parse_done _ B _ (p : Int) ⟨FL, FN, FE⟩ ⟨_, _, _, rfl⟩ _ (ParseE.ok HR.out ⟨_, rfl, ?_, EX⟩) _ _ _ _ _ _ _ _ _ _ _ _ _ _ _ _ _ _ _ _ _ _ _ _ _ _
          refine (HT.out.low fun b o x hb hx => ?_ : TextsFrom (B + 1 + 1 + 1 + 1) _ _ _).from_le (by omega)
          rw [World.cell?_drew, cell_far (by omega), cell_far (by omega), cell_far (by omega)]
          exact hx
end Go.Proofs.YtopdgmchkoaeeaaDoor
