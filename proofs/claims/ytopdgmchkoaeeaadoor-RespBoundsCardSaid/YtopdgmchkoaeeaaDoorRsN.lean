/- A list of replies: the walk of kinds$5. -/
import Derived.Test.YtopdgmchkoaeeaaDoorRsM
import Derived.Deep.AppendLies
import Derived.Deep.RegionLaw
import Derived.Deep.RegionWith
namespace Go.Proofs.YtopdgmchkoaeeaaDoor
open Go.RowKit
set_option linter.unusedVariables false
set_option linter.unusedSimpArgs false
attribute [local go_sem ↓] Go.wp_at_zero Go.wp_at_succ

set_option maxRecDepth 100000 in
theorem kind5_zero (w : World) (g B : Nat) (q : Option Addr) (cap : Nat) (l : List UInt8) (d : Nat)
    (hd : Blk w (B + 1) 3 #[.int .i64 0]) :
    Calls Tryd.prog 83 #[.pointer (some ⟨B + 1, 0, none⟩), .pointer (some ⟨B, 0, none⟩)] w (RepE w g q cap l d (.error 131)) := by
  have c1 := hd.cell 0
  simp only [List.getElem?_toArray, List.getElem?_cons_zero, List.getElem?_cons_succ] at c1
  have hlt := hd.lt
  have hne : ¬ B + 1 = w.heap.size := by omega
  clear hd
  go_enter Tryd.func83, Tryd.ntmps83
  go_wp2_with fail
  refine (must_no _ _).mono ?_
  rintro e w' ⟨rfl, rfl⟩
  go_wp2_with fail
  exact ⟨rfl, RepE.err rfl ⟨rfl, (Only.refl g w).alloc _⟩⟩

/-- Replies of no more than so many lists in one another are read. -/
def SubOk (g : Nat) (q : Option Addr) (cap : Nat) (l : List UInt8) (d : Nat) : Prop :=
  ∀ (W : World) (p t i : Nat), InAt W g q cap l p t i → p ≤ l.length → t ≤ 1048576 → i ≤ 65536 → Calls Tryd.prog 50 #[.pointer (some ⟨g, 0, none⟩), .int .i64 (d : Int)] W (RepE W g q cap l d (replyS l d ⟨p, t, i⟩))

set_option maxRecDepth 100000 in
set_option maxHeartbeats 4000000 in
theorem kind5_any (w : World) (g B : Nat) (q : Option Addr) (cap : Nat) (l : List UInt8) (d p t i : Nat) (h : InAt w g q cap l p t i) (hp : p ≤ l.length) (ht : t ≤ 1048576) (hi : i ≤ 65536) (hdd : d ≤ 1000)
    (hb : Blk w B 83 #[.pointer (some ⟨g, 0, none⟩)]) (hd : Blk w (B + 1) 3 #[.int .i64 ((d + 1 : Nat) : Int)]) (hBg : ¬ B = g ∧ ¬ B + 1 = g) (hsub : SubOk g q cap l d) :
    Calls Tryd.prog 83 #[.pointer (some ⟨B + 1, 0, none⟩), .pointer (some ⟨B, 0, none⟩)] w (RepE w g q cap l (d + 1) (listS l (replyS l d) ⟨p, t, i⟩)) := by
  obtain ⟨r, hr⟩ : ∃ r, listS l (replyS l d) ⟨p, t, i⟩ = r := ⟨_, rfl⟩
  rw [hr]
  unfold listS at hr
  have HR := Lib.hid hr
  have H := Lib.hid h
  have HSUB := Lib.hid hsub
  have c0 := hb.cell 0
  have c1 := hd.cell 0
  have d3 := h.blk.cell 3
  simp only [List.getElem?_toArray, List.getElem?_cons_zero, List.getElem?_cons_succ] at c0 c1 d3
  have HC0 := Lib.hid c0
  have HC1 := Lib.hid c1
  have hlt := hb.lt
  have hlt1 := hd.lt
  have hg := h.lt
  have hne : ¬ B = w.heap.size := by omega
  have hne1 : ¬ B + 1 = w.heap.size := by omega
  have hdpos : decide ((0 : Int) < ((d + 1 : Nat) : Int)) = true := by simp
  have hwi : IntKind.u64.wrap (i : Int) = (i : Int) := IntWalk.u64_in _ (by omega)
  have E0 : Hid (Ext w ((w.alloc (.cells #[.int .i64 0, .int .i64 0, .string ⟨#[]⟩, .slice none 0 0] 41)).alloc (.cells #[.int .i64 5, .int .i64 0, .string ⟨#[]⟩, .slice none 0 0] 41))) := Lib.hid (((Ext.refl w).alloc _).alloc _)
  have R0 : Hid (Blk ((w.alloc (.cells #[.int .i64 0, .int .i64 0, .string ⟨#[]⟩, .slice none 0 0] 41)).alloc (.cells #[.int .i64 5, .int .i64 0, .string ⟨#[]⟩, .slice none 0 0] 41)) w.heap.size 41 #[.int .i64 0, .int .i64 0, .string ⟨#[]⟩, .slice none 0 0]) := Lib.hid ((Blk.new w _ _).alloc _)
  have X0 : Hid (Blk ((w.alloc (.cells #[.int .i64 0, .int .i64 0, .string ⟨#[]⟩, .slice none 0 0] 41)).alloc (.cells #[.int .i64 5, .int .i64 0, .string ⟨#[]⟩, .slice none 0 0] 41)) (w.heap.size + 1) 41 #[.int .i64 5, .int .i64 0, .string ⟨#[]⟩, .slice none 0 0]) := Lib.hid (by
    have := Blk.new (w.alloc (.cells #[.int .i64 0, .int .i64 0, .string ⟨#[]⟩, .slice none 0 0] 41)) 41 #[.int .i64 5, .int .i64 0, .string ⟨#[]⟩, .slice none 0 0]
    rwa [size_alloc] at this)
  have S0 : Hid (w.heap.size + 2 ≤ ((w.alloc (.cells #[.int .i64 0, .int .i64 0, .string ⟨#[]⟩, .slice none 0 0] 41)).alloc (.cells #[.int .i64 5, .int .i64 0, .string ⟨#[]⟩, .slice none 0 0] 41)).heap.size) := Lib.hid (by rw [size_alloc, size_alloc]; omega)
  clear hr h hb hd hsub
  go_enter Tryd.func83, Tryd.ntmps83
  go_wp2_with fail
  refine (must_yes _ _).mono ?_
  rintro e w' ⟨rfl, rfl⟩
  go_wp2_with fail
  generalize (w.alloc (.cells #[.int .i64 0, .int .i64 0, .string ⟨#[]⟩, .slice none 0 0] 41)).alloc (.cells #[.int .i64 5, .int .i64 0, .string ⟨#[]⟩, .slice none 0 0] 41) = w0 at E0 R0 X0 S0 ⊢
  replace c0 := E0.out.cell c0
  replace d3 := E0.out.cell d3
  clear c1
  go_still_tail 6, (by kernel_rfl)
  change wpList _ _ _ _ _ w0.drew
  generalize hw2 : w0.drew = w1
  have E1 := Lib.hid (E0.out.trans (hw2 ▸ (Ext.refl w0).drew : Ext w0 w1))
  have R1 := Lib.hid (R0.out.ext (hw2 ▸ (Ext.refl w0).drew : Ext w0 w1))
  have X1 := Lib.hid (X0.out.ext (hw2 ▸ (Ext.refl w0).drew : Ext w0 w1))
  have S1 := Lib.hid (Nat.le_trans S0.out (hw2 ▸ (Ext.refl w0).drew : Ext w0 w1).le)
  clear hw2 E0 R0 X0 S0 c0 d3
  go_wp2_with fail
  refine (number_any 0 i _ _ _ _ _ _ _ _ (H.out.ext E1.out) (by omega) (by omega)).mono ?_
  intro e w2 hs
  have S := HR.out
  have hs' : NumE w1 g q cap l t i (numS l 0 i (l.length - p) 0 0 p) e w2 := hs
  obtain ⟨sr, hsr⟩ : ∃ sr, numS l 0 i (l.length - p) 0 0 p = sr := ⟨_, rfl⟩
  simp only [hsr] at S hs'
  have HN := Lib.hid hsr
  clear hs HR hsr
  cases sr with
  | error x =>
    obtain ⟨rfl, o2⟩ := hs'
    go_wp2_with fail
    exact ⟨rfl, RepE.err S.symm ⟨rfl, (Only.of_ext E1.out).trans o2⟩⟩
  | ok x =>
    obtain ⟨rfl, i2, o2⟩ := hs'
    have hx := num_pos _ _ _ _ _ hp (by omega) HN.out
    obtain ⟨N, p2⟩ := x
    have hN : N ≤ i := hx.1
    have hp2 : p2 ≤ l.length := hx.2.2
    have S' : (repsS (replyS l d) N ⟨p2, t, i - N⟩).map (fun x => (Rep.mk 5 0 ⟨#[]⟩ x.1, x.2)) = r := S
    have d3 : w2.cell? ⟨g, 3, none⟩ = some (.int .i64 (i : Int)) := by
      have := i2.blk.cell 3
      simpa using this
    have dz := i2.blk.frozen 3
    have c0 := o2.cell (by omega) (E1.out.cell HC0.out)
    have hwN : IntKind.i64.wrap (N : Int) = (N : Int) := IntWalk.i64_in _ (by omega)
    have hwS : IntKind.i64.wrap ((i : Int) - (N : Int)) = (i : Int) - (N : Int) := IntWalk.i64_in _ (by omega)
    have hT : ((i - N : Nat) : Int) = (i : Int) - (N : Int) := by omega
    have O3 : Only g w (w2.setCell ⟨g, 3, none⟩ (.int .i64 ((i : Int) - (N : Int)))) := ((Only.of_ext E1.out).trans o2).set 3 _
    have HL : Hid (LsAt w (w2.setCell ⟨g, 3, none⟩ (.int .i64 ((i : Int) - (N : Int)))) g q cap l d N 0 (.slice none 0 0) [] ⟨p2, t, i - N⟩ r) := Lib.hid
      ⟨O3, H.out.put O3 (by
          have := i2.blk.set_ 3 (.int .i64 ((i : Int) - (N : Int)))
          simp only [hT]
          simpa using this), (R1.out.only o2 (by omega)).far (by show w.heap.size ≠ g; omega) _, (X1.out.only o2 (by omega)).far (by show w.heap.size + 1 ≠ g; omega) _, ⟨rfl, .inl ⟨rfl, rfl⟩⟩, (fun x hx => by cases hx), by
          have h1 := o2.le
          have h2 := S1.out
          have h3 : (w2.setCell ⟨g, 3, none⟩ (.int .i64 ((i : Int) - (N : Int)))).heap.size = w2.heap.size := World.size_setCell _ _ _
          omega, rfl, hp2, ht, by show i - N ≤ 65536; omega, by
          rw [Nat.sub_zero, ← S']
          cases repsS (replyS l d) N ⟨p2, t, i - N⟩ <;> rfl⟩
    clear i2 o2 S S' HN E1 R1 X1 S1 hx hT O3
    go_wp2_with fail
    generalize w2.setCell ⟨g, 3, none⟩ (.int .i64 ((i : Int) - (N : Int))) = w3 at HL ⊢
    clear d3 dz c0 hwN hwS hwi hdpos hne hne1
    have hwd : IntKind.i64.wrap ((d : Int) + 1 - 1) = (d : Int) := by rw [IntWalk.i64_in _ (by omega)]; omega
    have hwd2 : IntKind.i64.wrap (d : Int) = (d : Int) := IntWalk.i64_in _ (by omega)
    go_loopw [26] (fun v26 wr => ∃ k : Nat, v26 = .int .i64 k ∧ k ≤ N ∧ Hid (∃ lv xs s, LsAt w wr g q cap l d N k lv xs s r)) (fun v26 _ => N - (intOf v26).toNat)
    case atStart => exact ⟨0, rfl, Nat.zero_le _, Lib.hid ⟨_, _, _, HL.out⟩⟩
    case round =>
      obtain ⟨k, rfl, hk, HX⟩ := hrel
      obtain ⟨lv, xs, ⟨sp, stx, sit⟩, hP⟩ := HX.out
      have HP := Lib.hid hP
      clear HL HX hP
      by_cases hkN : k < N
      · have c0 := HP.out.only.cell (by omega) HC0.out
        have c1 := HP.out.only.cell (by omega) HC1.out
        have c1' : wr.cell? ⟨B + 1, 0, none⟩ = some (.int .i64 ((d : Int) + 1)) := by rw [c1]; simp
        have x3 : wr.cell? ⟨w.heap.size + 1, 3, none⟩ = some lv := by
          have := HP.out.box.cell 3
          simpa using this
        have hpl : sp ≤ l.length := HP.out.pl
        have htl : stx ≤ 1048576 := HP.out.tl
        have hil : sit ≤ 65536 := HP.out.il
        have cS := fun W (hE : Ext wr W) => HSUB.out W sp stx sit (HP.out.inn.ext hE) hpl htl hil
        clear c1
        cases hx : replyS l d ⟨sp, stx, sit⟩ with
        | error x =>
          rw [hx] at cS
          have S := Lib.hid (HP.out.fails hkN hx)
          have HO := Lib.hid HP.out.only
          clear hx HP
          go_wp2_with fail
          have D : ∀ w', Only g wr.drew w' → RepE w g q cap l (d + 1) r (.panicked [{ v := .iface 107 (.agg #[.int .i64 x]), recovered := false }]) w' := fun w' o4 => RepE.err S.out ⟨rfl, HO.out.drew.trans o4⟩
          refine wp_region_any (by kernel_rfl) ?_
          change wpAny _ _ _ _ _ _ _ (World.drew _)
          refine wpAny_take (i := 0) (v := ?_) rfl (by kernel_rfl) (by kernel_rfl) (by kernel_rfl) (fun _ _ _ h => h) (Or.inl ⟨by rfl, (by intro w; go_simp; first | done | with_reducible rfl)⟩) ?_
          refine wpAny_ready (rs := [1, 2, 3]) (by kernel_rfl) (by simp) ?_
          refine AllReady.cons rfl (fun K hK => ?_) ?_
          · go_simp
            refine hK _ _ ?_
            clear hK K
            refine wpAny_ready (rs := [2, 3]) (by kernel_rfl) (by simp) ?_
            refine AllReady.cons rfl (fun K hK => ?_) ?_
            · go_simp
              refine hK _ _ ?_
              clear hK K
              refine wpAny_ready (rs := [3]) (by kernel_rfl) (by simp) ?_
              refine AllReady.cons rfl (fun K hK => ?_) ?_
              · go_simp
                refine hK _ _ ?_
                clear hK K
                refine wpAny_take (i := 4) (v := ?_) rfl (by kernel_rfl) (by kernel_rfl) (by kernel_rfl) (fun _ _ _ h => h) (Or.inl ⟨by rfl, (by intro w; go_simp; first | done | with_reducible rfl)⟩) ?_
                refine wpAny_ready (rs := [5]) (by kernel_rfl) (by simp) ?_
                refine AllReady.cons rfl (fun K hK => ?_) ?_
                · go_simp
                  refine (cS _ (Ext.refl _).drew).mono ?_
                  rintro e w' ⟨rfl, o4⟩
                  exact ⟨rfl, D w' o4⟩
                · skip
                  exact AllReady.nil
              · skip
                exact AllReady.nil
            · skip
              refine AllReady.cons rfl (fun K hK => ?_) ?_
              · go_simp
                refine hK _ _ ?_
                clear hK K
                refine wpAny_take (i := 4) (v := ?_) rfl (by kernel_rfl) (by kernel_rfl) (by kernel_rfl) (fun _ _ _ h => h) (Or.inl ⟨by rfl, (by intro w; go_simp; first | done | with_reducible rfl)⟩) ?_
                refine wpAny_ready (rs := [2]) (by kernel_rfl) (by simp) ?_
                refine AllReady.cons rfl (fun K hK => ?_) ?_
                · go_simp
                  refine hK _ _ ?_
                  clear hK K
                  refine wpAny_ready (rs := [5]) (by kernel_rfl) (by simp) ?_
                  refine AllReady.cons rfl (fun K hK => ?_) ?_
                  · go_simp
                    refine (cS _ (Ext.refl _).drew).mono ?_
                    rintro e w' ⟨rfl, o4⟩
                    exact ⟨rfl, D w' o4⟩
                  · skip
                    exact AllReady.nil
                · skip
                  exact AllReady.nil
              · skip
                exact AllReady.nil
          · skip
            refine AllReady.cons rfl (fun K hK => ?_) ?_
            · go_simp
              refine hK _ _ ?_
              clear hK K
              refine wpAny_ready (rs := [1, 3]) (by kernel_rfl) (by simp) ?_
              refine AllReady.cons rfl (fun K hK => ?_) ?_
              · go_simp
                refine hK _ _ ?_
                clear hK K
                refine wpAny_ready (rs := [3]) (by kernel_rfl) (by simp) ?_
                refine AllReady.cons rfl (fun K hK => ?_) ?_
                · go_simp
                  refine hK _ _ ?_
                  clear hK K
                  refine wpAny_take (i := 4) (v := ?_) rfl (by kernel_rfl) (by kernel_rfl) (by kernel_rfl) (fun _ _ _ h => h) (Or.inl ⟨by rfl, (by intro w; go_simp; first | done | with_reducible rfl)⟩) ?_
                  refine wpAny_ready (rs := [5]) (by kernel_rfl) (by simp) ?_
                  refine AllReady.cons rfl (fun K hK => ?_) ?_
                  · go_simp
                    refine (cS _ (Ext.refl _).drew).mono ?_
                    rintro e w' ⟨rfl, o4⟩
                    exact ⟨rfl, D w' o4⟩
                  · skip
                    exact AllReady.nil
                · skip
                  exact AllReady.nil
              · skip
                refine AllReady.cons rfl (fun K hK => ?_) ?_
                · go_simp
                  refine hK _ _ ?_
                  clear hK K
                  refine wpAny_take (i := 4) (v := ?_) rfl (by kernel_rfl) (by kernel_rfl) (by kernel_rfl) (fun _ _ _ h => h) (Or.inl ⟨by rfl, (by intro w; go_simp; first | done | with_reducible rfl)⟩) ?_
                  refine wpAny_ready (rs := [1, 5]) (by kernel_rfl) (by simp) ?_
                  refine AllReady.cons rfl (fun K hK => ?_) ?_
                  · go_simp
                    refine hK _ _ ?_
                    clear hK K
                    refine wpAny_ready (rs := [5]) (by kernel_rfl) (by simp) ?_
                    refine AllReady.cons rfl (fun K hK => ?_) ?_
                    · go_simp
                      refine (cS _ (Ext.refl _).drew).mono ?_
                      rintro e w' ⟨rfl, o4⟩
                      exact ⟨rfl, D w' o4⟩
                    · skip
                      exact AllReady.nil
                  · skip
                    refine AllReady.cons rfl (fun K hK => ?_) ?_
                    · go_simp
                      refine (cS _ (Ext.refl _).drew).mono ?_
                      rintro e w' ⟨rfl, o4⟩
                      exact ⟨rfl, D w' o4⟩
                    · skip
                      exact AllReady.nil
                · skip
                  exact AllReady.nil
            · skip
              refine AllReady.cons rfl (fun K hK => ?_) ?_
              · go_simp
                refine hK _ _ ?_
                clear hK K
                refine wpAny_take (i := 4) (v := ?_) rfl (by kernel_rfl) (by kernel_rfl) (by kernel_rfl) (fun _ _ _ h => h) (Or.inl ⟨by rfl, (by intro w; go_simp; first | done | with_reducible rfl)⟩) ?_
                refine wpAny_ready (rs := [1, 2]) (by kernel_rfl) (by simp) ?_
                refine AllReady.cons rfl (fun K hK => ?_) ?_
                · go_simp
                  refine hK _ _ ?_
                  clear hK K
                  refine wpAny_ready (rs := [2]) (by kernel_rfl) (by simp) ?_
                  refine AllReady.cons rfl (fun K hK => ?_) ?_
                  · go_simp
                    refine hK _ _ ?_
                    clear hK K
                    refine wpAny_ready (rs := [5]) (by kernel_rfl) (by simp) ?_
                    refine AllReady.cons rfl (fun K hK => ?_) ?_
                    · go_simp
                      refine (cS _ (Ext.refl _).drew).mono ?_
                      rintro e w' ⟨rfl, o4⟩
                      exact ⟨rfl, D w' o4⟩
                    · skip
                      exact AllReady.nil
                  · skip
                    exact AllReady.nil
                · skip
                  refine AllReady.cons rfl (fun K hK => ?_) ?_
                  · go_simp
                    refine hK _ _ ?_
                    clear hK K
                    refine wpAny_ready (rs := [1, 5]) (by kernel_rfl) (by simp) ?_
                    refine AllReady.cons rfl (fun K hK => ?_) ?_
                    · go_simp
                      refine hK _ _ ?_
                      clear hK K
                      refine wpAny_ready (rs := [5]) (by kernel_rfl) (by simp) ?_
                      refine AllReady.cons rfl (fun K hK => ?_) ?_
                      · go_simp
                        refine (cS _ (Ext.refl _).drew).mono ?_
                        rintro e w' ⟨rfl, o4⟩
                        exact ⟨rfl, D w' o4⟩
                      · skip
                        exact AllReady.nil
                    · skip
                      refine AllReady.cons rfl (fun K hK => ?_) ?_
                      · go_simp
                        refine (cS _ (Ext.refl _).drew).mono ?_
                        rintro e w' ⟨rfl, o4⟩
                        exact ⟨rfl, D w' o4⟩
                      · skip
                        exact AllReady.nil
                  · skip
                    exact AllReady.nil
              · skip
                exact AllReady.nil
        | ok y =>
          obtain ⟨x, s'⟩ := y
          rw [hx] at cS
          have HXY := Lib.hid hx
          clear hx
          obtain ⟨i0, hi0, hz0, hz1, hz2⟩ := info_parts infoRep
          have hrow := HP.out.own.lt
          have zX := HP.out.box.frozen 3
          have hXl := HP.out.box.lt
          have hbase := HP.out.base
          have OW0 := Lib.hid (own_ext HP.out.own (Ext.refl wr).drew)
          go_wp2_with fail
          go_region_law (first
            | ((go_simp; go_at_call 50; refine (cS _ (Ext.refl _).drew).mono ?_; rintro e w4 ⟨v4, rfl, ⟨lv0, rfl, hv4⟩, i4, o4⟩; have OW4 := Lib.hid (own_only OW0.out o4 (by omega)); have I4 := Lib.hid i4; have O4 := Lib.hid o4; obtain ⟨q9, c9, rfl⟩ := hv4.slice; have V4 := Lib.hid hv4; have hs4 : w.heap.size + 1 < w4.heap.size := Nat.lt_of_lt_of_le hXl o4.le; have hb4 : w.heap.size + 2 ≤ w4.heap.size := Nat.le_trans hbase o4.le; have b4 : w4.cell? ⟨w.heap.size + 1, 3, none⟩ = some lv := o4.cell (by omega) x3; have z4 : w4.frozen? ⟨w.heap.size + 1, 3, none⟩ = false := (o4.cells.2 _ _ hXl (by omega)).trans zX; clear i4 o4 hv4; go_simp))
            | ((refine step_append_lies _ (by rfl) _ _ _ (by rfl) (w.heap.size + 2) 41 i0 _ 4 56 Tryd.underlying39 hi0 hz0 hz1 hz2 rfl (by omega) lv k (xs.flatMap rowR) (by rfl) (own_ext OW4.out ((Ext.refl _).alloc _)) ⟨w4.heap.size, 0, none⟩ 1 1 [.int .i64 x.k, .int .i64 x.n, .string x.s, .slice q9 x.l.length c9] (by rfl) (by rfl) (World.news_of_block (cs := #[.int .i64 x.k, .int .i64 x.n, .string x.s, .slice q9 x.l.length c9]) (t := 41) (fr := (0, 0)) (heap_alloc_new w4 _)) (by simp [Value.oneCell']) (by omega) (by unfold maxLen; omega) (by omega) (by rw [size_alloc]; omega) (w4.heap.size + 1) (by simp) ?_; intro gg gcap w5 hown1 hgrow hat hlt; have b5 : w5.cell? ⟨w.heap.size + 1, 3, none⟩ = some lv := (hgrow.cell_far _ (by show w.heap.size + 1 < (w4.alloc _).heap.size; rw [size_alloc]; omega) (fun e => by have h9 : w.heap.size + 2 ≤ w.heap.size + 1 := (hrow _ e.symm).1; omega)).trans (Ext.cell ((Ext.refl _).alloc _) b4); have z5 : w5.frozen? ⟨w.heap.size + 1, 3, none⟩ = false := (hgrow.frozen_far _ (by show w.heap.size + 1 < (w4.alloc _).heap.size; rw [size_alloc]; omega) (fun e => by have h9 : w.heap.size + 2 ≤ w.heap.size + 1 := (hrow _ e.symm).1; omega)).trans (((Ext.cells ((Ext.refl _).alloc _)).2 _ _ hs4).trans z4); have OW5 := Lib.hid hown1; have G5 := Lib.hid hgrow; have HT := Lib.hid hat; clear hown1 hgrow hat hlt)))
          all_goals
            go_wp2_with fail
            have NX := Lib.hid (HP.out.next H.out hkN HXY.out ((Only.refl g wr).drew.trans O4.out) V4.out I4.out OW5.out G5.out HT.out)
            clear HP OW0 OW4 O4 V4 I4 OW5 G5 HT cS
            go_roundw
            case rel => exact ⟨k + 1, by go_num, by omega, Lib.hid ⟨_, _, _, NX.out⟩⟩
            case measure => simp [intOf]; omega
      · obtain rfl : k = N := by omega
        obtain ⟨hr1, hL⟩ := HP.out.ends
        obtain ⟨q9, c9, hv⟩ := hL.slice
        rw [List.length_map] at hv
        subst hv
        have HR1 := Lib.hid hr1
        have HLL := Lib.hid hL
        have a0 := HP.out.box.cell 0
        have a1 := HP.out.box.cell 1
        have a2 := HP.out.box.cell 2
        have a3 := HP.out.box.cell 3
        have b0 := HP.out.res.cell 0
        have b1 := HP.out.res.cell 1
        have b2 := HP.out.res.cell 2
        have b3 := HP.out.res.cell 3
        have z0 := HP.out.res.frozen 0
        have z1 := HP.out.res.frozen 1
        have z2 := HP.out.res.frozen 2
        have z3 := HP.out.res.frozen 3
        simp only [List.getElem?_toArray, List.getElem?_cons_zero, List.getElem?_cons_succ] at a0 a1 a2 a3 b0 b1 b2 b3
        clear hr1 hL
        go_wp2_with fail
        have R := rep_put H.out HP.out.inn HP.out.only (Nat.le_refl _) HP.out.res (.int .i64 5) (.int .i64 0) (.string ⟨#[]⟩) (.slice q9 xs.length c9)
        have KL : ListAt (fun b => w.heap.size ≤ b) ((((wr.setCell { block := w.heap.size, off := 0 } (Value.int IntKind.i64 5)).setCell { block := w.heap.size, off := 1 } (Value.int IntKind.i64 0)).setCell { block := w.heap.size, off := 2 } (Value.string ⟨#[]⟩)).setCell { block := w.heap.size, off := 3 } (Value.slice q9 xs.length c9)) (d + 1) (.slice q9 xs.length c9) (xs.map (·.1)) :=
          HLL.out.keep (fun b' o' v hok hc => by rw [cell_far (by omega), cell_far (by omega), cell_far (by omega), cell_far (by omega)]; exact hc) (fun b' _ hok => by omega)
        generalize (((wr.setCell { block := w.heap.size, off := 0 } (Value.int IntKind.i64 5)).setCell { block := w.heap.size, off := 1 } (Value.int IntKind.i64 0)).setCell { block := w.heap.size, off := 2 } (Value.string ⟨#[]⟩)).setCell { block := w.heap.size, off := 3 } (Value.slice q9 xs.length c9) = w4 at R KL ⊢
        obtain ⟨I4, O4, B4⟩ := R
        have e0 := B4.cell 0
        have e1 := B4.cell 1
        have e2 := B4.cell 2
        have e3 := B4.cell 3
        simp only [List.getElem?_toArray, List.getElem?_cons_zero, List.getElem?_cons_succ] at e0 e1 e2 e3
        exact bodyPost_ret (v := .agg #[.int .i64 5, .int .i64 0, .string ⟨#[]⟩, .slice q9 xs.length c9]) (by simp [results, Tryd.results83, go_sem, e0, e1, e2, e3]) rfl (RepE.ok HR1.out ⟨_, rfl, ⟨_, rfl, KL⟩, I4, O4⟩)
end Go.Proofs.YtopdgmchkoaeeaaDoor
