/- Words: the words of the language as a map. -/
import Derived.Test.YthknpnhiijbgfaaDoorWdB
import Derived.Test.YthknpnhiijbgfaaDoorLit
namespace Go.Proofs.YthknpnhiijbgfaaDoor
open Go.RowKit Go.Shelf
set_option linter.unusedVariables false
set_option linter.unusedSimpArgs false
attribute [local go_sem] Oper.semAt_some

theorem key_new : ∀ j : Fin 19, ((keyW.take j).any fun x => x.data == (keyW.getD j ⟨#[]⟩).data) = false := by decide +kernel
theorem any_keyW (s : ByteArray) : (keyW.any fun x => x.data == s.data) = keyB s.data.toList := by
  unfold keyW keyB
  rw [List.any_map]
  congr 1
  funext x
  show (x.toArray == s.data) = _
  rw [Bool.eq_iff_iff, beq_iff_eq, beq_iff_eq]
  exact ⟨fun e => by rw [← e], fun e => by rw [e]⟩
/-- What the loop over the words keeps. -/
structure LangI (w : World) (pre : List ByteArray) (W : World) : Prop where
  box : Blk W (w.heap.size + 1) 47 #[.map (some w.heap.size)]
  map : W.heap[w.heap.size]? = some (.map (ents (onesM pre) 0).toArray pre.length)
  ext : Ext w W
theorem heap_lt {w : World} {k : Nat} {o : Obj} (h : w.heap[k]? = some o) : k < w.heap.size := (Array.getElem?_eq_some_iff.1 h).1
set_option maxRecDepth 100000 in
set_option maxHeartbeats 2000000 in
theorem language_any (w : World) (ha : Asc w) : Calls Tryd.prog 25 #[] w fun e w' => e = .returned (.map (some w.heap.size)) ∧ Ext w w' ∧ w'.heap[w.heap.size]? = some (.map (ents (onesM keyW) 0).toArray 19) := by
  have HA := Lib.hid ha
  clear ha
  refine (callsIn_wide (n := 4)).1 ?_
  have hmm := @run_makeMap Tryd.prog
  refine callsIn_of_wp_marks Tryd.func25 rfl trivial ?_ rfl
  simp only [Tryd.ntmps25, List.size_toArray, List.length_cons, List.length_nil, Nat.reduceAdd, Nat.reduceSub, Array.replicate_succ, Array.replicate_zero, List.push_toArray, List.append_toArray, List.nil_append, List.cons_append]
  gi_wp2
  refine ⟨trivial, (seq_in Fence.wide 3 trivial rfl _ _).mono ?_⟩
  rintro e w' ⟨rfl, rfl⟩
  gi_wp2
  have hB0 : Ext w (((w.alloc (.map #[] 0)).alloc (.cells #[.map (some w.heap.size)] 47)).alloc (.cells #[.string ⟨keyC.toArray⟩] 9)) := (((Ext.refl w).alloc _).alloc _).alloc _
  have HB0 := Lib.hid hB0
  have HS : Hid (Blk (((w.alloc (.map #[] 0)).alloc (.cells #[.map (some w.heap.size)] 47)).alloc (.cells #[.string ⟨keyC.toArray⟩] 9)) (w.heap.size + 1 + 1) 9 #[.string keyS]) := Lib.hid (by
    have h := Blk.new ((w.alloc (.map #[] 0)).alloc (.cells #[.map (some w.heap.size)] 47)) 9 #[.string keyS]
    rw [size_alloc, size_alloc] at h; exact h)
  have HI : Hid (LangI w [] (((w.alloc (.map #[] 0)).alloc (.cells #[.map (some w.heap.size)] 47)).alloc (.cells #[.string ⟨keyC.toArray⟩] 9))) := Lib.hid ⟨by
    have h := Blk.new (w.alloc (.map #[] 0)) 47 #[.map (some w.heap.size)]
    rw [size_alloc] at h; exact h.alloc _, by
    have h := heap_alloc_new w (.map #[] 0)
    exact (Below.heap_alloc _ _ _ (by simp; omega)).trans ((Below.heap_alloc _ _ _ (by simp)).trans h), HB0.out⟩
  have HA0 := Lib.hid (HA.out.ext HB0.out)
  have HL : Hid ((0 : Nat) < w.heap.size) := Lib.hid HA.out.lt
  clear hB0 hmm
  obtain ⟨W0, hW0⟩ : ∃ W0, (((w.alloc (.map #[] 0)).alloc (.cells #[.map (some w.heap.size)] 47)).alloc (.cells #[.string ⟨keyC.toArray⟩] 9)) = W0 := ⟨_, rfl⟩
  have hsz : W0.heap.size = w.heap.size + 3 := by rw [← hW0]; simp
  have HW0 := Lib.hid hW0
  rw [hW0] at HB0 HS HI HA0
  show Code.wpIn _ _ _ _ _ _ (((w.alloc (.map #[] 0)).alloc (.cells #[.map (some w.heap.size)] 47)).alloc (.cells #[.string ⟨keyC.toArray⟩] 9))
  rw [hW0]
  clear hW0
  refine wpIn_rangeFunc_R rfl (by omega) (gf := 63) (lb := #[.pointer (some ⟨w.heap.size + 1 + 1, 0, none⟩)]) rfl trivial (enters_of Tryd.func63 (by kernel_rfl) rfl)
    (fields_in Fence.wide 3 trivial rfl (by omega) w.heap.size (w.heap.size + 1 + 1) keyS (Lib.hid rfl) W0 (by omega) HL.out (by omega) HS.out HA0.out)
    KpB.t (KpB.b (by omega) (by omega)) (Below.refl _ _) (fun _ => rfl)
    (LangI w) (fun _ _ _ => False) ?own (fun _ _ _ _ _ hs _ _ => hs) HI.out
    (fun x a' _ => a' = { tmps := #[.map none, .pointer (some ⟨w.heap.size + 1, 0, none⟩), .string x, .map (some w.heap.size), .func (.func 63) #[] #[.pointer (some ⟨w.heap.size + 1 + 1, 0, none⟩)], .string x, undef, undef, undef, undef, undef], defers := [] })
    (fun _ _ _ _ _ hs _ _ => hs) ?assign ?body ?done ?stop
  case own =>
    rintro s X Y row ⟨h1, h2, h3⟩ hg hr
    have hne : ∀ k, k < w.heap.size + 3 → some k ≠ row := fun k hk e => by have := (hr k e.symm).1; omega
    exact ⟨(hg.block _ h1.lt (hne _ (by omega))).trans h1, (hg.block _ (heap_lt h2) (hne _ (by omega))).trans h2, h3.grown hg h3.size (fun k e => by have := (hr k e).1; omega)⟩
  case assign =>
    intro l pre x W K hI hR hK
    gi_wp2
    exact hK _ _ (KeepsFrom.refl _ _) ⟨Below.refl _ _, rfl⟩ hI rfl
  case body =>
    rintro l pre x a' W ⟨hbx, hm, he⟩ ⟨j, hj, rfl, rfl⟩ rfl
    have hlen : (keyW.take j).length = j := by simp; rw [keyW_len] at hj ⊢; omega
    rw [hlen] at hm
    have hno : noKey .string (.string (keyW[j]'hj)) (onesM (keyW.take j)) = true := ones_no _ _ (by
      have e : keyW.getD j ⟨#[]⟩ = keyW[j]'hj := by rw [List.getD_eq_getElem?_getD, List.getElem?_eq_getElem hj]; rfl
      rw [← e]; exact key_new ⟨j, hj⟩)
    have lk := run_lookup_none Tryd.underlying47 Tryd.underlying9 rfl _ j _ (.string (keyW[j]'hj)) (.int .i64 0) (zero_int W) hm hno false
    simp only [Bool.false_eq_true, if_false] at lk
    obtain ⟨w1, up, m1, m2, m3, m4, m5, m6⟩ := run_insert_at Tryd.underlying47 Tryd.underlying9 rfl _ j _ (.string (keyW[j]'hj)) (.int .i64 1) hm (by rw [onesM_len, hlen]) hno
    have hgr : W.grownBy w1 (some w.heap.size) := ⟨m4, m5, m6, by omega, fun k _ hk => m2 k (fun e => hk (by rw [e]))⟩
    have HM := Lib.hid (show LangI w (keyW.take j ++ [keyW[j]'hj]) w1 from ⟨(m2 _ (by omega)).trans hbx, by rw [m1, onesM_snoc, List.length_append, hlen]; rfl, he.map_ (Nat.le_refl _) m2 m3 m4 m5 m6⟩)
    have HK1 := Lib.hid (show KeepsFrom W0.heap.size W w1 from KeepsFrom.of_grownBy hgr (fun k e => by cases e; omega))
    have HK2 := Lib.hid (show KpB w.heap.size (w.heap.size + 1 + 1) W w1 from ⟨(Below.refl _ W).grown hgr he.size (fun k e => by cases e; exact Nat.le_refl _), m2 _ (by omega)⟩)
    have c0 : W.cell? ⟨w.heap.size + 1, 0, none⟩ = some (.map (some w.heap.size)) := hbx.cell 0
    clear hgr m1 m2 m3 m4 m5 m6 hno hbx hm he hlen
    gi_wp2
    exact ⟨HK1.out, HK2.out, trivial, HM.out⟩
  case done =>
    rintro D ys W hD rfl ⟨hbx, hm, he⟩ hK
    have c0 : W.cell? ⟨w.heap.size + 1, 0, none⟩ = some (.map (some w.heap.size)) := hbx.cell 0
    gi_wp2
    refine ⟨by simp, .inl ⟨_, _, rfl, run_takeDeferred hK, ?_⟩⟩
    exact ⟨_, results_tmp rfl _ _ _, rfl, Below.trans he (belowK_b (w := w) (Nat.le_refl _) W D _ _ (by omega) hK rfl rfl), (World.putObj_heap_other (by omega)).trans hm⟩
  case stop =>
    rintro D c pre W _ _ h _
    exact h.elim
end Go.Proofs.YthknpnhiijbgfaaDoor
