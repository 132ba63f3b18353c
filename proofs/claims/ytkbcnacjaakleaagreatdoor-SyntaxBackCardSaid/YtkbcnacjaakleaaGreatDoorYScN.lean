/- tabor.tree: the table of shapes. -/
import Derived.Test.YtkbcnacjaakleaaGreatDoorYP12
import Derived.Test.YtkbcnacjaakleaaGreatDoorYP07
set_option maxRecDepth 100000
set_option maxHeartbeats 32000000
set_option linter.unusedVariables false
set_option linter.unusedSimpArgs false
namespace Go.Proofs.YtkbcnacjaakleaaGreatDoor
open Go.RowKit

theorem count_any (w : World) (n : Int) : Calls Tryz.prog 125 #[.int .i64 n] w fun e w' => e = .returned (.func (.func 205) #[] #[.pointer (some ⟨w.heap.size, 0, none⟩)]) ∧ w.alloc (.cells #[.int .i64 n] 3) = w' := by
 have hmf : ∀ (fn : Fn) (first cap : Array Value) (w : World), (Instr.makeFunc fn first cap).run Tryz.prog w = .ok (.func fn first cap) w := fun _ _ _ _ => rfl
 go_enter Tryz.func125, Tryz.ntmps125
 go_wp2_with fail
 go_ret
 exact ⟨rfl, rfl⟩
structure ShI (w W : World) (M : Nat) (l : List (Value × Value)) (bs : List (Nat × Int)) : Prop where
 map : W.heap[M]? = some (.map (ents l 0).toArray l.length)
 box : ∀ p ∈ bs, Blk W p.1 3 #[.int .i64 p.2] ∧ p.1 ≠ M ∧ w.heap.size ≤ p.1
 ext : Ext w W
 lo : w.heap.size ≤ M
theorem ShI.ins {w W : World} {M : Nat} {l : List (Value × Value)} {bs : List (Nat × Int)} (h : ShI w W M l bs) (k : Int) (v : Value) (hk : noKey (.int .i64) (.int .i64 k) l = true) :
  ∃ W', (Instr.mapUpdate 130 (.map (some M)) (.int .i64 k) v).run Tryz.prog W = .ok () W' ∧ ShI w W' M (l ++ [(.int .i64 k, v)]) bs ∧ W'.heap.size = W.heap.size := by
 obtain ⟨W', h1, h2, h3, h4, h5, h6, h7⟩ := run_insert_at (P := Tryz.prog) Tryz.underlying130 Tryz.underlying24 rfl l l.length M (.int .i64 k) v h.map rfl hk
 exact ⟨W', h1, ⟨by rw [List.length_append]; exact h2, fun p hp => ⟨(h3 _ (h.box p hp).2.1).trans (h.box p hp).1, (h.box p hp).2⟩, h.ext.map_ h.lo h3 h4 h5 h6 h7, h.lo⟩, h4⟩
theorem ShI.new {w W : World} {M : Nat} {l : List (Value × Value)} {bs : List (Nat × Int)} (h : ShI w W M l bs) (n : Int) : ShI w (W.alloc (.cells #[.int .i64 n] 3)) M l ((W.heap.size, n) :: bs) := by
 have hm : M < W.heap.size := heap_lt h.map
 refine ⟨(((Ext.refl W).alloc _).block M hm).trans h.map, fun p hp => ?_, h.ext.alloc _, h.lo⟩
 rcases List.mem_cons.1 hp with rfl | hp
 ·exact ⟨Blk.new W _ _, by simp only; omega, h.ext.size⟩
 ·exact ⟨(h.box p hp).1.alloc _, (h.box p hp).2⟩
def shL (b0 b1 b2 b3 b4 b5 b6 b7 : Nat) : List (Value × Value) := [(.int .i64 1, .agg #[.bool false, .bool false, .bool false, .bool false, .int .i64 1, .int .i64 1048576, .bool true, (.func (.func 126) #[] #[])]), (.int .i64 2, .agg #[.bool false, .bool false, .bool false, .bool false, .int .i64 0, .int .i64 0, .bool true, (.func (.func 127) #[] #[])]), (.int .i64 3, .agg #[.bool false, .bool false, .bool false, .bool false, .int .i64 0, .int .i64 0, .bool true, (.func (.func 128) #[] #[])]), (.int .i64 4, .agg #[.bool false, .bool false, .bool false, .bool false, .int .i64 0, .int .i64 0, .bool true, (.func (.func 130) #[] #[])]), (.int .i64 5, .agg #[.bool false, .bool false, .bool false, .bool false, .int .i64 0, .int .i64 0, .bool true, (.func (.func 131) #[] #[])]), (.int .i64 6, .agg #[.bool false, .bool false, .bool false, .bool false, .int .i64 1, .int .i64 1, .bool true, (.func (.func 132) #[] #[])]), (.int .i64 7, .agg #[.bool false, .bool false, .bool false, .bool false, .int .i64 0, .int .i64 0, .bool true, (.func (.func 133) #[] #[])]), (.int .i64 8, .agg #[.bool false, .bool false, .bool false, .bool false, .int .i64 0, .int .i64 0, .bool true, (.func (.func 205) #[] #[.pointer (some ⟨b0, 0, none⟩)])]), (.int .i64 9, .agg #[.bool true, .bool false, .bool false, .bool false, .int .i64 0, .int .i64 1048576, .bool true, (.func (.func 134) #[] #[])]), (.int .i64 10, .agg #[.bool false, .bool false, .bool false, .bool false, .int .i64 0, .int .i64 0, .bool false, (.func (.func 205) #[] #[.pointer (some ⟨b0, 0, none⟩)])]), (.int .i64 11, .agg #[.bool false, .bool false, .bool false, .bool false, .int .i64 0, .int .i64 0, .bool false, (.func (.func 205) #[] #[.pointer (some ⟨b0, 0, none⟩)])]), (.int .i64 12, .agg #[.bool false, .bool false, .bool false, .bool false, .int .i64 0, .int .i64 0, .bool false, (.func (.func 205) #[] #[.pointer (some ⟨b0, 0, none⟩)])]), (.int .i64 13, .agg #[.bool false, .bool false, .bool false, .bool true, .int .i64 0, .int .i64 0, .bool false, (.func (.func 205) #[] #[.pointer (some ⟨b0, 0, none⟩)])]), (.int .i64 14, .agg #[.bool false, .bool false, .bool true, .bool false, .int .i64 0, .int .i64 0, .bool false, (.func (.func 205) #[] #[.pointer (some ⟨b0, 0, none⟩)])]), (.int .i64 15, .agg #[.bool true, .bool false, .bool false, .bool false, .int .i64 0, .int .i64 0, .bool false, (.func (.func 205) #[] #[.pointer (some ⟨b0, 0, none⟩)])]), (.int .i64 16, .agg #[.bool false, .bool false, .bool false, .bool false, .int .i64 0, .int .i64 0, .bool false, (.func (.func 205) #[] #[.pointer (some ⟨b1, 0, none⟩)])]), (.int .i64 17, .agg #[.bool true, .bool false, .bool false, .bool false, .int .i64 0, .int .i64 0, .bool true, (.func (.func 126) #[] #[])]), (.int .i64 18, .agg #[.bool false, .bool false, .bool false, .bool false, .int .i64 0, .int .i64 0, .bool false, (.func (.func 135) #[] #[])]), (.int .i64 19, .agg #[.bool false, .bool false, .bool false, .bool false, .int .i64 0, .int .i64 0, .bool false, (.func (.func 205) #[] #[.pointer (some ⟨b2, 0, none⟩)])]), (.int .i64 20, .agg #[.bool false, .bool false, .bool false, .bool false, .int .i64 0, .int .i64 0, .bool false, (.func (.func 205) #[] #[.pointer (some ⟨b3, 0, none⟩)])]), (.int .i64 21, .agg #[.bool false, .bool true, .bool false, .bool false, .int .i64 0, .int .i64 0, .bool false, (.func (.func 205) #[] #[.pointer (some ⟨b4, 0, none⟩)])]), (.int .i64 22, .agg #[.bool false, .bool false, .bool false, .bool false, .int .i64 0, .int .i64 0, .bool false, (.func (.func 205) #[] #[.pointer (some ⟨b5, 0, none⟩)])]), (.int .i64 23, .agg #[.bool false, .bool false, .bool false, .bool false, .int .i64 0, .int .i64 0, .bool false, (.func (.func 205) #[] #[.pointer (some ⟨b6, 0, none⟩)])]), (.int .i64 24, .agg #[.bool false, .bool false, .bool false, .bool false, .int .i64 0, .int .i64 0, .bool false, (.func (.func 205) #[] #[.pointer (some ⟨b7, 0, none⟩)])])]
def shB (b0 b1 b2 b3 b4 b5 b6 b7 : Nat) : List (Nat × Int) := [(b0, 0), (b1, 2), (b2, 1), (b3, 2), (b4, 2), (b5, 1), (b6, 1), (b7, 1)]
def ShAt (lo : Nat) (w : World) (M : Nat) : Prop := ∃ b0 b1 b2 b3 b4 b5 b6 b7, w.heap[M]? = some (.map (ents (shL b0 b1 b2 b3 b4 b5 b6 b7) 0).toArray 24) ∧ ∀ p ∈ shB b0 b1 b2 b3 b4 b5 b6 b7, lo ≤ p.1 ∧ Blk w p.1 3 #[.int .i64 p.2]
theorem ShAt.ext {lo : Nat} {w w' : World} {M : Nat} (h : ShAt lo w M) (he : Ext w w') : ShAt lo w' M := by
 obtain ⟨b0, b1, b2, b3, b4, b5, b6, b7, hm, hb⟩ := h
 exact ⟨b0, b1, b2, b3, b4, b5, b6, b7, (he.block M (heap_lt hm)).trans hm, fun p hp => ⟨(hb p hp).1, (hb p hp).2.ext he⟩⟩
theorem shapes_any (w : World) : Calls Tryz.prog 70 #[] w fun e w' => ∃ M, e = .returned (.map (some M)) ∧ w.heap.size ≤ M ∧ Ext w w' ∧ ShAt w.heap.size w' M := by
 have H0 : ShI w ((w.alloc (.cells #[.int .i64 0] 3)).alloc (.map #[] 0)) (w.heap.size + 1) [] [(w.heap.size, 0)] := by
  refine ⟨new_at (by rw [size_alloc]) _, fun p hp => ?_, ((Ext.refl w).alloc _).alloc _, Nat.le_succ _⟩
  obtain rfl := List.mem_singleton.1 hp
  exact ⟨(Blk.new w _ _).alloc _, by simp, Nat.le_refl _⟩
 obtain ⟨W1, i1, H1, z1⟩ := H0.ins 1 (.agg #[.bool false, .bool false, .bool false, .bool false, .int .i64 1, .int .i64 1048576, .bool true, (.func (.func 126) #[] #[])]) rfl
 obtain ⟨W2, i2, H2, z2⟩ := H1.ins 2 (.agg #[.bool false, .bool false, .bool false, .bool false, .int .i64 0, .int .i64 0, .bool true, (.func (.func 127) #[] #[])]) rfl
 obtain ⟨W3, i3, H3, z3⟩ := H2.ins 3 (.agg #[.bool false, .bool false, .bool false, .bool false, .int .i64 0, .int .i64 0, .bool true, (.func (.func 128) #[] #[])]) rfl
 obtain ⟨W4, i4, H4, z4⟩ := H3.ins 4 (.agg #[.bool false, .bool false, .bool false, .bool false, .int .i64 0, .int .i64 0, .bool true, (.func (.func 130) #[] #[])]) rfl
 obtain ⟨W5, i5, H5, z5⟩ := H4.ins 5 (.agg #[.bool false, .bool false, .bool false, .bool false, .int .i64 0, .int .i64 0, .bool true, (.func (.func 131) #[] #[])]) rfl
 obtain ⟨W6, i6, H6, z6⟩ := H5.ins 6 (.agg #[.bool false, .bool false, .bool false, .bool false, .int .i64 1, .int .i64 1, .bool true, (.func (.func 132) #[] #[])]) rfl
 obtain ⟨W7, i7, H7, z7⟩ := H6.ins 7 (.agg #[.bool false, .bool false, .bool false, .bool false, .int .i64 0, .int .i64 0, .bool true, (.func (.func 133) #[] #[])]) rfl
 obtain ⟨W8, i8, H8, z8⟩ := H7.ins 8 (.agg #[.bool false, .bool false, .bool false, .bool false, .int .i64 0, .int .i64 0, .bool true, (.func (.func 205) #[] #[.pointer (some ⟨w.heap.size, 0, none⟩)])]) rfl
 obtain ⟨W9, i9, H9, z9⟩ := H8.ins 9 (.agg #[.bool true, .bool false, .bool false, .bool false, .int .i64 0, .int .i64 1048576, .bool true, (.func (.func 134) #[] #[])]) rfl
 obtain ⟨W10, i10, H10, z10⟩ := H9.ins 10 (.agg #[.bool false, .bool false, .bool false, .bool false, .int .i64 0, .int .i64 0, .bool false, (.func (.func 205) #[] #[.pointer (some ⟨w.heap.size, 0, none⟩)])]) rfl
 obtain ⟨W11, i11, H11, z11⟩ := H10.ins 11 (.agg #[.bool false, .bool false, .bool false, .bool false, .int .i64 0, .int .i64 0, .bool false, (.func (.func 205) #[] #[.pointer (some ⟨w.heap.size, 0, none⟩)])]) rfl
 obtain ⟨W12, i12, H12, z12⟩ := H11.ins 12 (.agg #[.bool false, .bool false, .bool false, .bool false, .int .i64 0, .int .i64 0, .bool false, (.func (.func 205) #[] #[.pointer (some ⟨w.heap.size, 0, none⟩)])]) rfl
 obtain ⟨W13, i13, H13, z13⟩ := H12.ins 13 (.agg #[.bool false, .bool false, .bool false, .bool true, .int .i64 0, .int .i64 0, .bool false, (.func (.func 205) #[] #[.pointer (some ⟨w.heap.size, 0, none⟩)])]) rfl
 obtain ⟨W14, i14, H14, z14⟩ := H13.ins 14 (.agg #[.bool false, .bool false, .bool true, .bool false, .int .i64 0, .int .i64 0, .bool false, (.func (.func 205) #[] #[.pointer (some ⟨w.heap.size, 0, none⟩)])]) rfl
 obtain ⟨W15, i15, H15, z15⟩ := H14.ins 15 (.agg #[.bool true, .bool false, .bool false, .bool false, .int .i64 0, .int .i64 0, .bool false, (.func (.func 205) #[] #[.pointer (some ⟨w.heap.size, 0, none⟩)])]) rfl
 have HH := Lib.hid H15
 clear H0 H1 z1 H2 z2 H3 z3 H4 z4 H5 z5 H6 z6 H7 z7 H8 z8 H9 z9 H10 z10 H11 z11 H12 z12 H13 z13 H14 z14 H15 z15
 have hmk : ∀ w : World, (Instr.makeMap 130 none).run Tryz.prog w = .ok (.map (some w.heap.size)) (w.alloc (.map #[] 0)) := fun _ => rfl
 go_enter Tryz.func70, Tryz.ntmps70
 go_wp2_with fail
 refine (count_any w 0).mono ?_
 rintro e wa ⟨rfl, rfl⟩
 go_wp2_with fail
 clear i1 i2 i3 i4 i5 i6 i7 i8 i9 i10 i11 i12 i13 i14 i15
 refine (count_any W15 2).mono ?_
 rintro e wa ⟨rfl, rfl⟩
 obtain ⟨c1, hc1⟩ : ∃ c, W15.heap.size = c := ⟨_, rfl⟩
 have N1 := HH.out.new 2
 rw [hc1] at N1
 simp only [hc1]
 obtain ⟨W16, i16, H16, z16⟩ := N1.ins 16 (.agg #[.bool false, .bool false, .bool false, .bool false, .int .i64 0, .int .i64 0, .bool false, (.func (.func 205) #[] #[.pointer (some ⟨c1, 0, none⟩)])]) rfl
 obtain ⟨W17, i17, H17, z17⟩ := H16.ins 17 (.agg #[.bool true, .bool false, .bool false, .bool false, .int .i64 0, .int .i64 0, .bool true, (.func (.func 126) #[] #[])]) rfl
 obtain ⟨W18, i18, H18, z18⟩ := H17.ins 18 (.agg #[.bool false, .bool false, .bool false, .bool false, .int .i64 0, .int .i64 0, .bool false, (.func (.func 135) #[] #[])]) rfl
 clear HH
 have HH := Lib.hid H18
 clear N1 H16 z16 H17 z17 H18 z18
 go_wp2_with fail
 clear i16 i17 i18
 refine (count_any W18 1).mono ?_
 rintro e wa ⟨rfl, rfl⟩
 obtain ⟨c2, hc2⟩ : ∃ c, W18.heap.size = c := ⟨_, rfl⟩
 have N2 := HH.out.new 1
 rw [hc2] at N2
 simp only [hc2]
 obtain ⟨W19, i19, H19, z19⟩ := N2.ins 19 (.agg #[.bool false, .bool false, .bool false, .bool false, .int .i64 0, .int .i64 0, .bool false, (.func (.func 205) #[] #[.pointer (some ⟨c2, 0, none⟩)])]) rfl
 clear HH
 have HH := Lib.hid H19
 clear N2 H19 z19
 go_wp2_with fail
 clear i19
 refine (count_any W19 2).mono ?_
 rintro e wa ⟨rfl, rfl⟩
 obtain ⟨c3, hc3⟩ : ∃ c, W19.heap.size = c := ⟨_, rfl⟩
 have N3 := HH.out.new 2
 rw [hc3] at N3
 simp only [hc3]
 obtain ⟨W20, i20, H20, z20⟩ := N3.ins 20 (.agg #[.bool false, .bool false, .bool false, .bool false, .int .i64 0, .int .i64 0, .bool false, (.func (.func 205) #[] #[.pointer (some ⟨c3, 0, none⟩)])]) rfl
 clear HH
 have HH := Lib.hid H20
 clear N3 H20 z20
 go_wp2_with fail
 clear i20
 refine (count_any W20 2).mono ?_
 rintro e wa ⟨rfl, rfl⟩
 obtain ⟨c4, hc4⟩ : ∃ c, W20.heap.size = c := ⟨_, rfl⟩
 have N4 := HH.out.new 2
 rw [hc4] at N4
 simp only [hc4]
 obtain ⟨W21, i21, H21, z21⟩ := N4.ins 21 (.agg #[.bool false, .bool true, .bool false, .bool false, .int .i64 0, .int .i64 0, .bool false, (.func (.func 205) #[] #[.pointer (some ⟨c4, 0, none⟩)])]) rfl
 clear HH
 have HH := Lib.hid H21
 clear N4 H21 z21
 go_wp2_with fail
 clear i21
 refine (count_any W21 1).mono ?_
 rintro e wa ⟨rfl, rfl⟩
 obtain ⟨c5, hc5⟩ : ∃ c, W21.heap.size = c := ⟨_, rfl⟩
 have N5 := HH.out.new 1
 rw [hc5] at N5
 simp only [hc5]
 obtain ⟨W22, i22, H22, z22⟩ := N5.ins 22 (.agg #[.bool false, .bool false, .bool false, .bool false, .int .i64 0, .int .i64 0, .bool false, (.func (.func 205) #[] #[.pointer (some ⟨c5, 0, none⟩)])]) rfl
 clear HH
 have HH := Lib.hid H22
 clear N5 H22 z22
 go_wp2_with fail
 clear i22
 refine (count_any W22 1).mono ?_
 rintro e wa ⟨rfl, rfl⟩
 obtain ⟨c6, hc6⟩ : ∃ c, W22.heap.size = c := ⟨_, rfl⟩
 have N6 := HH.out.new 1
 rw [hc6] at N6
 simp only [hc6]
 obtain ⟨W23, i23, H23, z23⟩ := N6.ins 23 (.agg #[.bool false, .bool false, .bool false, .bool false, .int .i64 0, .int .i64 0, .bool false, (.func (.func 205) #[] #[.pointer (some ⟨c6, 0, none⟩)])]) rfl
 clear HH
 have HH := Lib.hid H23
 clear N6 H23 z23
 go_wp2_with fail
 clear i23
 refine (count_any W23 1).mono ?_
 rintro e wa ⟨rfl, rfl⟩
 obtain ⟨c7, hc7⟩ : ∃ c, W23.heap.size = c := ⟨_, rfl⟩
 have N7 := HH.out.new 1
 rw [hc7] at N7
 simp only [hc7]
 obtain ⟨W24, i24, H24, z24⟩ := N7.ins 24 (.agg #[.bool false, .bool false, .bool false, .bool false, .int .i64 0, .int .i64 0, .bool false, (.func (.func 205) #[] #[.pointer (some ⟨c7, 0, none⟩)])]) rfl
 clear HH
 have HH := Lib.hid H24
 clear N7 H24 z24
 go_wp2_with fail
 clear i24
 go_ret
 have hb := HH.out.box
 refine ⟨w.heap.size + 1, rfl, Nat.le_succ _, HH.out.ext, w.heap.size, c1, c2, c3, c4, c5, c6, c7, HH.out.map, fun p hp => ?_⟩
 have hq : p ∈ [(c7, (1 : Int)), (c6, 1), (c5, 1), (c4, 2), (c3, 2), (c2, 1), (c1, 2), (w.heap.size, 0)] := by
  simp only [shB, List.mem_cons, List.not_mem_nil, or_false] at hp ⊢
  rcases hp with h | h | h | h | h | h | h | h <;> simp [h]
 exact ⟨(hb p hq).2.2, (hb p hq).1⟩
def ShV (lo : Nat) (w : World) (sv : Value) (s : Shp) (st : Bool) : Prop := ∃ (F : Nat) (lb : Array Value) (bs : List (Nat × Int)), sv = .agg #[.bool s.name, .bool s.oper, .bool s.text, .bool s.num, .int .i64 (s.least : Int), .int .i64 (s.most : Int), .bool st, .func (.func F) #[] lb] ∧ (∀ (args : Array Value) (w : World), (callFunc F args).run Tryz.prog w = .ok (.enter F args) w) ∧ (∀ p ∈ bs, lo ≤ p.1 ∧ Blk w p.1 3 #[.int .i64 p.2]) ∧ KidsF bs F lb s.kids
theorem zero_shape (w : World) : (zeroValue 128).run Tryz.prog w = .ok (.agg #[.bool false, .bool false, .bool false, .bool false, .int .i64 0, .int .i64 0, .bool false, .nilFunc]) w := by kernel_rfl
theorem ShAt.nolook {lo : Nat} {w : World} {M : Nat} (h : ShAt lo w M) (k : Int) (hk : ¬ (1 ≤ k ∧ k ≤ 24)) (b : Bool) : (Instr.lookup 130 (.map (some M)) (.int .i64 k) b).run Tryz.prog w = .ok (if b then .tuple #[.agg #[.bool false, .bool false, .bool false, .bool false, .int .i64 0, .int .i64 0, .bool false, .nilFunc], .bool false] else .agg #[.bool false, .bool false, .bool false, .bool false, .int .i64 0, .int .i64 0, .bool false, .nilFunc]) w := by
 obtain ⟨b0, b1, b2, b3, b4, b5, b6, b7, hm, _⟩ := h
 refine run_lookup_none (P := Tryz.prog) Tryz.underlying130 Tryz.underlying24 rfl _ _ _ _ _ (zero_shape w) hm ?_ b
 have hne : ∀ j : Int, 1 ≤ j → j ≤ 24 → (Instr.sameNow (.int .i64) (.int .i64 k) (.int .i64 j) == some false) = true := fun j h1 h2 => by
  have : (k == j) = false := beq_eq_false_iff_ne.2 (by omega)
  show ((some (k == j)) == some false) = true
  rw [this]; rfl
 unfold shL noKey
 simp only [List.all_cons, List.all_nil, Bool.and_true, Bool.and_eq_true]
 repeat' (first | exact hne _ (by omega) (by omega) | refine ⟨?_, ?_⟩)
theorem ShAt.look {lo : Nat} {w : World} {M : Nat} (h : ShAt lo w M) (k : Int) (s : Shp) (hs : shapeP k = some s) (b : Bool) : ∃ sv, (∀ W', Ext w W' → (Instr.lookup 130 (.map (some M)) (.int .i64 k) b).run Tryz.prog W' = .ok (if b then .tuple #[sv, .bool true] else sv) W') ∧ ShV lo w sv s (stmtK k) := by
 obtain ⟨b0, b1, b2, b3, b4, b5, b6, b7, hm, hb⟩ := h
 have hk : 0 ≤ k ∧ k ≤ 24 := by
  rcases Classical.em (0 ≤ k ∧ k ≤ 24) with h1 | h1
  ·exact h1
  ·rw [shapeP_out h1] at hs; cases hs
 have key : ∀ v, under (.int .i64) (.int .i64 k) (shL b0 b1 b2 b3 b4 b5 b6 b7) = some v → ∀ W', Ext w W' → (Instr.lookup 130 (.map (some M)) (.int .i64 k) b).run Tryz.prog W' = .ok (if b then .tuple #[v, .bool true] else v) W' :=
  fun v hv W' he => run_lookup_lit (P := Tryz.prog) Tryz.underlying130 Tryz.underlying24 rfl _ _ _ _ _ ((he.block M (heap_lt hm)).trans hm) hv b
 have hn0 : k ≠ 0 := by intro e; subst e; simp [shapeP] at hs
 rcases kinds_all hk.1 hk.2 with rfl|rfl|rfl|rfl|rfl|rfl|rfl|rfl|rfl|rfl|rfl|rfl|rfl|rfl|rfl|rfl|rfl|rfl|rfl|rfl|rfl|rfl|rfl|rfl|rfl
 ·exact absurd rfl hn0
 ·simp only [shapeP, reduceIte, Int.reduceEq, or_true, true_or, or_false, false_or, Option.some.injEq] at hs
  subst hs
  exact ⟨_, key _ rfl, 126, _, shB b0 b1 b2 b3 b4 b5 b6 b7, rfl, fun _ _ => rfl, hb, kf_exprs _⟩
 ·simp only [shapeP, reduceIte, Int.reduceEq, or_true, true_or, or_false, false_or, Option.some.injEq] at hs
  subst hs
  exact ⟨_, key _ rfl, 127, _, shB b0 b1 b2 b3 b4 b5 b6 b7, rfl, fun _ _ => rfl, hb, kf_assign _⟩
 ·simp only [shapeP, reduceIte, Int.reduceEq, or_true, true_or, or_false, false_or, Option.some.injEq] at hs
  subst hs
  exact ⟨_, key _ rfl, 128, _, shB b0 b1 b2 b3 b4 b5 b6 b7, rfl, fun _ _ => rfl, hb, kf_do _⟩
 ·simp only [shapeP, reduceIte, Int.reduceEq, or_true, true_or, or_false, false_or, Option.some.injEq] at hs
  subst hs
  exact ⟨_, key _ rfl, 130, _, shB b0 b1 b2 b3 b4 b5 b6 b7, rfl, fun _ _ => rfl, hb, kf_if _⟩
 ·simp only [shapeP, reduceIte, Int.reduceEq, or_true, true_or, or_false, false_or, Option.some.injEq] at hs
  subst hs
  exact ⟨_, key _ rfl, 131, _, shB b0 b1 b2 b3 b4 b5 b6 b7, rfl, fun _ _ => rfl, hb, kf_while _⟩
 ·simp only [shapeP, reduceIte, Int.reduceEq, or_true, true_or, or_false, false_or, Option.some.injEq] at hs
  subst hs
  exact ⟨_, key _ rfl, 132, _, shB b0 b1 b2 b3 b4 b5 b6 b7, rfl, fun _ _ => rfl, hb, kf_for _⟩
 ·simp only [shapeP, reduceIte, Int.reduceEq, or_true, true_or, or_false, false_or, Option.some.injEq] at hs
  subst hs
  exact ⟨_, key _ rfl, 133, _, shB b0 b1 b2 b3 b4 b5 b6 b7, rfl, fun _ _ => rfl, hb, kf_return _⟩
 ·simp only [shapeP, reduceIte, Int.reduceEq, or_true, true_or, or_false, false_or, Option.some.injEq] at hs
  subst hs
  exact ⟨_, key _ rfl, 205, _, shB b0 b1 b2 b3 b4 b5 b6 b7, rfl, fun _ _ => rfl, hb, kf_count _ b0 0 (by simp [shB])⟩
 ·simp only [shapeP, reduceIte, Int.reduceEq, or_true, true_or, or_false, false_or, Option.some.injEq] at hs
  subst hs
  exact ⟨_, key _ rfl, 134, _, shB b0 b1 b2 b3 b4 b5 b6 b7, rfl, fun _ _ => rfl, hb, kf_func _⟩
 ·simp only [shapeP, reduceIte, Int.reduceEq, or_true, true_or, or_false, false_or, Option.some.injEq] at hs
  subst hs
  exact ⟨_, key _ rfl, 205, _, shB b0 b1 b2 b3 b4 b5 b6 b7, rfl, fun _ _ => rfl, hb, kf_count _ b0 0 (by simp [shB])⟩
 ·simp only [shapeP, reduceIte, Int.reduceEq, or_true, true_or, or_false, false_or, Option.some.injEq] at hs
  subst hs
  exact ⟨_, key _ rfl, 205, _, shB b0 b1 b2 b3 b4 b5 b6 b7, rfl, fun _ _ => rfl, hb, kf_count _ b0 0 (by simp [shB])⟩
 ·simp only [shapeP, reduceIte, Int.reduceEq, or_true, true_or, or_false, false_or, Option.some.injEq] at hs
  subst hs
  exact ⟨_, key _ rfl, 205, _, shB b0 b1 b2 b3 b4 b5 b6 b7, rfl, fun _ _ => rfl, hb, kf_count _ b0 0 (by simp [shB])⟩
 ·simp only [shapeP, reduceIte, Int.reduceEq, or_true, true_or, or_false, false_or, Option.some.injEq] at hs
  subst hs
  exact ⟨_, key _ rfl, 205, _, shB b0 b1 b2 b3 b4 b5 b6 b7, rfl, fun _ _ => rfl, hb, kf_count _ b0 0 (by simp [shB])⟩
 ·simp only [shapeP, reduceIte, Int.reduceEq, or_true, true_or, or_false, false_or, Option.some.injEq] at hs
  subst hs
  exact ⟨_, key _ rfl, 205, _, shB b0 b1 b2 b3 b4 b5 b6 b7, rfl, fun _ _ => rfl, hb, kf_count _ b0 0 (by simp [shB])⟩
 ·simp only [shapeP, reduceIte, Int.reduceEq, or_true, true_or, or_false, false_or, Option.some.injEq] at hs
  subst hs
  exact ⟨_, key _ rfl, 205, _, shB b0 b1 b2 b3 b4 b5 b6 b7, rfl, fun _ _ => rfl, hb, kf_count _ b0 0 (by simp [shB])⟩
 ·simp only [shapeP, reduceIte, Int.reduceEq, or_true, true_or, or_false, false_or, Option.some.injEq] at hs
  subst hs
  exact ⟨_, key _ rfl, 205, _, shB b0 b1 b2 b3 b4 b5 b6 b7, rfl, fun _ _ => rfl, hb, kf_count _ b1 2 (by simp [shB])⟩
 ·simp only [shapeP, reduceIte, Int.reduceEq, or_true, true_or, or_false, false_or, Option.some.injEq] at hs
  subst hs
  exact ⟨_, key _ rfl, 126, _, shB b0 b1 b2 b3 b4 b5 b6 b7, rfl, fun _ _ => rfl, hb, kf_exprs _⟩
 ·simp only [shapeP, reduceIte, Int.reduceEq, or_true, true_or, or_false, false_or, Option.some.injEq] at hs
  subst hs
  exact ⟨_, key _ rfl, 135, _, shB b0 b1 b2 b3 b4 b5 b6 b7, rfl, fun _ _ => rfl, hb, kf_table _⟩
 ·simp only [shapeP, reduceIte, Int.reduceEq, or_true, true_or, or_false, false_or, Option.some.injEq] at hs
  subst hs
  exact ⟨_, key _ rfl, 205, _, shB b0 b1 b2 b3 b4 b5 b6 b7, rfl, fun _ _ => rfl, hb, kf_count _ b2 1 (by simp [shB])⟩
 ·simp only [shapeP, reduceIte, Int.reduceEq, or_true, true_or, or_false, false_or, Option.some.injEq] at hs
  subst hs
  exact ⟨_, key _ rfl, 205, _, shB b0 b1 b2 b3 b4 b5 b6 b7, rfl, fun _ _ => rfl, hb, kf_count _ b3 2 (by simp [shB])⟩
 ·simp only [shapeP, reduceIte, Int.reduceEq, or_true, true_or, or_false, false_or, Option.some.injEq] at hs
  subst hs
  exact ⟨_, key _ rfl, 205, _, shB b0 b1 b2 b3 b4 b5 b6 b7, rfl, fun _ _ => rfl, hb, kf_count _ b4 2 (by simp [shB])⟩
 ·simp only [shapeP, reduceIte, Int.reduceEq, or_true, true_or, or_false, false_or, Option.some.injEq] at hs
  subst hs
  exact ⟨_, key _ rfl, 205, _, shB b0 b1 b2 b3 b4 b5 b6 b7, rfl, fun _ _ => rfl, hb, kf_count _ b5 1 (by simp [shB])⟩
 ·simp only [shapeP, reduceIte, Int.reduceEq, or_true, true_or, or_false, false_or, Option.some.injEq] at hs
  subst hs
  exact ⟨_, key _ rfl, 205, _, shB b0 b1 b2 b3 b4 b5 b6 b7, rfl, fun _ _ => rfl, hb, kf_count _ b6 1 (by simp [shB])⟩
 ·simp only [shapeP, reduceIte, Int.reduceEq, or_true, true_or, or_false, false_or, Option.some.injEq] at hs
  subst hs
  exact ⟨_, key _ rfl, 205, _, shB b0 b1 b2 b3 b4 b5 b6 b7, rfl, fun _ _ => rfl, hb, kf_count _ b7 1 (by simp [shB])⟩
end Go.Proofs.YtkbcnacjaakleaaGreatDoor
