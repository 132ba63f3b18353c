/- The listing of a program without constants. -/
import Derived.Test.YtifabbjgbfpfbaaDoorLine
import Derived.Test.YtifabbjgbfpfbaaDoorBld
import Derived.Test.YtifabbjgbfpfbaaDoorChkB
import Derived.Lib.Join
namespace Go.Proofs.YtifabbjgbfpfbaaDoor
open Go.RowKit
set_option linter.unusedVariables false
set_option linter.unusedSimpArgs false

def sFunc : ByteArray := ⟨#[102, 117, 110, 99]⟩
def insL (i : Ins) : List UInt8 := (lineS [] [i.op, i.a, i.b, i.c]).data.toList
def headL (f : Pr) : List UInt8 := (lineS [sFunc] [f.pa, f.rg]).data.toList
def protoL (f : Pr) : List UInt8 := headL f ++ f.cd.flatMap insL
def protosL (p : Pg) : List UInt8 := p.ps.flatMap protoL
theorem its_len {n : Int} (h : i64 n) : (itS n).data.toList.length ≤ 21 := by
  have := Lib.itoa_length_le n h.1 h.2
  simpa [itS] using this
theorem join_le (sep : List UInt8) : ∀ xs : List (List UInt8), (∀ x ∈ xs, x.length ≤ 21) → (Lib.join xs sep).length ≤ xs.length * (21 + sep.length)
  | [], _ => by simp [Lib.join_nil]
  | x :: xs, h => by
    rw [Lib.join_cons, List.length_append, Lib.joinTail_length]
    have h1 := h x (List.mem_cons_self ..)
    have h2 : Lib.lens xs ≤ xs.length * 21 := by
      have hx : ∀ y ∈ xs, y.length ≤ 21 := fun y hy => h y (List.mem_cons_of_mem _ hy)
      clear h h1
      induction xs with
      | nil => simp [Lib.lens]
      | cons y ys ih =>
        have := ih (fun z hz => hx z (List.mem_cons_of_mem _ hz))
        have := hx y (List.mem_cons_self ..)
        simp only [Lib.lens, List.map_cons, List.sum_cons, List.length_cons] at *
        omega
    simp only [List.length_cons]
    have e1 : (xs.length + 1) * (21 + sep.length) = xs.length * 21 + sep.length * xs.length + 21 + sep.length := by
      rw [Nat.add_mul, Nat.mul_add, Nat.mul_comm xs.length sep.length]; omega
    omega
theorem join4 {a b c d : Int} (ha : i64 a) (hb : i64 b) (hc : i64 c) (hd : i64 d) : (joinL (lineX [] [a, b, c, d])).length ≤ 100 := by
  have := join_le [32] ((lineX [] [a, b, c, d]).map (·.data.toList)) (by
    intro x hx
    simp [lineX] at hx
    rcases hx with rfl | rfl | rfl | rfl
    · exact its_len ha
    · exact its_len hb
    · exact its_len hc
    · exact its_len hd)
  simp [lineX] at this
  unfold joinL
  simp only [lineX]
  simpa using Nat.le_trans this (by omega)
theorem join2 {a b : Int} (ha : i64 a) (hb : i64 b) : (joinL (lineX [sFunc] [a, b])).length ≤ 100 := by
  have := join_le [32] ((lineX [sFunc] [a, b]).map (·.data.toList)) (by
    intro x hx
    simp [lineX] at hx
    rcases hx with rfl | rfl | rfl
    · decide
    · exact its_len ha
    · exact its_len hb)
  simp [lineX] at this
  unfold joinL
  simp only [lineX]
  simpa using Nat.le_trans this (by omega)
theorem line_size (pre : List ByteArray) (l : List Int) : (lineS pre l).size = (joinL (lineX pre l)).length + 1 := by
  unfold lineS
  rw [ByteArray.size_append]
  rfl
theorem Bld.ext {T e : TypeId} {B b : Nat} {bs : List Value} {w w' : World} (h : Lib.IsBuilder T e B b bs w) (he : Ext w w') : Lib.IsBuilder T e B b bs w' := by
  have key : ∀ p, Lib.BuilderAt T e B b p bs w → Lib.BuilderAt T e B b p bs w' := by
    rintro p ⟨hB, v, hb, hown, hne⟩
    exact ⟨hB, v, (he.block b (Array.getElem?_eq_some_iff.1 hb).1).trans hb, own_ext hown he, hne⟩
  exact h.imp (key _) (key _)
theorem nums_new (w : World) (t : TypeId) (l : List Int) (g : Nat) (hg : g = w.heap.size) : NumsAt (w.alloc (.cells (l.map (Value.int .i64)).toArray t)) (.slice (some ⟨g, 0, none⟩) l.length l.length) l := by
  subst hg
  refine ⟨_, _, rfl, fun _ => ⟨_, _, rfl, fun i hi => ?_⟩⟩
  rw [(Blk.new w t _).cell]
  simp [hi]
theorem fm_snoc {α : Type} (f : α → List UInt8) (l : List α) (k : Nat) (h : k < l.length) : (l.take (k + 1)).flatMap f = (l.take k).flatMap f ++ f l[k] := by
  rw [List.take_succ_eq_append_getElem h, List.flatMap_append]; simp
theorem fm_le {α : Type} (f : α → List UInt8) (m : Nat) (l : List α) (h : ∀ x ∈ l, (f x).length ≤ m) : (l.flatMap f).length ≤ l.length * m := by
  induction l with
  | nil => simp
  | cons x l ih =>
    have := ih (fun y hy => h y (List.mem_cons_of_mem _ hy))
    have := h x (List.mem_cons_self ..)
    simp only [List.flatMap_cons, List.length_append, List.length_cons, Nat.add_mul]
    omega
theorem ins_len {i : Ins} (h : InsW i) : (insL i).length ≤ 101 := by
  have := join4 h.op h.a h.b h.c
  have e := line_size [] [i.op, i.a, i.b, i.c]
  have : (insL i).length = (lineS [] [i.op, i.a, i.b, i.c]).size := rfl
  omega
theorem head_len {f : Pr} (h : PrW f) : (headL f).length ≤ 101 := by
  have := join2 h.pa h.rg
  have e := line_size [sFunc] [f.pa, f.rg]
  have : (headL f).length = (lineS [sFunc] [f.pa, f.rg]).size := rfl
  omega
theorem proto_len {f : Pr} (h : PrW f) (hn : f.cd.length ≤ 200) : (protoL f).length ≤ 101 + 200 * 101 := by
  have := fm_le insL 101 f.cd (fun i hi => ins_len (h.cd i hi))
  have := head_len h
  have : f.cd.length * 101 ≤ 200 * 101 := Nat.mul_le_mul_right _ hn
  simp only [protoL, List.length_append]
  omega

set_option maxRecDepth 100000 in
set_option maxHeartbeats 8000000 in
theorem list_plain (p : Pg) (vp vi vt : Value) (w : World) (ht : Pow w) (h0 : Lies w vp vi vt p) (hs : Few p) (hw : ∀ f ∈ p.ps, PrW f) (hi : p.ni = 0) (hts : p.ts = []) (hp : 0 < p.ps.length) (hk : chkP p = true) :
    Calls Tryd.prog 14 #[.agg #[vp, vi, vt]] w fun e w' => e = .returned (.tuple #[.string ⟨(protosL p).toArray⟩, .int .i64 0]) ∧ Ext w w' := by
  have cK := fun W (hE : Ext w W) => chk_any p vp vi vt W (h0.ext hE) hs (by rw [hts]; intro s hs; cases hs)
  rw [hk] at cK
  have H := Lib.hid h0
  obtain ⟨qp, cp, rfl, hx0⟩ := h0.ps
  obtain ⟨pb, po, rfl, hx⟩ := hx0 hp
  clear hx0
  obtain ⟨qi, ci, rfl⟩ := h0.is
  obtain ⟨qt, ct, rfl, _⟩ := h0.ts
  rw [hi, hts] at H cK ⊢
  obtain ⟨n, hn⟩ : ∃ n, p.ps.length = n := ⟨_, rfl⟩
  have n2 : n ≤ 100 := by rw [← hn]; exact hs.np
  have HX := Lib.hid hx
  rw [hn] at H cK ⊢
  have HN := Lib.hid hn
  clear hn hx h0 hk hi hts hp
  go_enter Tryd.func14, Tryd.ntmps14
  go_wp2_with fail
  refine (cK _ ((Ext.refl w).alloc _)).mono ?_
  rintro e w1 ⟨rfl, e1⟩
  have hb1 : Blk w1 w.heap.size 26 #[.slice (some ⟨pb, po, none⟩) n cp, .slice qi 0 ci, .slice qt 0 ct] := (Blk.new w _ _).ext e1
  have k1 : Ext w w1 := ((Ext.refl w).alloc _).trans e1
  have b0 := hb1.cell 0
  have b1 := hb1.cell 1
  have b2 := hb1.cell 2
  simp only [List.getElem?_toArray, List.getElem?_cons_zero, List.getElem?_cons_succ] at b0 b1 b2
  have l1 := hb1.lt
  have HB1 := Lib.hid hb1
  have HK1 := Lib.hid k1
  clear cK e1 hb1 k1
  go_wp2_with fail
  have HBL : Hid (Lib.IsBuilder 57 5 w.heap.size w1.heap.size (Lib.byteCells []) (w1.alloc (.cells #[.pointer none, .slice none 0 0] 57))) :=
    .inl ⟨HK1.out.le, .slice none 0 0, Blk.new _ _ _, World.ownsRow_nil _ _ _ _, by simp [Value.ownBlock]⟩
  clear b0 b1 b2
  go_loopg [19] n (fun g s19 wr => ∃ (k : Nat), k + g = n ∧ s19 = .int .i64 k ∧ Ext w wr ∧ Blk wr w.heap.size 26 #[.slice (some ⟨pb, po, none⟩) n cp, .slice qi 0 ci, .slice qt 0 ct] ∧ Hid (Lib.IsBuilder 57 5 w.heap.size w1.heap.size (Lib.byteCells ((p.ps.take k).flatMap protoL)) wr))
  case atStart => exact ⟨0, by omega, rfl, HK1.out.alloc _, HB1.out.alloc _, HBL⟩
  case round =>
    obtain ⟨k, hkg, rfl, he, hbk, HB⟩ := hrel
    cases gk with
    | zero =>
      obtain rfl : k = n := by omega
      have hkz : ¬ ((k : Int) < (k : Int)) := by omega
      have b1 := hbk.cell 1
      have b2 := hbk.cell 2
      simp only [List.getElem?_toArray, List.getElem?_cons_zero, List.getElem?_cons_succ] at b1 b2
      have HE := Lib.hid he
      clear he hbk
      have HL : Hid (Lib.IsBuilder 57 5 w.heap.size w1.heap.size (Lib.byteCells (protosL p)) wr) := by
        have := HB.out
        rw [List.take_of_length_le (by rw [HN.out]; exact Nat.le_refl _)] at this
        exact this
      obtain ⟨wb, rfl⟩ : ∃ wb : World, wb = wr := ⟨_, rfl⟩
      go_wp2_with fail
      go_loopg [53] 0 (fun g s wx => s = .int .i64 0 ∧ wx = wb)
      case atStart => exact ⟨rfl, rfl⟩
      case round =>
        obtain ⟨rfl, rfl⟩ := hrel
        go_wp2_with fail
        obtain ⟨wc, rfl⟩ : ∃ wc : World, wc = wr := ⟨_, rfl⟩
        go_loopg [66] 0 (fun g s wx => s = .int .i64 0 ∧ wx = wc)
        case atStart => exact ⟨rfl, rfl⟩
        case round =>
          obtain ⟨rfl, rfl⟩ := hrel
          go_wp2_with fail
          refine (Tryd.Builder_String_any w.heap.size w1.heap.size (protosL p) _ HL.out HE.out.le).mono ?_
          rintro e w9 ⟨rfl, e9⟩
          have HE9 : Hid (Ext w w9) := Below.trans HE.out e9
          clear e9
          go_wp2_with fail
          go_ret2
          exact ⟨rfl, HE9.out⟩
    | succ g =>
      have hkz : (k : Int) < (n : Int) := by omega
      have hkn : k < n := by omega
      have hkl : k < p.ps.length := by rw [HN.out]; exact hkn
      obtain ⟨q1, cc, c1, c2, c3, c4⟩ := proto_at HX.out k hkl
      have hpw := hw _ (List.getElem_mem hkl)
      have hln := hs.nc _ (List.getElem_mem hkl)
      have HS := Lib.hid (fm_snoc protoL p.ps k hkl)
      have hle0 := fm_le protoL (101 + 200 * 101) (p.ps.take k) (fun f hf => proto_len (hw f (List.mem_of_mem_take hf)) (hs.nc f (List.mem_of_mem_take hf)))
      have hle : ((p.ps.take k).flatMap protoL).length ≤ 100 * (101 + 200 * 101) := by
        refine Nat.le_trans hle0 (Nat.mul_le_mul_right _ ?_)
        have := List.length_take_le k p.ps
        omega
      clear hle0
      obtain ⟨f0, hf0⟩ : ∃ f, p.ps[k] = f := ⟨_, rfl⟩
      rw [hf0] at c1 c2 c3 c4 hpw hln HS
      obtain ⟨bs, hbs⟩ : ∃ bs, (p.ps.take k).flatMap protoL = bs := ⟨_, rfl⟩
      rw [hbs] at HB HS hle
      clear hf0 hkl hbs
      replace c1 := he.cell c1
      replace c2 := he.cell c2
      replace c3 := he.cell c3
      have C4 := Lib.hid c4
      have HE := Lib.hid he
      have HBK := Lib.hid hbk
      have lb := cell_lt c1
      simp only at lb
      clear c4 he hbk
      go_wp2_with fail
      have cL := line_word sFunc (by decide) [f0.pa, f0.rg] _ _ (ht.ext ((HE.out.alloc (.cells #[.int .i64 f0.pa, .int .i64 f0.rg, .slice q1 f0.cd.length cc] 34)).alloc (.cells #[.int .i64 f0.pa, .int .i64 f0.rg] 3))) (nums_new (wr.alloc (.cells #[.int .i64 f0.pa, .int .i64 f0.rg, .slice q1 f0.cd.length cc] 34)) 3 [f0.pa, f0.rg] (wr.heap.size + 1) (size_alloc _ _).symm) (by simp) (by intro x hx; simp at hx; rcases hx with rfl | rfl; exact hpw.pa; exact hpw.rg) (Nat.le_trans (join2 hpw.pa hpw.rg) (by omega))
      refine cL.mono ?_
      clear cL
      rintro e w2 ⟨rfl, e2⟩
      have HF2 := Lib.hid (((Blk.new wr 34 #[.int .i64 f0.pa, .int .i64 f0.rg, .slice q1 f0.cd.length cc]).alloc (.cells #[.int .i64 f0.pa, .int .i64 f0.rg] 3)).ext e2)
      have r2 := Lib.hid ((((Ext.refl wr).alloc _).alloc _).trans e2)
      clear e2
      go_wp2_with fail
      refine (bwrite_any w.heap.size w1.heap.size _ (lineS [sFunc] [f0.pa, f0.rg]) _ (Bld.ext HB.out r2.out) (by rw [Lib.byteCells_length, line_size]; have := join2 hpw.pa hpw.rg; omega) (HE.out.trans r2.out).le).mono ?_
      rintro e w3 ⟨rfl, B3, e3, K3⟩
      have HB3 : Hid (Lib.IsBuilder 57 5 w.heap.size w1.heap.size (Lib.byteCells (bs ++ headL f0)) w3) := by
        have e : Lib.byteCells (bs ++ headL f0) = Lib.byteCells bs ++ Lib.strCells (lineS [sFunc] [f0.pa, f0.rg]) := by simp [Lib.byteCells, Lib.strCells, headL]
        rw [e]; exact .inr B3
      have HE3 := Lib.hid (show Ext w w3 from Below.trans (HE.out.trans r2.out) e3)
      have HF3 := Lib.hid (K3 _ _ _ HF2.out (by decide) (by decide))
      have HBK3 := Lib.hid (K3 _ _ _ (HBK.out.ext r2.out) (by decide) (by decide))
      have f2 := HF3.out.cell 2
      simp only [List.getElem?_toArray, List.getElem?_cons_zero, List.getElem?_cons_succ] at f2
      clear B3 e3 K3 c1 c2 c3 lb HB HF2
      obtain ⟨m, hm⟩ : ∃ m, f0.cd.length = m := ⟨_, rfl⟩
      rw [hm] at C4 hln f2
      have HM := Lib.hid hm
      clear hm
      go_wp2_with fail
      obtain ⟨wq, rfl⟩ : ∃ wq : World, wq = wr := ⟨_, rfl⟩
      go_loopg [33] m (fun g3 s33 wx => ∃ (j : Nat), j + g3 = m ∧ s33 = .int .i64 j ∧ Ext w wx ∧ Blk wx w.heap.size 26 #[.slice (some ⟨pb, po, none⟩) n cp, .slice qi 0 ci, .slice qt 0 ct] ∧ Hid (Lib.IsBuilder 57 5 w.heap.size w1.heap.size (Lib.byteCells (bs ++ headL f0 ++ (f0.cd.take j).flatMap insL)) wx))
      case atStart => exact ⟨0, by omega, rfl, HE3.out, HBK3.out, by simpa using HB3⟩
      case round =>
        obtain ⟨j, hjg, rfl, he, hbk, HJ⟩ := hrel
        cases gk with
        | zero =>
          obtain rfl : j = m := by omega
          have hjz : ¬ ((j : Int) < (j : Int)) := by omega
          have HZ : Hid (Lib.IsBuilder 57 5 w.heap.size w1.heap.size (Lib.byteCells ((p.ps.take (k + 1)).flatMap protoL)) wr) := by
            have := HJ.out
            rw [List.take_of_length_le (by rw [HM.out]; exact Nat.le_refl _), List.append_assoc] at this
            rw [HS.out]; exact this
          have HE4 := Lib.hid he
          have HB4 := Lib.hid hbk
          clear he hbk f2
          go_wp2_with fail
          go_roundg g
          case rel => exact ⟨k + 1, by omega, by go_num, HE4.out, HB4.out, HZ⟩
          case measure => exact Nat.lt_succ_self _
        | succ g3 =>
          have hjz : (j : Int) < (m : Int) := by omega
          have hjl : j < f0.cd.length := by rw [HM.out]; omega
          obtain ⟨q2, c5, hqe, hq5⟩ := C4.out
          have hmm := HM.out
          cases hqe
          obtain ⟨cb, co, rfl, hc5⟩ := hq5 (by omega)
          obtain ⟨y0, y1, y2, y3⟩ := hc5 j hjl
          replace y0 := he.cell y0
          replace y1 := he.cell y1
          replace y2 := he.cell y2
          replace y3 := he.cell y3
          have hiw := hpw.cd _ (List.getElem_mem hjl)
          have HP := Lib.hid (fm_snoc insL f0.cd j hjl)
          have hle2 := fm_le insL 101 (f0.cd.take j) (fun i hi => ins_len (hpw.cd i (List.mem_of_mem_take hi)))
          have hle3 : ((f0.cd.take j).flatMap insL).length ≤ 200 * 101 := by
            refine Nat.le_trans hle2 (Nat.mul_le_mul_right _ ?_)
            have := List.length_take_le j f0.cd
            omega
          have hle4 := head_len hpw
          clear hle2 hc5 hq5
          obtain ⟨i0, hi0⟩ : ∃ i, f0.cd[j] = i := ⟨_, rfl⟩
          rw [hi0] at y0 y1 y2 y3 hiw HP
          obtain ⟨zs, hzs⟩ : ∃ zs, (f0.cd.take j).flatMap insL = zs := ⟨_, rfl⟩
          rw [hzs] at HJ HP hle3
          clear hi0 hzs hjl hmm f2
          have HE4 := Lib.hid he
          have HB4 := Lib.hid hbk
          have ly := cell_lt y0
          simp only at ly
          clear he hbk
          go_wp2_with fail
          have cL := line_none [i0.op, i0.a, i0.b, i0.c] _ _ (ht.ext ((HE4.out.alloc (.cells #[.int .i64 i0.op, .int .i64 i0.a, .int .i64 i0.b, .int .i64 i0.c] 37)).alloc (.cells #[.int .i64 i0.op, .int .i64 i0.a, .int .i64 i0.b, .int .i64 i0.c] 3))) (nums_new (wr.alloc (.cells #[.int .i64 i0.op, .int .i64 i0.a, .int .i64 i0.b, .int .i64 i0.c] 37)) 3 [i0.op, i0.a, i0.b, i0.c] (wr.heap.size + 1) (size_alloc _ _).symm) (by simp) (by intro x hx; simp at hx; rcases hx with rfl | rfl | rfl | rfl; exact hiw.op; exact hiw.a; exact hiw.b; exact hiw.c) (Nat.le_trans (join4 hiw.op hiw.a hiw.b hiw.c) (by omega))
          refine cL.mono ?_
          clear cL
          rintro e w4 ⟨rfl, e4⟩
          have r4 := Lib.hid ((((Ext.refl wr).alloc _).alloc _).trans e4)
          clear e4
          go_wp2_with fail
          refine (bwrite_any w.heap.size w1.heap.size _ (lineS [] [i0.op, i0.a, i0.b, i0.c]) _ (Bld.ext HJ.out r4.out) (by rw [Lib.byteCells_length, line_size]; have := join4 hiw.op hiw.a hiw.b hiw.c; simp only [List.length_append]; omega) (HE4.out.trans r4.out).le).mono ?_
          rintro e w5 ⟨rfl, B5, e5, K5⟩
          have HB5 : Hid (Lib.IsBuilder 57 5 w.heap.size w1.heap.size (Lib.byteCells (bs ++ headL f0 ++ (f0.cd.take (j + 1)).flatMap insL)) w5) := by
            have e : Lib.byteCells (bs ++ headL f0 ++ (f0.cd.take (j + 1)).flatMap insL) = Lib.byteCells (bs ++ headL f0 ++ zs) ++ Lib.strCells (lineS [] [i0.op, i0.a, i0.b, i0.c]) := by rw [HP.out]; simp [Lib.byteCells, Lib.strCells, insL]
            rw [e]; exact .inr B5
          have HE5 := Lib.hid (show Ext w w5 from Below.trans (HE4.out.trans r4.out) e5)
          have HBK5 := Lib.hid (K5 _ _ _ (HB4.out.ext r4.out) (by decide) (by decide))
          clear B5 e5 K5 y0 y1 y2 y3 ly
          go_wp2_with fail
          go_roundg g3
          case rel => exact ⟨j + 1, by omega, by go_num, HE5.out, HBK5.out, HB5⟩
          case measure => exact Nat.lt_succ_self _
end Go.Proofs.YtifabbjgbfpfbaaDoor
