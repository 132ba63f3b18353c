/- Replies: how they lie; the ways in which one is read, by its sign. -/
import Derived.Test.YtopdgmchkoaeeaaDoorRsI
import Derived.Test.YtopdgmchkoaeeaaDoorMap
import Derived.Laws.EntriesVeiled
namespace Go.Proofs.YtopdgmchkoaeeaaDoor
open Go.RowKit
set_option linter.unusedVariables false
set_option linter.unusedSimpArgs false
attribute [local go_sem ↓] Go.wp_at_zero Go.wp_at_succ

def Rep.k : Rep → Int
  | .mk k _ _ _ => k
def Rep.n : Rep → Int
  | .mk _ n _ _ => n
def Rep.s : Rep → ByteArray
  | .mk _ _ s _ => s
def Rep.l : Rep → List Rep
  | .mk _ _ _ l => l
/-- A list of replies in blocks of which something holds; d: no more than so many lists are in one another. -/
def ListAt (ok : Nat → Prop) (w : World) : Nat → Value → List Rep → Prop
  | 0, v, l => l = [] ∧ ∃ q c, v = .slice q 0 c
  | d + 1, v, l => ∃ (q : Option Addr) (c : Nat), v = .slice q l.length c ∧ (0 < l.length → ∃ b o, q = some ⟨b, o, none⟩ ∧ ok b ∧
      ∀ i (h : i < l.length), w.cell? ⟨b, o + i * 4, none⟩ = some (.int .i64 l[i].k) ∧ w.cell? ⟨b, o + i * 4 + 1, none⟩ = some (.int .i64 l[i].n) ∧ w.cell? ⟨b, o + i * 4 + 2, none⟩ = some (.string l[i].s) ∧ ∃ lv, w.cell? ⟨b, o + i * 4 + 3, none⟩ = some lv ∧ ListAt ok w d lv l[i].l)
/-- A reply as a value. -/
def RepV (ok : Nat → Prop) (w : World) (d : Nat) (v : Value) (r : Rep) : Prop :=
  ∃ lv, v = .agg #[.int .i64 r.k, .int .i64 r.n, .string r.s, lv] ∧ ListAt ok w d lv r.l
theorem ListAt.keep {ok ok' : Nat → Prop} {w w' : World} (h : ∀ b o x, ok b → w.cell? ⟨b, o, none⟩ = some x → w'.cell? ⟨b, o, none⟩ = some x) (hk : ∀ b, b < w.heap.size → ok b → ok' b) : ∀ {d : Nat} {v : Value} {l : List Rep}, ListAt ok w d v l → ListAt ok' w' d v l
  | 0, _, _, hl => hl
  | d + 1, v, l, ⟨q, c, e, hq⟩ => ⟨q, c, e, fun h0 => by
      obtain ⟨b, o, e1, hb, hx⟩ := hq h0
      refine ⟨b, o, e1, hk b ?_ hb, fun i hi => ?_⟩
      · have := cell_lt (hx 0 h0).1
        exact this
      · obtain ⟨h1, h2, h3, lv, h4, h5⟩ := hx i hi
        exact ⟨h _ _ _ hb h1, h _ _ _ hb h2, h _ _ _ hb h3, lv, h _ _ _ hb h4, h5.keep h hk⟩⟩
theorem ListAt.ext {ok : Nat → Prop} {w w' : World} (he : Ext w w') {d : Nat} {v : Value} {l : List Rep} (h : ListAt ok w d v l) : ListAt ok w' d v l :=
  h.keep (fun _ _ _ _ hc => he.cell hc) (fun _ _ h => h)
theorem ListAt.slice {ok : Nat → Prop} {w : World} : ∀ {d : Nat} {v : Value} {l : List Rep}, ListAt ok w d v l → ∃ q c, v = .slice q l.length c
  | 0, _, _, ⟨rfl, q, c, e⟩ => ⟨q, c, e⟩
  | _ + 1, _, _, ⟨q, c, e, _⟩ => ⟨q, c, e⟩
theorem ListAt.deeper {ok : Nat → Prop} {w : World} : ∀ {d : Nat} {v : Value} {l : List Rep}, ListAt ok w d v l → ListAt ok w (d + 1) v l
  | 0, _, _, ⟨rfl, q, c, e⟩ => ⟨q, c, e, fun h => absurd h (by simp)⟩
  | d + 1, v, l, ⟨q, c, e, hq⟩ => ⟨q, c, e, fun h0 => by
      obtain ⟨b, o, e1, hb, hx⟩ := hq h0
      refine ⟨b, o, e1, hb, fun i hi => ?_⟩
      obtain ⟨h1, h2, h3, lv, h4, h5⟩ := hx i hi
      exact ⟨h1, h2, h3, lv, h4, h5.deeper⟩⟩
theorem ListAt.upto {ok : Nat → Prop} {w : World} {d e : Nat} {v : Value} {l : List Rep} (h : ListAt ok w d v l) (hd : d ≤ e) : ListAt ok w e v l := by
  induction hd with
  | refl => exact h
  | step _ ih => exact ih.deeper

theorem new_at {W : World} {k : Nat} (h : k = W.heap.size) (t : TypeId) (cs : Array Value) : Blk (W.alloc (.cells cs t)) k t cs := by
  subst h; exact Blk.new W t cs
theorem Ext.ge {w w' : World} {B : Nat} (h : Ext w w') (hb : w.heap.size = B) : B ≤ w'.heap.size := hb ▸ h.le
/-- The functions that read a reply, by its sign. -/
def kindL (B tp ts : Nat) : List (Value × Value) := [(.int .u8 43, .func (.func 79) #[] #[.pointer (some ⟨tp, 0, none⟩)]), (.int .u8 45, .func (.func 80) #[] #[.pointer (some ⟨tp, 0, none⟩)]), (.int .u8 58, .func (.func 81) #[] #[.pointer (some ⟨ts, 0, none⟩)]), (.int .u8 36, .func (.func 82) #[] #[.pointer (some ⟨B, 0, none⟩)]), (.int .u8 42, .func (.func 83) #[] #[.pointer (some ⟨B + 1, 0, none⟩), .pointer (some ⟨B, 0, none⟩)])]
/-- What kinds leaves. -/
structure KindsAt (w w' : World) (B g : Nat) (d : Int) (M tp ts : Nat) : Prop where
  map : w'.heap[M]? = some (.map (ents (kindL B tp ts) 0).toArray 5)
  r : Blk w' B 83 #[.pointer (some ⟨g, 0, none⟩)]
  d : Blk w' (B + 1) 3 #[.int .i64 d]
  p : Blk w' tp 79 #[.func (.func 77) #[.pointer (some ⟨g, 0, none⟩)] #[]]
  s : Blk w' ts 114 #[.func (.func 78) #[.pointer (some ⟨g, 0, none⟩)] #[]]
  ext : Ext w w'
  hM : w.heap.size ≤ M
  hp : w.heap.size ≤ tp
  hs : w.heap.size ≤ ts
set_option maxRecDepth 100000 in
set_option maxHeartbeats 2000000 in
theorem kinds_any (w : World) (g : Nat) (d : Int) :
    Calls Tryd.prog 69 #[.pointer (some ⟨g, 0, none⟩), .int .i64 d] w fun e w' => ∃ M tp ts, e = .returned (.map (some M)) ∧ KindsAt w w' w.heap.size g d M tp ts := by
  have hmf : ∀ (fn : Fn) (first cap : Array Value) (w : World), (Instr.makeFunc fn first cap).run Tryd.prog w = .ok (.func fn first cap) w := fun _ _ _ _ => rfl
  have hmm := @run_makeMap Tryd.prog
  obtain ⟨B, hB⟩ : ∃ B, w.heap.size = B := ⟨_, rfl⟩
  have HB := Lib.hid hB
  rw [hB]
  have H0 : Hid (Blk ((w.alloc (.cells #[.pointer (some ⟨g, 0, none⟩)] 83)).alloc (.cells #[.int .i64 d] 3)) w.heap.size 83 #[.pointer (some ⟨g, 0, none⟩)]) := Lib.hid ((Blk.new w _ _).alloc _)
  have H1 : Hid (Blk ((w.alloc (.cells #[.pointer (some ⟨g, 0, none⟩)] 83)).alloc (.cells #[.int .i64 d] 3)) (w.heap.size + 1) 3 #[.int .i64 d]) := Lib.hid (by
    have := Blk.new (w.alloc (.cells #[.pointer (some ⟨g, 0, none⟩)] 83)) 3 #[.int .i64 d]
    rwa [size_alloc] at this)
  have E0 : Hid (Ext w ((w.alloc (.cells #[.pointer (some ⟨g, 0, none⟩)] 83)).alloc (.cells #[.int .i64 d] 3))) := Lib.hid (((Ext.refl w).alloc _).alloc _)
  clear hB
  go_enter Tryd.func69, Tryd.ntmps69
  go_wp2_with fail
  generalize (w.alloc (.cells #[.pointer (some ⟨g, 0, none⟩)] 83)).alloc (.cells #[.int .i64 d] 3) = w0 at H0 H1 E0 ⊢
  have hB := HB.out
  rw [hB] at H0 H1
  simp only [hB]
  clear hB
  have c0 := H0.out.cell 0
  simp only [List.getElem?_toArray, List.getElem?_cons_zero, List.getElem?_cons_succ] at c0
  have n0 := H0.out.lt
  have n1 : ¬ w0.heap.size = B := by omega
  have n2 : ¬ w0.heap.size + 1 = B := by omega
  go_upto_region 1 with fail
  go_cut [5, 6] (fun s5 s6 wx => ∃ tp ts : Nat, s5 = .pointer (some ⟨tp, 0, none⟩) ∧ s6 = .pointer (some ⟨ts, 0, none⟩) ∧ Hid (Blk wx B 83 #[.pointer (some ⟨g, 0, none⟩)] ∧ Blk wx (B + 1) 3 #[.int .i64 d] ∧ Blk wx tp 79 #[.func (.func 77) #[.pointer (some ⟨g, 0, none⟩)] #[]]
      ∧ Blk wx ts 114 #[.func (.func 78) #[.pointer (some ⟨g, 0, none⟩)] #[]] ∧ Ext w wx ∧ B ≤ tp ∧ B ≤ ts))
  case first =>
    go_region_held3 (fun w' => w'.cell? ⟨B, 0, none⟩ = some (.pointer (some ⟨g, 0, none⟩))) (go_keep) (fail)
    all_goals
      go_wp2_with fail
      go_meet
      first
        | exact ⟨w0.heap.size, w0.heap.size + 1, rfl, rfl, Lib.hid ⟨((H0.out.alloc _).alloc _).drew, ((H1.out.alloc _).alloc _).drew, ((Blk.new _ _ _).alloc _).drew, Blk.drew (new_at (size_alloc _ _).symm _ _), ((E0.out.alloc _).alloc _).drew, E0.out.ge HB.out, Nat.le_succ_of_le (E0.out.ge HB.out)⟩⟩
        | exact ⟨w0.heap.size + 1, w0.heap.size, rfl, rfl, Lib.hid ⟨((H0.out.alloc _).alloc _).drew, ((H1.out.alloc _).alloc _).drew, Blk.drew (new_at (size_alloc _ _).symm _ _), ((Blk.new _ _ _).alloc _).drew, ((E0.out.alloc _).alloc _).drew, Nat.le_succ_of_le (E0.out.ge HB.out), E0.out.ge HB.out⟩⟩
  case rest =>
    obtain ⟨tp, ts, rfl, rfl, HX⟩ := hcut
    clear H0 H1 E0 c0 n0 n1 n2
    have i0 : (Instr.mapUpdate 112 (.map (some wc.heap.size)) (.int .u8 43) (.func (.func 79) #[] #[.pointer (some ⟨tp, 0, none⟩)])).run Tryd.prog (wc.alloc (.map #[] 0)) = .ok () (wc.alloc (.map (ents [(.int .u8 43, .func (.func 79) #[] #[.pointer (some ⟨tp, 0, none⟩)])] 0).toArray 1)) :=
      run_insert_lit Tryd.underlying112 Tryd.underlying5 rfl [] 0 _ _ rfl rfl wc
    have i1 : (Instr.mapUpdate 112 (.map (some wc.heap.size)) (.int .u8 45) (.func (.func 80) #[] #[.pointer (some ⟨tp, 0, none⟩)])).run Tryd.prog (wc.alloc (.map (ents [(.int .u8 43, .func (.func 79) #[] #[.pointer (some ⟨tp, 0, none⟩)])] 0).toArray 1)) = .ok () (wc.alloc (.map (ents [(.int .u8 43, .func (.func 79) #[] #[.pointer (some ⟨tp, 0, none⟩)]), (.int .u8 45, .func (.func 80) #[] #[.pointer (some ⟨tp, 0, none⟩)])] 0).toArray 2)) :=
      run_insert_lit Tryd.underlying112 Tryd.underlying5 rfl [(.int .u8 43, .func (.func 79) #[] #[.pointer (some ⟨tp, 0, none⟩)])] 1 _ _ rfl rfl wc
    have i2 : (Instr.mapUpdate 112 (.map (some wc.heap.size)) (.int .u8 58) (.func (.func 81) #[] #[.pointer (some ⟨ts, 0, none⟩)])).run Tryd.prog (wc.alloc (.map (ents [(.int .u8 43, .func (.func 79) #[] #[.pointer (some ⟨tp, 0, none⟩)]), (.int .u8 45, .func (.func 80) #[] #[.pointer (some ⟨tp, 0, none⟩)])] 0).toArray 2)) = .ok () (wc.alloc (.map (ents [(.int .u8 43, .func (.func 79) #[] #[.pointer (some ⟨tp, 0, none⟩)]), (.int .u8 45, .func (.func 80) #[] #[.pointer (some ⟨tp, 0, none⟩)]), (.int .u8 58, .func (.func 81) #[] #[.pointer (some ⟨ts, 0, none⟩)])] 0).toArray 3)) :=
      run_insert_lit Tryd.underlying112 Tryd.underlying5 rfl [(.int .u8 43, .func (.func 79) #[] #[.pointer (some ⟨tp, 0, none⟩)]), (.int .u8 45, .func (.func 80) #[] #[.pointer (some ⟨tp, 0, none⟩)])] 2 _ _ rfl rfl wc
    have i3 : (Instr.mapUpdate 112 (.map (some wc.heap.size)) (.int .u8 36) (.func (.func 82) #[] #[.pointer (some ⟨B, 0, none⟩)])).run Tryd.prog (wc.alloc (.map (ents [(.int .u8 43, .func (.func 79) #[] #[.pointer (some ⟨tp, 0, none⟩)]), (.int .u8 45, .func (.func 80) #[] #[.pointer (some ⟨tp, 0, none⟩)]), (.int .u8 58, .func (.func 81) #[] #[.pointer (some ⟨ts, 0, none⟩)])] 0).toArray 3)) = .ok () (wc.alloc (.map (ents [(.int .u8 43, .func (.func 79) #[] #[.pointer (some ⟨tp, 0, none⟩)]), (.int .u8 45, .func (.func 80) #[] #[.pointer (some ⟨tp, 0, none⟩)]), (.int .u8 58, .func (.func 81) #[] #[.pointer (some ⟨ts, 0, none⟩)]), (.int .u8 36, .func (.func 82) #[] #[.pointer (some ⟨B, 0, none⟩)])] 0).toArray 4)) :=
      run_insert_lit Tryd.underlying112 Tryd.underlying5 rfl [(.int .u8 43, .func (.func 79) #[] #[.pointer (some ⟨tp, 0, none⟩)]), (.int .u8 45, .func (.func 80) #[] #[.pointer (some ⟨tp, 0, none⟩)]), (.int .u8 58, .func (.func 81) #[] #[.pointer (some ⟨ts, 0, none⟩)])] 3 _ _ rfl rfl wc
    have i4 : (Instr.mapUpdate 112 (.map (some wc.heap.size)) (.int .u8 42) (.func (.func 83) #[] #[.pointer (some ⟨B + 1, 0, none⟩), .pointer (some ⟨B, 0, none⟩)])).run Tryd.prog (wc.alloc (.map (ents [(.int .u8 43, .func (.func 79) #[] #[.pointer (some ⟨tp, 0, none⟩)]), (.int .u8 45, .func (.func 80) #[] #[.pointer (some ⟨tp, 0, none⟩)]), (.int .u8 58, .func (.func 81) #[] #[.pointer (some ⟨ts, 0, none⟩)]), (.int .u8 36, .func (.func 82) #[] #[.pointer (some ⟨B, 0, none⟩)])] 0).toArray 4)) = .ok () (wc.alloc (.map (ents [(.int .u8 43, .func (.func 79) #[] #[.pointer (some ⟨tp, 0, none⟩)]), (.int .u8 45, .func (.func 80) #[] #[.pointer (some ⟨tp, 0, none⟩)]), (.int .u8 58, .func (.func 81) #[] #[.pointer (some ⟨ts, 0, none⟩)]), (.int .u8 36, .func (.func 82) #[] #[.pointer (some ⟨B, 0, none⟩)]), (.int .u8 42, .func (.func 83) #[] #[.pointer (some ⟨B + 1, 0, none⟩), .pointer (some ⟨B, 0, none⟩)])] 0).toArray 5)) :=
      run_insert_lit Tryd.underlying112 Tryd.underlying5 rfl [(.int .u8 43, .func (.func 79) #[] #[.pointer (some ⟨tp, 0, none⟩)]), (.int .u8 45, .func (.func 80) #[] #[.pointer (some ⟨tp, 0, none⟩)]), (.int .u8 58, .func (.func 81) #[] #[.pointer (some ⟨ts, 0, none⟩)]), (.int .u8 36, .func (.func 82) #[] #[.pointer (some ⟨B, 0, none⟩)])] 4 _ _ rfl rfl wc
    go_wp2_with fail
    go_ret
    exact ⟨_, tp, ts, rfl, heap_alloc_new _ _, HX.out.1.alloc _, HX.out.2.1.alloc _, HX.out.2.2.1.alloc _, HX.out.2.2.2.1.alloc _, HX.out.2.2.2.2.1.alloc _, HX.out.2.2.2.2.1.le, by have := HB.out; have := HX.out.2.2.2.2.2.1; omega, by have := HB.out; have := HX.out.2.2.2.2.2.2; omega⟩
end Go.Proofs.YtopdgmchkoaeeaaDoor
