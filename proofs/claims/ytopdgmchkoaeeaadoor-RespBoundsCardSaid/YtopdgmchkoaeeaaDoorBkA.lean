/- RespBack's small parts: begins, a step that appends, what one's bytes tell of another's. -/
import Derived.Test.YtopdgmchkoaeeaaDoorSaA
import Derived.Test.YtopdgmchkoaeeaaDoorRtV
import Derived.Deep.AppendLies
import Derived.Deep.RegionLaw
namespace Go.Proofs.YtopdgmchkoaeeaaDoor
open Go.RowKit
set_option linter.unusedVariables false
set_option linter.unusedSimpArgs false

/-- An append whose run is known: as a structure, so that a wrong one is refused at once. -/
structure AppRuns (P : Program) (t ty : TypeId) (v x' : Value) (w : World) (v' : Value) (w' : World) : Prop where
  run : (Builtin.append_ #[t, t] ty #[v, x']).run P w = .ok v' w'
theorem step_append_run {P : Program} {w : World} {ops : Array Oper} {o : Oper} {a : Act} {K : Act → World → Prop} {Q : Exit → Act → World → Prop} {E : Prop} (hgd : o.guard = none) (s x : Operand) (t : TypeId)
    (ho : o.op = .call { callee := .builtin .append, args := #[s, x], argTypes := #[t, t] }) (v x' v' : Value) (w' : World) (hs : a.eval s = v) (hx : a.eval x = x')
    (hrun : AppRuns P t o.type v x' w v' w') (h : K (a.put o.dst v') w') :
    if Region.wanted o (yielded ops a.tmps) = true then Oper.wp P o a w K Q else E := by
  have hw : Region.wanted o (yielded ops a.tmps) = true := by simp [Region.wanted, hgd]
  rw [if_pos hw]
  unfold Oper.wp execOp
  simp only [ho, resolve, invoke, builtin, Sem.run_bind, Sem.run_pure, Result.andThen_ok, List.map_toArray, List.map_cons, List.map_nil, hs, hx, hrun.run]
  exact h
theorem append_bytes_at (w : World) (ty : TypeId) (base : Nat) (v : Value) (l : List UInt8) (ho : w.ownsRow base 5 1 v l.length (Lib.byteCells l)) (q : Option Addr) (c : Nat) (m : List UInt8) (hm : BytesAt w q c m)
    (hlen : l.length + m.length ≤ 140737488355328) (hbase : base ≤ w.heap.size) :
    ∃ v' w', (Builtin.append_ #[25, 25] ty #[v, .slice q m.length c]).run Tryd.prog w = .ok v' w' ∧ w'.ownsRow base 5 1 v' (l ++ m).length (Lib.byteCells (l ++ m)) ∧ w.grownBy w' v.ownBlock ∧ (v'.ownBlock = v.ownBlock ∨ v'.ownBlock = some w.heap.size) := by
  obtain ⟨i0, hi, hz0, hz1, hz2⟩ := info_parts infoU8
  rcases hm.slot with ⟨rfl, rfl⟩ | ⟨b, o, rfl, hb⟩
  · have hr := hm.room.1
    obtain rfl : m = [] := List.eq_nil_of_length_eq_zero (by omega)
    refine ⟨v, w, run_append_owned_none (P := Tryd.prog) w base 25 ty 5 i0 1 Tryd.underlying25 hi v l.length _ ho, by simpa using ho, World.grownBy.refl w _, .inl rfl⟩
  · obtain ⟨v', w', h1, h2, h3, _, h5⟩ := run_append_own_at (P := Tryd.prog) w base 25 ty 5 i0 (.int .u8 0) 1 1 Tryd.underlying25 hi hz0 hz1 hz2 rfl (by omega) v l.length (Lib.byteCells l) ho ⟨b, o, none⟩ m.length c (Lib.byteCells m) (by rw [Lib.byteCells_length]; omega) (bytes_news hm) (byte_one m) (by unfold maxLen; omega) (by omega) hbase
    exact ⟨v', w', h1, by rw [Lib.byteCells_append, List.length_append]; exact h2, h3, h5⟩
/-- Bytes are appended to a row of the call's own, at a step of a region that draws. -/
theorem step_append_bytes {w : World} {ops : Array Oper} {o : Oper} {a : Act} {K : Act → World → Prop} {Q : Exit → Act → World → Prop} {E : Prop} (hgd : o.guard = none) (s x : Operand)
    (ho : o.op = .call { callee := .builtin .append, args := #[s, x], argTypes := #[25, 25] }) (base : Nat) (v : Value) (l : List UInt8) (q : Option Addr) (k c N : Nat) (m : List UInt8) (hs : a.eval s = v) (hx : a.eval x = .slice q k c)
    (hk : m.length = k) (hN : (l ++ m).length = N) (hown : w.ownsRow base 5 1 v l.length (Lib.byteCells l)) (hm : BytesAt w q c m) (hlen : l.length + m.length ≤ 140737488355328) (hbase : base ≤ w.heap.size)
    (h : ∀ q' c' w', w'.ownsRow base 5 1 (.slice q' N c') (l ++ m).length (Lib.byteCells (l ++ m)) → BytesAt w' q' c' (l ++ m) → w.grownBy w' v.ownBlock → ((Value.slice q' N c').ownBlock = v.ownBlock ∨ (Value.slice q' N c').ownBlock = some w.heap.size) → K (a.put o.dst (.slice q' N c')) w') :
    if Region.wanted o (yielded ops a.tmps) = true then Oper.wp Tryd.prog o a w K Q else E := by
  obtain ⟨v', w', h1, h2, h3, h4⟩ := append_bytes_at w o.type base v l hown q c m hm hlen hbase
  obtain ⟨q', c', hv, hb, _⟩ := own_bytes h2
  subst hv
  rw [hk] at h1
  rw [hN] at h1 h4
  refine step_append_run hgd s x 25 ho v (.slice q k c) _ w' hs hx ⟨h1⟩ (h q' c' w' ?_ hb h3 h4)
  rw [hN] at h2 ⊢
  exact h2
/-- A new reply's block, which no append hits. -/
structure ZOk (w : World) (g : Nat) (v : Value) : Prop where
  blk : Blk w g 41 #[.int .i64 0, .int .i64 0, .string ⟨#[]⟩, .slice none 0 0]
  ne : v.ownBlock ≠ some g
theorem z_append {w w' : World} {g : Nat} {v v' : Value} (h : ZOk w g v) (hg : w.grownBy w' v.ownBlock) (hat : v'.ownBlock = v.ownBlock ∨ v'.ownBlock = some w.heap.size) : ZOk w' g v' :=
  ⟨h.blk.grown hg (fun x hx e => h.ne (by rw [hx, e])), by
    rcases hat with hat | hat
    · rw [hat]; exact h.ne
    · rw [hat]; intro e; have := h.blk.lt; injection e; omega⟩
theorem z_alloc {w : World} {base : Nat} {v : Value} {n : Nat} {xs : List Value} (ho : w.ownsRow base 5 1 v n xs) : ZOk (w.alloc (.cells #[.int .i64 0, .int .i64 0, .string ⟨#[]⟩, .slice none 0 0] 41)) w.heap.size v :=
  ⟨Blk.new _ _ _, fun e => by have := (ho.lt _ e).2; omega⟩
theorem z_first (w : World) : ZOk ((w.alloc (.cells #[.int .i64 0, .int .i64 0, .string ⟨#[]⟩, .slice none 0 0] 41)).alloc (.cells #[] 5)).drew w.heap.size (.slice (some ⟨w.heap.size + 1, 0, none⟩) 0 0) :=
  ⟨((Blk.new _ _ _).alloc _).drew, fun e => by simp [Value.ownBlock] at e⟩
theorem z_second (w : World) : ZOk ((w.alloc (.cells #[] 5)).alloc (.cells #[.int .i64 0, .int .i64 0, .string ⟨#[]⟩, .slice none 0 0] 41)).drew (w.heap.size + 1) (.slice (some ⟨w.heap.size, 0, none⟩) 0 0) :=
  ⟨(new_at (by rw [size_alloc]) _ _).drew, fun e => by simp [Value.ownBlock] at e⟩
theorem own0 (w : World) : (w.alloc (.cells #[] 5)).drew.ownsRow w.heap.size 5 1 (.slice (some ⟨w.heap.size, 0, none⟩) 0 0) ([] : List UInt8).length (Lib.byteCells []) := own_ext (empty_own w) (Ext.refl _).drew
theorem own1 (w : World) : ((w.alloc (.cells #[.int .i64 0, .int .i64 0, .string ⟨#[]⟩, .slice none 0 0] 41)).alloc (.cells #[] 5)).drew.ownsRow w.heap.size 5 1 (.slice (some ⟨w.heap.size + 1, 0, none⟩) 0 0) ([] : List UInt8).length (Lib.byteCells []) := by
  have h : ((w.alloc (.cells #[.int .i64 0, .int .i64 0, .string ⟨#[]⟩, .slice none 0 0] 41)).alloc (.cells #[] 5)).ownsRow w.heap.size 5 1 (.slice (some ⟨(w.alloc (.cells #[.int .i64 0, .int .i64 0, .string ⟨#[]⟩, .slice none 0 0] 41)).heap.size, 0, none⟩) 0 0) ([] : List UInt8).length (Lib.byteCells []) := World.ownsRow_lit _ #[] 0 (by rw [size_alloc]; omega) (by unfold maxLen; omega) rfl
  rw [size_alloc] at h
  exact own_ext h (Ext.refl _).drew
theorem own2 (w : World) : ((w.alloc (.cells #[] 5)).alloc (.cells #[.int .i64 0, .int .i64 0, .string ⟨#[]⟩, .slice none 0 0] 41)).drew.ownsRow w.heap.size 5 1 (.slice (some ⟨w.heap.size, 0, none⟩) 0 0) ([] : List UInt8).length (Lib.byteCells []) := own_ext (empty_own w) ((Ext.refl _).alloc _).drew
theorem take_extract (s : ByteArray) (n : Nat) (h : n ≤ s.size) : (s.extract 0 n).data.toList = s.data.toList.take n := by
  simp [ByteArray.data_extract, Array.toList_extract]
set_option maxRecDepth 100000 in
set_option maxHeartbeats 1000000 in
theorem begins_no (s t : ByteArray) (w : World) (hz : s.size ≤ 1000000000) (h : ¬ (t.size < s.size ∧ s.data.toList.take t.size = t.data.toList)) :
    Calls Tryd.prog 34 #[.string s, .string t] w fun e w' => e = .returned (.bool false) ∧ w = w' := by
  by_cases hlt : t.size < s.size
  · have hne : ¬ s.extract 0 t.size = t := fun e => h ⟨hlt, by rw [← take_extract s t.size (by omega), e]⟩
    have e1 := str_ne hne
    have d1 : decide ((t.size : Int) < (s.size : Int)) = true := decide_eq_true (by omega)
    have k0 : (0 : Int) ≤ (t.size : Int) := by omega
    have k1 : (t.size : Int) ≤ (s.size : Int) := by omega
    clear h hne
    go_enter Tryd.func34, Tryd.ntmps34
    go_wp2_with fail
    go_ret
    exact ⟨rfl, rfl⟩
  · have d1 : decide ((t.size : Int) < (s.size : Int)) = false := decide_eq_false (by omega)
    clear h
    go_enter Tryd.func34, Tryd.ntmps34
    go_wp2_with fail
    go_ret
    exact ⟨rfl, rfl⟩
/-- No bytes of a reply begin those of another one. -/
theorem enc_begins {x y : Rep} (hx : repOk x) (h6 : i64R x) (hy : repOk y) (h7 : i64R y) : ¬ ((encR y).length < (encR x).length ∧ (encR x).take (encR y).length = encR y) := by
  rintro ⟨h1, h2⟩
  have h3 : encR y ++ (encR x).drop (encR y).length = encR x := by
    conv => rhs; rw [← List.take_append_drop (encR y).length (encR x)]
    rw [h2]
  have h4 := (enc_inj hy h7 hx h6 h3).2
  have h5 := congrArg List.length h4
  rw [List.length_drop] at h5
  simp at h5
  omega
theorem enc_eq {x y : Rep} (hx : repOk x) (h6 : i64R x) (hy : repOk y) (h7 : i64R y) : (encR x = encR y) ↔ x = y := by
  constructor
  · intro h
    exact (enc_inj hx h6 hy h7 (r := []) (by rw [List.append_nil]; exact h)).1
  · rintro rfl; rfl
theorem parseS_cut {l : List ByteArray} (h : reqOk l) {n : Nat} (hn : n < (reqB l).length) : parseS ((reqB l).take n) = .error 130 := parseS_err (parse_cut h hn)
theorem decodeS_cut {x : Rep} (h : repOk x) (h6 : i64R x) {n : Nat} (hn : n < (encR x).length) : decodeS ((encR x).take n) = .error 130 := decodeS_err (decode_cut h h6 hn)
/-- What Request tells, in one form. -/
def ReqP (w w' : World) (ts : List ByteArray) (q : Option Addr) (n c : Nat) (e : Int) : Prop :=
  (reqOk ts ∧ e = 0 ∧ n = (reqB ts).length ∧ BytesAt w' q c (reqB ts)) ∨ e = 2
theorem req_form (w : World) (v : Value) (ts : List ByteArray) (h : TxAt w v ts) (hpw : Pow w) :
    Calls Tryd.prog 14 #[v] w fun e w' => ∃ q n c x, e = .returned (.tuple #[.slice q n c, .int .i64 x]) ∧ Ext w w' ∧ ReqP w w' ts q n c x := by
  refine (req_any w v ts h hpw).mono ?_
  intro e w' hs
  obtain ⟨he, hif⟩ := hs
  cases hb : reqOkB ts with
  | true =>
    rw [hb] at hif
    obtain ⟨v7, rfl, q7, c7, rfl, hb7, _⟩ := hif
    exact ⟨q7, _, c7, 0, rfl, he, .inl ⟨(reqOk_iff ts).1 hb, rfl, rfl, hb7⟩⟩
  | false =>
    rw [hb] at hif
    exact ⟨none, 0, 0, 2, hif, he, .inr rfl⟩
/-- What Encode tells, in one form. -/
def EncP (w' : World) (x : Rep) (q : Option Addr) (n c : Nat) (e : Int) : Prop :=
  (repOk x ∧ e = 0 ∧ n = (encR x).length ∧ BytesAt w' q c (encR x)) ∨ (e = 2 ∧ n = 0)
theorem enc_form (w : World) (x : Rep) (q : Option Addr) (c D : Nat) (hv : ListAt (fun b => b < w.heap.size) w D (.slice q x.l.length c) x.l) (h6 : i64R x) (hpw : Pow w) :
    Calls Tryd.prog 27 #[cellsV x.k x.n x.s (.slice q x.l.length c)] w fun e w' => ∃ q' n' c' x', e = .returned (.tuple #[.slice q' n' c', .int .i64 x']) ∧ Ext w w' ∧ EncP w' x q' n' c' x' := by
  refine (encode_any w x q c D hv h6 hpw).mono ?_
  intro e w' hs
  obtain ⟨he, hif⟩ := hs
  cases hb : repOkB x with
  | true =>
    rw [hb] at hif
    obtain ⟨v7, rfl, q7, c7, rfl, hb7, _⟩ := hif
    exact ⟨q7, _, c7, 0, rfl, he, .inl ⟨(repOk_iff x).1 hb, rfl, rfl, hb7⟩⟩
  | false =>
    rw [hb] at hif
    exact ⟨none, 0, 0, 2, hif, he, .inr ⟨rfl, rfl⟩⟩
/-- What Parse, Decode tell, in one form. -/
def PrsP (w : World) (v : Value) (n c : Int) (l : List UInt8) : Prop :=
  match parseS l with
  | .ok x => n = (x.2 : Int) ∧ c = 0 ∧ TxAt w v x.1
  | .error e => n = 0 ∧ c = e
theorem parse_form (w : World) (q : Option Addr) (cap : Nat) (l : List UInt8) (h : BytesAt w q cap l) :
    Calls Tryd.prog 18 #[.slice q l.length cap] w fun e w' => ∃ v n c, e = .returned (.tuple #[v, .int .i64 n, .int .i64 c]) ∧ Ext w w' ∧ PrsP w' v n c l := by
  refine (parse_any w q cap l h).mono ?_
  intro e w' hs
  unfold PrsP
  cases hp : parseS l with
  | ok x =>
    rw [hp] at hs
    obtain ⟨v, rfl, ht, he⟩ := hs
    refine ⟨_, _, _, rfl, he, rfl, rfl, ht.tx ?_⟩
    cases hq : parseR l with
    | ok y =>
      obtain ⟨ts, r⟩ := y
      have h1 := parse_was hq
      rw [parseS_of hq] at hp
      injection hp with hp
      subst hp
      have := h1.2.2.1
      exact Nat.le_trans this (by decide)
    | error e => rw [parseS_err hq] at hp; cases hp
  | error c => rw [hp] at hs; exact ⟨_, _, _, hs.1, hs.2, rfl, rfl⟩
def DecP (w0 w : World) (x : Rep) (q : Option Addr) (m c : Nat) (n e : Int) (l : List UInt8) : Prop :=
  ListAt (fun b => w0.heap.size ≤ b) w 100 (.slice q m c) x.l ∧ (match decodeS l with
  | .ok y => x = y.1 ∧ n = (y.2.p : Int) ∧ e = 0
  | .error z => n = 0 ∧ e = z)
theorem decode_form (w : World) (q : Option Addr) (cap : Nat) (l : List UInt8) (h : BytesAt w q cap l) :
    Calls Tryd.prog 20 #[.slice q l.length cap] w fun e w' => ∃ x q' m' c' n z, e = .returned (.tuple #[cellsV x.k x.n x.s (.slice q' m' c'), .int .i64 n, .int .i64 z]) ∧ Ext w w' ∧ DecP w w' x q' m' c' n z l := by
  refine (decode_any w q cap l h).mono ?_
  intro e w' hs
  unfold DecP
  cases hp : decodeS l with
  | ok y =>
    rw [hp] at hs
    obtain ⟨v, rfl, ⟨lv, rfl, hl⟩, he⟩ := hs
    obtain ⟨q', c', rfl⟩ := hl.slice
    exact ⟨y.1, q', _, c', _, _, rfl, he, hl, rfl, rfl, rfl⟩
  | error c =>
    rw [hp] at hs
    exact ⟨.mk 0 0 ⟨#[]⟩ [], none, 0, 0, _, _, hs.1, hs.2, nil_list _ _ _, rfl, rfl⟩
theorem bytes_cutB {w : World} {q : Option Addr} {c : Nat} {l : List UInt8} (h : BytesAt w q c l) (n : Nat) (hn : n ≤ l.length) : BytesAt w q c (l.take n) := by
  have hr := h.room
  have hl := h.len
  refine ⟨fun k hk => ?_, by rw [List.length_take]; omega, h.slot, by rw [List.length_take]; omega⟩
  have hk' : k < l.length := by rw [List.length_take] at hk; omega
  obtain ⟨b, o, e, hc⟩ := h.bytes k hk'
  exact ⟨b, o, e, by rw [List.getElem_take]; exact hc⟩
theorem dec_new {w6 W w9 : World} {z : Rep} {q : Option Addr} {m c : Nat} {n e : Int} {l : List UInt8} (hE : Ext w6 w9) (hd : DecP W w9 z q m c n e l) (hle : w6.heap.size ≤ W.heap.size) :
    Ext w6 (w9.alloc (.cells #[.int .i64 z.k, .int .i64 z.n, .string z.s, .slice q m c] 41)) ∧ ∃ z' : Rep, Blk (w9.alloc (.cells #[.int .i64 z.k, .int .i64 z.n, .string z.s, .slice q m c] 41)) w9.heap.size 41 #[.int .i64 z'.k, .int .i64 z'.n, .string z'.s, .slice q m c] ∧ DecP w6 (w9.alloc (.cells #[.int .i64 z.k, .int .i64 z.n, .string z.s, .slice q m c] 41)) z' q m c n e l :=
  ⟨hE.alloc _, z, Blk.new _ _ _, (hd.1.ext ((Ext.refl _).alloc _)).keep (fun _ _ _ _ h => h) (fun b _ h => Nat.le_trans hle h), hd.2⟩
theorem dec_put {w6 W w9 : World} {P : Nat} {z : Rep} {q : Option Addr} {m c : Nat} {n e : Int} {l : List UInt8} (hE : Ext w6 w9) (hP : w6.heap.size ≤ P) (hW : P < W.heap.size)
    (hB : Blk w9 P 41 #[.int .i64 0, .int .i64 0, .string ⟨#[]⟩, .slice none 0 0]) (hd : DecP W w9 z q m c n e l) :
    Ext w6 ((((w9.setCell ⟨P, 0, none⟩ (.int .i64 z.k)).setCell ⟨P, 1, none⟩ (.int .i64 z.n)).setCell ⟨P, 2, none⟩ (.string z.s)).setCell ⟨P, 3, none⟩ (.slice q m c)) ∧ ∃ z' : Rep, Blk ((((w9.setCell ⟨P, 0, none⟩ (.int .i64 z.k)).setCell ⟨P, 1, none⟩ (.int .i64 z.n)).setCell ⟨P, 2, none⟩ (.string z.s)).setCell ⟨P, 3, none⟩ (.slice q m c)) P 41 #[.int .i64 z'.k, .int .i64 z'.n, .string z'.s, .slice q m c] ∧ DecP w6 ((((w9.setCell ⟨P, 0, none⟩ (.int .i64 z.k)).setCell ⟨P, 1, none⟩ (.int .i64 z.n)).setCell ⟨P, 2, none⟩ (.string z.s)).setCell ⟨P, 3, none⟩ (.slice q m c)) z' q m c n e l :=
  ⟨(((hE.setCell (p := ⟨P, 0, none⟩) hP _).setCell (p := ⟨P, 1, none⟩) hP _).setCell (p := ⟨P, 2, none⟩) hP _).setCell (p := ⟨P, 3, none⟩) hP _, z, put4 hB _ _ _ _,
    hd.1.keep (fun b' o' v hok hc => by rw [cell_far (by omega), cell_far (by omega), cell_far (by omega), cell_far (by omega)]; exact hc) (fun b' _ hok => by omega), hd.2⟩
theorem num_extB (w : World) (c : Int) : Calls Tryd.prog 16 #[.int .i64 c] w fun e w' => e = .returned (.int .i64 c) ∧ Ext w w' := (num_any w c).mono fun e w' h => ⟨h.1, h.2 ▸ Ext.refl w⟩
end Go.Proofs.YtopdgmchkoaeeaaDoor
