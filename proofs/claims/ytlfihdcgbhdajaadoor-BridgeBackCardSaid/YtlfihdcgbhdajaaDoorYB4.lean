/- Replies and values in plain words: the value of a reply, and what the heap is behind it; the reply of a value. The reply of a reply's value is the reply: the plain law. The reply of a reply's value is the reply. The reply of any reply's value is the reply. -/
import Derived.Test.YtlfihdcgbhdajaaDoorYB1
import Derived.Test.YtlfihdcgbhdajaaDoorYA2
namespace Go.Proofs.YtlfihdcgbhdajaaDoor
set_option linter.unusedVariables false
set_option linter.unusedSimpArgs false

def sOk : ByteArray := ⟨#[111, 107]⟩
def sErr : ByteArray := ⟨#[101, 114, 114]⟩
def sReply : ByteArray := ⟨#[114, 101, 112, 108, 121]⟩
def bV (b : Bool) : Vl := ⟨1, if b then 1 else 0, sNone⟩
abbrev Br3 := ByteArray × Vl × Hp
def underP (H : Hp) (key s : ByteArray) : Br3 :=
 if tabW H = sNone then
  if mkW H.cells (tabH H).spent s = sNone then
   let H2 := mkH (tabH H) s
   if setW H2 (tabV H) (tK key) (tK s) = sNone then (sNone, tabV H, setH H2 (tabV H) (tK key) (tK s)) else (setW H2 (tabV H) (tK key) (tK s), Vl.zero, setH H2 (tabV H) (tK key) (tK s))
  else (mkW H.cells (tabH H).spent s, Vl.zero, mkH (tabH H) s)
 else (tabW H, Vl.zero, tabH H)
mutual
def valP (H : Hp) : Rep → Br3
 | .mk k n s l =>
  if k = 3 then (sNone, iK n, H)
  else if k = 4 then (if mkW H.cells H.spent s = sNone then (sNone, tK s, mkH H s) else (mkW H.cells H.spent s, Vl.zero, mkH H s))
  else if k = 1 then underP H sOk s
  else if k = 2 then underP H sErr s
  else if k = 5 then (if tabW H = sNone then (let r := valsP (tabH H) (tabV H) 0 l; (r.1, if r.1 = sNone then tabV H else Vl.zero, r.2)) else (tabW H, Vl.zero, tabH H))
  else (sNone, bV false, H)
def valsP (H : Hp) (t : Vl) (i : Nat) : List Rep → ByteArray × Hp
 | [] => (sNone, H)
 | x :: l =>
  let r := valP H x
  if r.1 = sNone then
   (if setW r.2.2 t (iK (i + 1)) r.2.1 = sNone then valsP (setH r.2.2 t (iK (i + 1)) r.2.1) t (i + 1) l else (setW r.2.2 t (iK (i + 1)) r.2.1, setH r.2.2 t (iK (i + 1)) r.2.1))
  else (r.1, r.2.2)
end
structure Room where
 items : Int
 texts : Int
abbrev RepX := Except ByteArray (Rep × Room)
def textP (q : Room) (k : Int) (s : ByteArray) : RepX :=
 if 0 ≤ q.texts - min (s.size : Int) 1048577 then .ok (.mk k 0 s [], ⟨q.items, q.texts - min (s.size : Int) 1048577⟩) else .error sReply
def rowP (f : Room → Vl → RepX) (H : Hp) (t : Vl) : Nat → Nat → Room → Except ByteArray (List Rep × Room)
 | 0, _, q => .ok ([], q)
 | n + 1, i, q => match f q (getV H t (iK (i + 1))) with
  | .error e => .error e
  | .ok (x, q') => match rowP f H t n (i + 1) q' with
   | .error e => .error e
   | .ok (l, q'') => .ok (x :: l, q'')
def tableP (f : Option (Room → Vl → RepX)) (H : Hp) (q : Room) (t : Vl) : RepX :=
  if lenW H t = sNone then
    (if (getV H t (tK sErr)).k = 3 then textP q 2 (getV H t (tK sErr)).s
     else if (getV H t (tK sOk)).k = 3 then textP q 1 (getV H t (tK sOk)).s
     else match f with
      | none => .error sReply
      | some f => if 0 ≤ q.items - lenV H t then
          (match rowP f H t (lenV H t).toNat 0 ⟨q.items - lenV H t, q.texts⟩ with
           | .error e => .error e
           | .ok (l, q') => .ok (.mk 5 0 sNone l, q'))
        else .error sReply)
  else .error (lenW H t)
def valueP (f : Option (Room → Vl → RepX)) (H : Hp) (q : Room) (v : Vl) : RepX :=
  if v.ck then
    (if v.k = 1 then .ok (if v.n = 0 then .mk 0 0 sNone [] else .mk 3 1 sNone [], q)
     else if v.k = 2 then .ok (.mk 3 v.n sNone [], q)
     else if v.k = 3 then textP q 4 v.s
     else if v.k = 4 then tableP f H q v
     else .ok (.mk 0 0 sNone [], q))
  else .error sType
def repP (H : Hp) : Nat → Room → Vl → RepX
 | 0, q, v => valueP none H q v
 | d + 1, q, v => valueP (some (repP H d)) H q v
end Go.Proofs.YtlfihdcgbhdajaaDoor
namespace Go.Proofs.YtlfihdcgbhdajaaDoor
set_option linter.unusedVariables false
set_option linter.unusedSimpArgs false

structure HX (H : Hp) : Prop where
 ok : HOk H
 few : (H.tabs.length : Int) ≤ H.spent
theorem HX.new {c : Int} (h : c ≤ 9223372036854775807) : HX (newH c) := ⟨newH_ok h, Int.le_refl _⟩
theorem HX.tab {H : Hp} (h : HX H) : HX (tabH H) := by
 refine ⟨tabH_ok h.ok, ?_⟩
 have := h.few
 unfold tabH
 split
 ·simp only [List.length_append, List.length_cons, List.length_nil]; omega
 ·exact this
theorem HX.make {H : Hp} (h : HX H) (s : ByteArray) : HX (mkH H s) := by
 refine ⟨mkH_ok h.ok s, ?_⟩
 have := h.few
 show (H.tabs.length : Int) ≤ mkC H.cells H.spent s
 unfold mkC tk mkN
 split
 ·exact this
 ·split <;> omega
theorem HX.set {H : Hp} (h : HX H) {t k v : Vl} (hk : in64 k.n) (hv : in64 v.n) : HX (setH H t k v) := by
 refine ⟨setH_ok h.ok hk hv, ?_⟩
 rw [setH_len]
 have := h.few
 unfold setH
 split
 ·show _ ≤ (if freshB H t k v = true then _ else _)
  split <;> omega
 ·exact this
theorem HX.in64 {H : Hp} (h : HX H) {n : Nat} (hn : n ≤ H.tabs.length) : in64 (n : Int) := by
 have h1 := h.few
 have h2 := h.ok.le
 have h3 := h.ok.most
 exact ⟨by omega, by omega⟩
def rowF : Nat → List Vl → Tb
 | _, [] => []
 | a, v :: vs => (iK ((a : Int) + 1), v) :: rowF (a + 1) vs
theorem rowF_snoc (v : Vl) : ∀ (vs : List Vl) (a : Nat), rowF a (vs ++ [v]) = rowF a vs ++ [(iK (((a + vs.length : Nat) : Int) + 1), v)]
 | [], a => rfl
 | x :: vs, a => by
  rw [List.cons_append, rowF, rowF_snoc v vs (a + 1), rowF, List.length_cons]
  have e : a + 1 + vs.length = a + (vs.length + 1) := by omega
  rw [e]; rfl
theorem rowF_get : ∀ (vs : List Vl) (a j : Nat), mget (rowF a vs) (iK (((a + j : Nat) : Int) + 1)) = vs[j]?
 | [], a, j => by simp [rowF, mget]
 | x :: vs, a, 0 => by simp [rowF, mget]
 | x :: vs, a, j + 1 => by
  have h : ¬ iK ((a : Int) + 1) = iK (((a + (j + 1) : Nat) : Int) + 1) := fun e => by have := iK_inj e; omega
  have e : a + (j + 1) = a + 1 + j := by omega
  unfold rowF mget
  rw [if_neg h, e, rowF_get vs (a + 1) j]
  simp
theorem rowF_text (s : ByteArray) : ∀ (vs : List Vl) (a : Nat), mget (rowF a vs) (tK s) = none
 | [], a => rfl
 | x :: vs, a => by
  unfold rowF mget
  rw [if_neg (iK_tK _ _), rowF_text s vs (a + 1)]
theorem rowT_get {vs : List Vl} {j : Nat} {v : Vl} (h : vs[j]? = some v) : tget (rowF 0 vs) (iK ((j : Int) + 1)) = v := by
 have := rowF_get vs 0 j
 rw [Nat.zero_add] at this
 unfold tget
 rw [this, h]; rfl
theorem rowT_none {vs : List Vl} {j : Nat} (h : vs.length ≤ j) : tget (rowF 0 vs) (iK ((j : Int) + 1)) = Vl.zero := by
 have := rowF_get vs 0 j
 rw [Nat.zero_add] at this
 unfold tget
 rw [this, List.getElem?_eq_none h]; rfl
theorem rowT_len {vs : List Vl} (h : TbOk (rowF 0 vs)) (hv : ∀ v ∈ vs, ¬ v.k = 0) : tlen (rowF 0 vs) = vs.length := by
 refine (tlen_eq h vs.length ?_ fun i hi => ?_).symm
 ·rw [rowT_none (Nat.le_refl _)]; rfl
 ·rw [rowT_get (List.getElem?_eq_getElem hi)]
  exact hv _ (List.getElem_mem hi)
theorem rowT_put {vs : List Vl} {v : Vl} (hv : ¬ v.k = 0) : tput (rowF 0 vs) (iK ((vs.length : Int) + 1)) v = rowF 0 (vs ++ [v]) := by
 have h := rowF_get vs 0 vs.length
 rw [Nat.zero_add, List.getElem?_eq_none (Nat.le_refl _)] at h
 unfold tput
 rw [if_neg hv, mput_gone _ _ _ h, rowF_snoc, Nat.zero_add]
theorem ck_tK {s : ByteArray} (h : s.size ≤ 1048576) : (tK s).ck = true := by
 unfold Vl.ck checkB tK
 simp
 omega
theorem ck_iN (i : Int) : (iK i).ck = true := by
 unfold Vl.ck checkB iK
 have : sNone.toList = [] := sNone_list
 simp [this]
theorem ck_tab (n : Nat) : (⟨4, n, sNone⟩ : Vl).ck = true := by
 unfold Vl.ck checkB
 have : sNone.toList = [] := sNone_list
 simp [this]
theorem tab_yes {H : Hp} (h : tabW H = sNone) : tabV H = ⟨4, H.tabs.length, sNone⟩ ∧ (tabH H).tabs = H.tabs ++ [[]] := by
 unfold tabW at h
 split at h
 ·rename_i h1
  unfold tabV tabH
  rw [if_pos h1, if_pos h1]
  exact ⟨rfl, rfl⟩
 ·exact absurd h sNone_ne.2.2.2
theorem mk_yes {c sp : Int} {s : ByteArray} (h : mkW c sp s = sNone) : s.size ≤ 1048576 := by
 unfold mkW at h
 split at h
 ·exact absurd h sNone_ne.2.2.1
 ·omega
theorem of_tab {H : Hp} {n : Nat} {T : Tb} (h : H.tabs[n]? = some T) : ofW H ⟨4, n, sNone⟩ = sNone ∧ tabOf H ⟨4, n, sNone⟩ = T := by
 have hlt := (List.getElem?_eq_some_iff.1 h).1
 refine ⟨?_, ?_⟩
 ·unfold ofW
  rw [ck_tab]
  simp
  omega
 ·unfold tabOf
  rw [List.getD_eq_getElem?_getD]
  show (H.tabs[(n : Int).toNat]?).getD [] = T
  rw [Int.toNat_natCast, h]; rfl
theorem set_tabs {H : Hp} {n : Nat} {T : Tb} {k v : Vl} (h : H.tabs[n]? = some T) (hw : setW H ⟨4, n, sNone⟩ k v = sNone) :
  (setH H ⟨4, n, sNone⟩ k v).tabs = H.tabs.set n (tput T k v) := by
 unfold setH
 rw [if_pos hw, (of_tab h).2]
 rfl
theorem getV_of {H : Hp} {n : Nat} {T : Tb} {k : Vl} (h : H.tabs[n]? = some T) (hc : k.ck = true) (hk : k.k = 2 ∨ k.k = 3) : getV H ⟨4, n, sNone⟩ k = tget T k := by
 obtain ⟨h1, h2⟩ := of_tab h
 unfold getV getW
 rw [if_pos hc, if_pos h1, if_pos hk, if_pos rfl, h2]
theorem lenW_of {H : Hp} {n : Nat} {T : Tb} (h : H.tabs[n]? = some T) : lenW H ⟨4, n, sNone⟩ = sNone ∧ lenV H ⟨4, n, sNone⟩ = tlen T := by
 obtain ⟨h1, h2⟩ := of_tab h
 unfold lenW lenV
 rw [if_neg (by simp), if_neg (by simp), if_pos h1, h2]
 exact ⟨h1, rfl⟩
end Go.Proofs.YtlfihdcgbhdajaaDoor
namespace Go.Proofs.YtlfihdcgbhdajaaDoor
set_option linter.unusedVariables false
set_option linter.unusedSimpArgs false

structure Back (d : Nat) (H : Hp) (x : Rep) (v : Vl) (H2 : Hp) : Prop where
 ok : HX H2
 len : H.tabs.length ≤ H2.tabs.length
 old : ∀ j, j < H.tabs.length → H2.tabs[j]? = H.tabs[j]?
 vo : VOk v
 rep : ∀ H', HOk H' → (∀ j, H.tabs.length ≤ j → j < H2.tabs.length → H'.tabs[j]? = H2.tabs[j]?) → ∀ q : Room, (itR x : Int) ≤ q.items → (txR x : Int) ≤ q.texts → repP H' d q v = .ok (x, ⟨q.items - itR x, q.texts - txR x⟩)
structure Backs (d : Nat) (H : Hp) (n : Nat) (vs : List Vl) (l : List Rep) (H2 : Hp) : Prop where
 ok : HX H2
 len : H.tabs.length ≤ H2.tabs.length
 old : ∀ j, j < H.tabs.length → j ≠ n → H2.tabs[j]? = H.tabs[j]?
 row : ∃ vs' : List Vl, vs'.length = l.length ∧ (∀ v ∈ vs', ¬ v.k = 0) ∧ H2.tabs[n]? = some (rowF 0 (vs ++ vs')) ∧
  ∀ H', HOk H' → (∀ j, H.tabs.length ≤ j → j < H2.tabs.length → H'.tabs[j]? = H2.tabs[j]?) → H'.tabs[n]? = some (rowF 0 (vs ++ vs')) →
   ∀ q : Room, (itL l : Int) ≤ q.items → (txL l : Int) ≤ q.texts → rowP (repP H' d) H' ⟨4, n, sNone⟩ l.length vs.length q = .ok (l, ⟨q.items - itL l, q.texts - txL l⟩)
theorem rowF_len : ∀ (vs : List Vl) (a : Nat), (rowF a vs).length = vs.length
 | [], _ => rfl
 | x :: vs, a => by rw [rowF, List.length_cons, List.length_cons, rowF_len vs]
theorem room_eq {a b a' b' : Int} (h1 : a = a') (h2 : b = b') : (⟨a, b⟩ : Room) = ⟨a', b'⟩ := by rw [h1, h2]
theorem vals_back (d : Nat) (hd : ∀ (x : Rep) (H : Hp), HX H → fineR d x = true → i64R x → (valP H x).1 = sNone → Back d H x (valP H x).2.1 (valP H x).2.2) (n : Nat) :
  ∀ (l : List Rep) (H : Hp) (vs : List Vl), HX H → H.tabs[n]? = some (rowF 0 vs) → fineL d l = true → i64L l → (valsP H ⟨4, n, sNone⟩ vs.length l).1 = sNone → Backs d H n vs l (valsP H ⟨4, n, sNone⟩ vs.length l).2
 | [], H, vs, hH, hn, _, _, _ => by
  refine ⟨hH, Nat.le_refl _, fun _ _ _ => rfl, [], rfl, (fun v hv => by cases hv), by rw [List.append_nil]; exact hn, fun H' _ _ _ q _ _ => ?_⟩
  show Except.ok ([], q) = _
  simp [itL, txL]
 | x :: l, H, vs, hH, hn, hf, h6, hw => by
  have hlt := (List.getElem?_eq_some_iff.1 hn).1
  unfold fineL at hf
  rw [Bool.and_eq_true] at hf
  unfold i64L at h6
  unfold valsP at hw ⊢
  by_cases h1 : (valP H x).1 = sNone
  rotate_left
  ·simp only [h1, if_false] at hw
  simp only [h1, if_true] at hw ⊢
  have b := hd x H hH hf.1 h6.1 h1
  obtain ⟨v, hv⟩ : ∃ v, (valP H x).2.1 = v := ⟨_, rfl⟩
  obtain ⟨H1, hH1⟩ : ∃ H1, (valP H x).2.2 = H1 := ⟨_, rfl⟩
  rw [hv, hH1] at b hw ⊢
  by_cases h2 : setW H1 ⟨4, n, sNone⟩ (iK ((vs.length : Int) + 1)) v = sNone
  rotate_left
  ·simp only [h2, if_false] at hw
  simp only [h2, if_true] at hw ⊢
  have hn1 : H1.tabs[n]? = some (rowF 0 vs) := (b.old n hlt).trans hn
  have htab := set_tabs hn1 h2
  rw [rowT_put b.vo.some] at htab
  have hT : TbOk (rowF 0 vs) := hH.ok.tab _ (List.mem_of_getElem? hn)
  have hmost := hT.most
  rw [rowF_len] at hmost
  have hH2 : HX (setH H1 ⟨4, n, sNone⟩ (iK ((vs.length : Int) + 1)) v) := b.ok.set (by show in64 ((vs.length : Int) + 1); exact ⟨by omega, by omega⟩) b.vo.num
  obtain ⟨H2, hH2e⟩ : ∃ H2, setH H1 ⟨4, n, sNone⟩ (iK ((vs.length : Int) + 1)) v = H2 := ⟨_, rfl⟩
  rw [hH2e] at hH2 htab hw ⊢
  have hl1 : H2.tabs.length = H1.tabs.length := by rw [htab, List.length_set]
  have hlt1 := (List.getElem?_eq_some_iff.1 hn1).1
  have hn2 : H2.tabs[n]? = some (rowF 0 (vs ++ [v])) := by rw [htab]; simp [hlt1]
  have ho2 : ∀ j, j ≠ n → H2.tabs[j]? = H1.tabs[j]? := fun j hj => by rw [htab, List.getElem?_set_ne (fun e => hj e.symm)]
  have hlen : (vs ++ [v]).length = vs.length + 1 := by simp
  rw [← hlen] at hw ⊢
  obtain ⟨h3, h4, h5, vs', h7, h8, h9, h10⟩ := vals_back d hd n l H2 (vs ++ [v]) hH2 hn2 hf.2 h6.2 hw
  have b1 := b.len
  have eapp : vs ++ v :: vs' = vs ++ [v] ++ vs' := by simp
  refine ⟨h3, by omega, fun j hj hjn => (h5 j (by omega) hjn).trans ((ho2 j hjn).trans (b.old j hj)), v :: vs', by simp [h7], ?_, by rw [eapp]; exact h9, fun H' hH' ha hn' q hq1 hq2 => ?_⟩
  ·intro u hu
   rcases List.mem_cons.1 hu with rfl | hu
   ·exact b.vo.some
   ·exact h8 u hu
  ·rw [eapp] at hn'
   have hg : getV H' ⟨4, n, sNone⟩ (iK ((vs.length : Int) + 1)) = v := by
    rw [getV_of hn' (ck_iN _) (.inl rfl)]
    exact rowT_get (by simp)
   unfold itL at hq1
   unfold txL at hq2
   have r1 := b.rep H' hH' (fun j j1 j2 => (ha j j1 (by omega)).trans ((h5 j (by omega) (by omega)).trans (ho2 j (by omega)))) q (by omega) (by omega)
   have r2 := h10 H' hH' (fun j j1 j2 => ha j (by omega) j2) hn' ⟨q.items - itR x, q.texts - txR x⟩ (by show _ ≤ q.items - _; omega) (by show _ ≤ q.texts - _; omega)
   rw [hlen] at r2
   rw [List.length_cons, rowP]
   rw [hg, r1]
   simp only
   rw [r2]
   simp only
   congr 2
   exact room_eq (by show (q.items - (itR x : Int)) - (itL l : Int) = q.items - ((itR x + itL l : Nat) : Int); omega) (by show (q.texts - (txR x : Int)) - (txL l : Int) = q.texts - ((txR x + txL l : Nat) : Int); omega)
end Go.Proofs.YtlfihdcgbhdajaaDoor
namespace Go.Proofs.YtlfihdcgbhdajaaDoor
set_option linter.unusedVariables false
set_option linter.unusedSimpArgs false

theorem repP_eq (H : Hp) (d : Nat) (q : Room) (v : Vl) : repP H d q v = valueP (match d with | 0 => none | d + 1 => some (repP H d)) H q v := by cases d <;> rfl
theorem textP_ok {q : Room} {k : Int} {s : ByteArray} (hs : s.size ≤ 1048576) (h : (s.size : Int) ≤ q.texts) : textP q k s = .ok (.mk k 0 s [], ⟨q.items, q.texts - s.size⟩) := by
 have e : min (s.size : Int) 1048577 = s.size := by omega
 unfold textP
 rw [e, if_pos (by omega)]
theorem back_under (d : Nat) (H : Hp) (k : Int) (key s : ByteArray) (hH : HX H) (hk : (k = 1 ∧ key = sOk) ∨ (k = 2 ∧ key = sErr)) (hw : (underP H key s).1 = sNone) :
  Back d H (.mk k 0 s []) (underP H key s).2.1 (underP H key s).2.2 := by
 unfold underP at hw ⊢
 by_cases h1 : tabW H = sNone
 rotate_left
 ·simp only [h1, if_false] at hw
 simp only [h1, if_true] at hw ⊢
 by_cases h2 : mkW H.cells (tabH H).spent s = sNone
 rotate_left
 ·simp only [h2, if_false] at hw
 simp only [h2, if_true] at hw ⊢
 obtain ⟨ht, htab⟩ := tab_yes h1
 rw [ht] at hw ⊢
 have hs := mk_yes h2
 have hn : (mkH (tabH H) s).tabs[H.tabs.length]? = some (rowF 0 []) := by
  show (tabH H).tabs[H.tabs.length]? = _
  rw [htab]; simp [rowF]
 by_cases h3 : setW (mkH (tabH H) s) ⟨4, H.tabs.length, sNone⟩ (tK key) (tK s) = sNone
 rotate_left
 ·simp only [h3, if_false] at hw
 simp only [h3, if_true] at hw ⊢
 have hset := set_tabs hn h3
 have hput : tput (rowF 0 []) (tK key) (tK s) = [(tK key, tK s)] := by
  unfold tput
  rw [if_neg (by show ¬ (3 : Int) = 0; decide)]; rfl
 rw [hput] at hset
 have hX : HX (setH (mkH (tabH H) s) ⟨4, H.tabs.length, sNone⟩ (tK key) (tK s)) := (hH.tab.make s).set (by show in64 0; exact ⟨by decide, by decide⟩) (by show in64 0; exact ⟨by decide, by decide⟩)
 have hmk : (mkH (tabH H) s).tabs = H.tabs ++ [[]] := htab
 rw [hmk] at hset
 refine ⟨hX, ?_, ?_, ⟨ck_tab _, by show ¬ (4 : Int) = 0; decide, hH.in64 (Nat.le_refl _)⟩, ?_⟩
 ·rw [hset]; simp
 ·intro j hj
  rw [hset, List.getElem?_set_ne (by omega), List.getElem?_append_left hj]
 ·intro H' hH' ha q hq1 hq2
  have hn' : H'.tabs[H.tabs.length]? = some [(tK key, tK s)] := by
   rw [ha _ (Nat.le_refl _) (by rw [hset]; simp), hset]
   simp
  have hq2' : (s.size : Int) ≤ q.texts := by
   have : txR (.mk k 0 s []) = s.size := by simp [txR, txL]
   rw [this] at hq2; exact hq2
  obtain ⟨hl, _⟩ := lenW_of hn'
  have e1 : sErr.size ≤ 1048576 := by decide
  have e2 : sOk.size ≤ 1048576 := by decide
  have g1 := getV_of (k := tK sErr) hn' (ck_tK e1) (.inr rfl)
  have g2 := getV_of (k := tK sOk) hn' (ck_tK e2) (.inr rfl)
  have hv : valueP (match d with | 0 => none | d + 1 => some (repP H' d)) H' q ⟨4, H.tabs.length, sNone⟩ = textP q k s := by
   unfold valueP
   rw [if_pos (ck_tab _), if_neg (by show ¬ (4 : Int) = 1; decide), if_neg (by show ¬ (4 : Int) = 2; decide), if_neg (by show ¬ (4 : Int) = 3; decide), if_pos (show (4 : Int) = 4 from rfl)]
   unfold tableP
   rw [if_pos hl, g1, g2]
   rcases hk with ⟨rfl, rfl⟩ | ⟨rfl, rfl⟩
   ·have h1 : tget [(tK sOk, tK s)] (tK sErr) = Vl.zero := by
     have : ¬ tK sOk = tK sErr := fun e => absurd (tK_inj e) (by decide)
     simp [tget, mget, this]
    have h2 : tget [(tK sOk, tK s)] (tK sOk) = tK s := by simp [tget, mget]
    rw [h1, h2, if_neg (by show ¬ (0 : Int) = 3; decide), if_pos (show (tK s).k = 3 from rfl)]; rfl
   ·have h2 : tget [(tK sErr, tK s)] (tK sErr) = tK s := by simp [tget, mget]
    rw [h2, if_pos (show (tK s).k = 3 from rfl)]; rfl
  rw [repP_eq, hv, textP_ok hs hq2']
  simp [itR, txR, itL, txL]
theorem val_leaf (d : Nat) (k n : Int) (s : ByteArray) (l : List Rep) (H : Hp) (hH : HX H) (hf : fineR d (.mk k n s l) = true) (h6 : i64R (.mk k n s l)) (hk5 : ¬ k = 5) (hw : (valP H (.mk k n s l)).1 = sNone) :
  Back d H (.mk k n s l) (valP H (.mk k n s l)).2.1 (valP H (.mk k n s l)).2.2 := by
 unfold fineR at hf
 unfold i64R at h6
 unfold valP at hw ⊢
 by_cases k3 : k = 3
 ·subst k3
  simp only [show ¬ (3 : Int) = 0 from by decide, show ¬ ((3 : Int) = 1 ∨ (3 : Int) = 2) from by decide, if_false, if_true, Bool.and_eq_true, beq_iff_eq] at hf
  have hl : l = [] := List.eq_nil_of_length_eq_zero hf.2
  have hs := bytes_nil hf.1
  subst hl
  rw [if_pos rfl]
  refine ⟨hH, Nat.le_refl _, fun _ _ => rfl, ⟨ck_iN n, by show ¬ (2 : Int) = 0; decide, h6.1⟩, fun H' _ _ q _ _ => ?_⟩
  rw [repP_eq]
  unfold valueP
  rw [if_pos (ck_iN n), if_neg (by show ¬ (2 : Int) = 1; decide), if_pos (show (iK n).k = 2 from rfl), hs]
  simp [itR, itL, txR, txL, iK, sNone]
  rw [show (⟨#[]⟩ : ByteArray).size = 0 from rfl]
  simp
 by_cases k4 : k = 4
 ·subst k4
  simp only [show ¬ (4 : Int) = 0 from by decide, show ¬ ((4 : Int) = 1 ∨ (4 : Int) = 2) from by decide, show ¬ (4 : Int) = 3 from by decide, if_false, if_true, Bool.and_eq_true, beq_iff_eq] at hf hw ⊢
  have hl : l = [] := List.eq_nil_of_length_eq_zero hf.2
  have hn := hf.1
  subst hl hn
  by_cases h1 : mkW H.cells H.spent s = sNone
  rotate_left
  ·simp only [h1, if_false] at hw
  simp only [h1, if_true]
  have hs := mk_yes h1
  refine ⟨hH.make s, Nat.le_refl _, fun _ _ => rfl, ⟨ck_tK hs, by show ¬ (3 : Int) = 0; decide, by show in64 0; exact ⟨by decide, by decide⟩⟩, fun H' _ _ q _ hq => ?_⟩
  have e : txR (.mk 4 0 s []) = s.size := by simp [txR, txL]
  rw [e] at hq ⊢
  rw [repP_eq]
  unfold valueP
  rw [if_pos (ck_tK hs), if_neg (by show ¬ (3 : Int) = 1; decide), if_neg (by show ¬ (3 : Int) = 2; decide), if_pos (show (tK s).k = 3 from rfl)]
  show textP q 4 s = _
  rw [textP_ok hs hq]
  simp [itR, itL]
 by_cases k12 : k = 1 ∨ k = 2
 ·have k0 : ¬ k = 0 := by omega
  simp only [k0, k12, if_false, if_true, Bool.and_eq_true, beq_iff_eq] at hf
  have hl : l = [] := List.eq_nil_of_length_eq_zero hf.2
  have hn := hf.1.1
  subst hl hn
  rcases k12 with rfl | rfl
  ·simp only [show ¬ (1 : Int) = 3 from by decide, show ¬ (1 : Int) = 4 from by decide, if_false, if_true] at hw ⊢
   exact back_under d H 1 sOk s hH (.inl ⟨rfl, rfl⟩) hw
  ·simp only [show ¬ (2 : Int) = 3 from by decide, show ¬ (2 : Int) = 4 from by decide, show ¬ (2 : Int) = 1 from by decide, if_false, if_true] at hw ⊢
   exact back_under d H 2 sErr s hH (.inr ⟨rfl, rfl⟩) hw
 ·have k1 : ¬ k = 1 := by omega
  have k2 : ¬ k = 2 := by omega
  by_cases k0 : k = 0
  ·subst k0
   simp only [if_true, Bool.and_eq_true, beq_iff_eq] at hf
   have hl : l = [] := List.eq_nil_of_length_eq_zero hf.2
   have hn := hf.1.1
   have hs := bytes_nil hf.1.2
   subst hl hn
   simp only [k3, k4, k1, k2, hk5, if_false]
   have hc : (bV false).ck = true := by
    unfold Vl.ck checkB bV
    have : sNone.toList = [] := sNone_list
    simp [this]
   refine ⟨hH, Nat.le_refl _, fun _ _ => rfl, ⟨hc, by show ¬ (1 : Int) = 0; decide, by show in64 0; exact ⟨by decide, by decide⟩⟩, fun H' _ _ q _ _ => ?_⟩
   rw [repP_eq]
   unfold valueP
   rw [if_pos hc, if_pos (show (bV false).k = 1 from rfl), if_pos (show (bV false).n = 0 from rfl), hs]
   simp [itR, itL, txR, txL, sNone]
   rw [show (⟨#[]⟩ : ByteArray).size = 0 from rfl]
   simp
  ·simp only [k0, k12, k3, k4, hk5, if_false] at hf
   exact absurd hf (by decide)
theorem val_back : ∀ (d : Nat) (x : Rep) (H : Hp), HX H → fineR d x = true → i64R x → (valP H x).1 = sNone → Back d H x (valP H x).2.1 (valP H x).2.2 := by
 intro d
 induction d with
 | zero =>
  rintro ⟨k, n, s, l⟩ H hH hf h6 hw
  by_cases k5 : k = 5
  ·subst k5
   unfold fineR at hf
   simp at hf
  ·exact val_leaf 0 k n s l H hH hf h6 k5 hw
 | succ d ih =>
  rintro ⟨k, n, s, l⟩ H hH hf h6 hw
  by_cases k5 : k = 5
  rotate_left
  ·exact val_leaf (d + 1) k n s l H hH hf h6 k5 hw
  subst k5
  unfold fineR at hf
  simp only [show ¬ (5 : Int) = 0 from by decide, show ¬ ((5 : Int) = 1 ∨ (5 : Int) = 2) from by decide, show ¬ (5 : Int) = 3 from by decide, show ¬ (5 : Int) = 4 from by decide, if_false, if_true, Bool.and_eq_true, beq_iff_eq] at hf
  obtain ⟨⟨hn, hs⟩, hf⟩ := hf
  have hs := bytes_nil hs
  subst hn hs
  unfold i64R at h6
  unfold valP at hw ⊢
  simp only [show ¬ (5 : Int) = 3 from by decide, show ¬ (5 : Int) = 4 from by decide, show ¬ (5 : Int) = 1 from by decide, show ¬ (5 : Int) = 2 from by decide, if_false, if_true] at hw ⊢
  by_cases h1 : tabW H = sNone
  rotate_left
  ·simp only [h1, if_false] at hw
  simp only [h1, if_true] at hw ⊢
  obtain ⟨ht, htab⟩ := tab_yes h1
  rw [ht] at hw ⊢
  have hn0 : (tabH H).tabs[H.tabs.length]? = some (rowF 0 []) := by rw [htab]; simp [rowF]
  simp only [hw, if_true]
  obtain ⟨b1, b2, b3, vs, v1, v2, v3, v4⟩ := vals_back d ih H.tabs.length l (tabH H) [] hH.tab hn0 hf h6.2 hw
  have hl0 : (tabH H).tabs.length = H.tabs.length + 1 := by rw [htab]; simp
  rw [List.nil_append] at v3 v4
  refine ⟨b1, by show _ ≤ (valsP (tabH H) ⟨4, H.tabs.length, sNone⟩ ([] : List Vl).length l).2.tabs.length; omega, fun j hj => ?_, ⟨ck_tab _, by show ¬ (4 : Int) = 0; decide, hH.in64 (Nat.le_refl _)⟩, fun H' hH' ha q hq1 hq2 => ?_⟩
  ·refine (b3 j (by omega) (by omega)).trans ?_
   rw [htab, List.getElem?_append_left hj]
  ·have hlt := (List.getElem?_eq_some_iff.1 v3).1
   have hn' := (ha _ (Nat.le_refl _) hlt).trans v3
   have hT : TbOk (rowF 0 vs) := hH'.tab _ (List.mem_of_getElem? hn')
   obtain ⟨hlw, hlv⟩ := lenW_of hn'
   rw [rowT_len hT v2, v1] at hlv
   have g1 : getV H' ⟨4, H.tabs.length, sNone⟩ (tK sErr) = Vl.zero := by
    rw [getV_of hn' (ck_tK (by decide)) (.inr rfl)]; unfold tget; rw [rowF_text]; rfl
   have g2 : getV H' ⟨4, H.tabs.length, sNone⟩ (tK sOk) = Vl.zero := by
    rw [getV_of hn' (ck_tK (by decide)) (.inr rfl)]; unfold tget; rw [rowF_text]; rfl
   unfold itR at hq1
   unfold txR at hq2
   have hs0 : (⟨#[]⟩ : ByteArray).size = 0 := rfl
   have r := v4 H' hH' (fun j j1 j2 => ha j (by omega) j2) hn' ⟨q.items - l.length, q.texts⟩ (by show _ ≤ q.items - _; omega) (by show _ ≤ q.texts; omega)
   show valueP (some (repP H' d)) H' q ⟨4, H.tabs.length, sNone⟩ = _
   unfold valueP
   rw [if_pos (ck_tab _), if_neg (by show ¬ (4 : Int) = 1; decide), if_neg (by show ¬ (4 : Int) = 2; decide), if_neg (by show ¬ (4 : Int) = 3; decide), if_pos (show (4 : Int) = 4 from rfl)]
   unfold tableP
   rw [if_pos hlw, g1, g2, if_neg (by show ¬ (0 : Int) = 3; decide), if_neg (by show ¬ (0 : Int) = 3; decide), hlv]
   simp only [Int.toNat_natCast]
   rw [if_pos (by omega)]
   simp only [List.length_nil] at r
   rw [r]
   simp only
   unfold itR txR
   congr 2
   exact room_eq (by show (q.items - (l.length : Int)) - (itL l : Int) = q.items - ((l.length + itL l : Nat) : Int); omega) (by show q.texts - (txL l : Int) = q.texts - (((⟨#[]⟩ : ByteArray).size + txL l : Nat) : Int); rw [hs0]; omega)
theorem back_plain {c : Int} (hc : c ≤ 9223372036854775807) (x : Rep) (hx : repOk x) (h6 : i64R x) (hw : (valP (newH c) x).1 = sNone) :
  repP (valP (newH c) x).2.2 100 ⟨65536, 1048576⟩ (valP (newH c) x).2.1 = .ok (x, ⟨65536 - itR x, 1048576 - txR x⟩) := by
 have b := val_back 100 x (newH c) (HX.new hc) hx.1 h6 hw
 exact b.rep _ b.ok.ok (fun _ _ _ => rfl) ⟨65536, 1048576⟩ (by have := hx.2.2; show (itR x : Int) ≤ 65536; omega) (by have := hx.2.1; show (txR x : Int) ≤ 1048576; omega)
end Go.Proofs.YtlfihdcgbhdajaaDoor
