/- Replies and values in plain words: the value of a reply, and what the heap is behind it; the reply of a value. The reply of a reply's value is the reply: the plain law. -/
import Derived.Test.YtlfihdcgbhdajaaGreatDoorYB1
import Derived.Test.YtlfihdcgbhdajaaGreatDoorYA2
namespace Go.Proofs.YtlfihdcgbhdajaaGreatDoor
set_option linter.unusedVariables false
set_option linter.unusedSimpArgs false

def sOk : ByteArray := ⟨#[111, 107]⟩
def sErr : ByteArray := ⟨#[101, 114, 114]⟩
def sReply : ByteArray := ⟨#[114, 101, 112, 108, 121]⟩
def bV (b : Bool) : Vl := ⟨1, if b then 1 else 0, sNone⟩
abbrev Br3 := ByteArray × Vl × Hp
def underP (H : Hp) (key s : ByteArray) : Br3 :=
 if tabW H = sNone then
  if mkW H.cells (tabH H).spent s = sNone then
   let H2 := mkH (tabH H) s
   if setW H2 (tabV H) (tK key) (tK s) = sNone then (sNone, tabV H, setH H2 (tabV H) (tK key) (tK s)) else (setW H2 (tabV H) (tK key) (tK s), Vl.zero, setH H2 (tabV H) (tK key) (tK s))
  else (mkW H.cells (tabH H).spent s, Vl.zero, mkH (tabH H) s)
 else (tabW H, Vl.zero, tabH H)
mutual
def valP (H : Hp) : Rep → Br3
 | .mk k n s l =>
  if k = 3 then (sNone, iK n, H)
  else if k = 4 then (if mkW H.cells H.spent s = sNone then (sNone, tK s, mkH H s) else (mkW H.cells H.spent s, Vl.zero, mkH H s))
  else if k = 1 then underP H sOk s
  else if k = 2 then underP H sErr s
  else if k = 5 then (if tabW H = sNone then (let r := valsP (tabH H) (tabV H) 0 l; (r.1, if r.1 = sNone then tabV H else Vl.zero, r.2)) else (tabW H, Vl.zero, tabH H))
  else (sNone, bV false, H)
def valsP (H : Hp) (t : Vl) (i : Nat) : List Rep → ByteArray × Hp
 | [] => (sNone, H)
 | x :: l =>
  let r := valP H x
  if r.1 = sNone then
   (if setW r.2.2 t (iK (i + 1)) r.2.1 = sNone then valsP (setH r.2.2 t (iK (i + 1)) r.2.1) t (i + 1) l else (setW r.2.2 t (iK (i + 1)) r.2.1, setH r.2.2 t (iK (i + 1)) r.2.1))
  else (r.1, r.2.2)
end
structure Room where
 items : Int
 texts : Int
abbrev RepX := Except ByteArray (Rep × Room)
def textP (q : Room) (k : Int) (s : ByteArray) : RepX :=
 if 0 ≤ q.texts - min (s.size : Int) 1048577 then .ok (.mk k 0 s [], ⟨q.items, q.texts - min (s.size : Int) 1048577⟩) else .error sReply
def rowP (f : Room → Vl → RepX) (H : Hp) (t : Vl) : Nat → Nat → Room → Except ByteArray (List Rep × Room)
 | 0, _, q => .ok ([], q)
 | n + 1, i, q => match f q (getV H t (iK (i + 1))) with
  | .error e => .error e
  | .ok (x, q') => match rowP f H t n (i + 1) q' with
   | .error e => .error e
   | .ok (l, q'') => .ok (x :: l, q'')
def tableP (f : Option (Room → Vl → RepX)) (H : Hp) (q : Room) (t : Vl) : RepX :=
  if lenW H t = sNone then
    (if (getV H t (tK sErr)).k = 3 then textP q 2 (getV H t (tK sErr)).s
     else if (getV H t (tK sOk)).k = 3 then textP q 1 (getV H t (tK sOk)).s
     else match f with
      | none => .error sReply
      | some f => if 0 ≤ q.items - lenV H t then
          (match rowP f H t (lenV H t).toNat 0 ⟨q.items - lenV H t, q.texts⟩ with
           | .error e => .error e
           | .ok (l, q') => .ok (.mk 5 0 sNone l, q'))
        else .error sReply)
  else .error (lenW H t)
def valueP (f : Option (Room → Vl → RepX)) (H : Hp) (q : Room) (v : Vl) : RepX :=
  if v.ck then
    (if v.k = 1 then .ok (if v.n = 0 then .mk 0 0 sNone [] else .mk 3 1 sNone [], q)
     else if v.k = 2 then .ok (.mk 3 v.n sNone [], q)
     else if v.k = 3 then textP q 4 v.s
     else if v.k = 4 then tableP f H q v
     else .ok (.mk 0 0 sNone [], q))
  else .error sType
def repP (H : Hp) : Nat → Room → Vl → RepX
 | 0, q, v => valueP none H q v
 | d + 1, q, v => valueP (some (repP H d)) H q v
end Go.Proofs.YtlfihdcgbhdajaaGreatDoor
namespace Go.Proofs.YtlfihdcgbhdajaaGreatDoor
set_option linter.unusedVariables false
set_option linter.unusedSimpArgs false

structure HX (H : Hp) : Prop where
 ok : HOk H
 few : (H.tabs.length : Int) ≤ H.spent
theorem HX.new {c : Int} (h : c ≤ 9223372036854775807) : HX (newH c) := ⟨newH_ok h, Int.le_refl _⟩
theorem HX.tab {H : Hp} (h : HX H) : HX (tabH H) := by
 refine ⟨tabH_ok h.ok, ?_⟩
 have := h.few
 unfold tabH
 split
 ·simp only [List.length_append, List.length_cons, List.length_nil]; omega
 ·exact this
theorem HX.make {H : Hp} (h : HX H) (s : ByteArray) : HX (mkH H s) := by
 refine ⟨mkH_ok h.ok s, ?_⟩
 have := h.few
 show (H.tabs.length : Int) ≤ mkC H.cells H.spent s
 unfold mkC tk mkN
 split
 ·exact this
 ·split <;> omega
theorem HX.set {H : Hp} (h : HX H) {t k v : Vl} (hk : in64 k.n) (hv : in64 v.n) : HX (setH H t k v) := by
 refine ⟨setH_ok h.ok hk hv, ?_⟩
 rw [setH_len]
 have := h.few
 unfold setH
 split
 ·show _ ≤ (if freshB H t k v = true then _ else _)
  split <;> omega
 ·exact this
theorem HX.in64 {H : Hp} (h : HX H) {n : Nat} (hn : n ≤ H.tabs.length) : in64 (n : Int) := by
 have h1 := h.few
 have h2 := h.ok.le
 have h3 := h.ok.most
 exact ⟨by omega, by omega⟩
theorem ck_tK {s : ByteArray} (h : s.size ≤ 1048576) : (tK s).ck = true := by
 unfold Vl.ck checkB tK
 simp
 omega
theorem ck_iN (i : Int) : (iK i).ck = true := by
 unfold Vl.ck checkB iK
 have : sNone.toList = [] := sNone_list
 simp [this]
end Go.Proofs.YtlfihdcgbhdajaaGreatDoor
