/- What is told is read as the tree: statements, blocks, the whole. How great what is read is: it is bound by the words that were read. -/
import Derived.Test.YtkbcnacjaakleaaGreatDoorYP29
import Derived.Test.YtkbcnacjaakleaaGreatDoorYP04
import Derived.Test.YtkbcnacjaakleaaGreatDoorYP08
import Derived.Test.YtkbcnacjaakleaaGreatDoorYP01
set_option maxRecDepth 100000
set_option maxHeartbeats 32000000
set_option linter.unusedVariables false
set_option linter.unusedSimpArgs false
namespace Go.Proofs.YtkbcnacjaakleaaGreatDoor

section
variable {z : Wz} {p : Nat} {x : Wd}
theorem Hd.ends (h : Hd z p x) (hx : x = kwW tEnd ∨ x = kwW tElse ∨ x = kwW tElseif) : endsW z p = true := by
 unfold endsW
 rw [h.is, h.is, h.is]
 rcases hx with rfl | rfl | rfl <;> simp [kwW]
end
end Go.Proofs.YtkbcnacjaakleaaGreatDoor
namespace Go.Proofs.YtkbcnacjaakleaaGreatDoor

def wl (w : Wd) : Nat := (toldP w).length + 1
def tlen (l : List Wd) : Nat := (l.map wl).sum
theorem tlen_nil : tlen [] = 0 := rfl
theorem tlen_cons (w : Wd) (l : List Wd) : tlen (w :: l) = wl w + tlen l := by simp [tlen]
theorem tlen_app (a b : List Wd) : tlen (a ++ b) = tlen a + tlen b := by simp [tlen]
theorem wl_kw (t : List UInt8) : wl (kwW t) = t.length + 1 := rfl
theorem wl_sg (t : List UInt8) : wl (sgW t) = t.length + 1 := rfl
theorem wl_nm (s : ByteArray) : wl (nmW s) = s.size + 1 := rfl
theorem wl_op (s : ByteArray) : wl (opW s) = s.size + 1 := by
 unfold opW
 split
 ·exact wl_kw _
 ·exact wl_sg _
theorem wl_ahead (k : Int) : wl (aheadW k) ≤ 4 := by
 unfold aheadW
 split
 ·decide
 ·split <;> decide
theorem inner_le (b : Bool) (l : List Wd) : tlen (innerT b l) ≤ tlen l + 4 := by
 unfold innerT
 split
 ·rw [tlen_cons, tlen_app, tlen_cons, tlen_nil]
  have h1 : wl (sgW [40]) = 2 := rfl
  have h2 : wl (sgW [41]) = 2 := rfl
  omega
 ·omega
def sumZ (tl : List (List Wd)) : Nat := (tl.map tlen).sum
theorem sumZ_cons (x : List Wd) (l : List (List Wd)) : sumZ (x :: l) = tlen x + sumZ l := by simp [sumZ]
theorem sumZ_app (a b : List (List Wd)) : sumZ (a ++ b) = sumZ a + sumZ b := by simp [sumZ]
theorem comma_tail : ∀ l : List (List Wd), tlen (l.flatMap fun y => sgW [44] :: y) = sumZ l + 2 * l.length
 | [] => rfl
 | x :: l => by
  have h1 : wl (sgW [44]) = 2 := rfl
  rw [List.flatMap_cons, tlen_app, tlen_cons, comma_tail l, sumZ_cons, List.length_cons]
  omega
theorem commaZ_le (l : List (List Wd)) : tlen (commaT l) ≤ sumZ l + 2 * l.length := by
 cases l with
 | nil => exact Nat.zero_le _
 | cons x l =>
  unfold commaT
  rw [tlen_app, comma_tail, sumZ_cons, List.length_cons]
  omega
theorem semi_le : ∀ l : List (List Wd), tlen (l.flatMap (· ++ [sgW [59]])) = sumZ l + 2 * l.length
 | [] => rfl
 | x :: l => by
  have h1 : wl (sgW [59]) = 2 := rfl
  rw [List.flatMap_cons, tlen_app, tlen_app, tlen_cons, tlen_nil, semi_le l, sumZ_cons, List.length_cons]
  omega
theorem rest_le : ∀ l : List (List Wd), tlen (restT l) ≤ sumZ l + 12 * l.length + 4
 | [] => by decide
 | [e] => by
  have h1 : wl (kwW tElse) = 5 := rfl
  have h2 : wl (kwW tEnd) = 4 := rfl
  simp only [restT, tlen_cons, tlen_app, tlen_nil, sumZ_cons, List.length_cons, List.length_nil]
  have h3 : sumZ [] = 0 := rfl
  omega
 | c :: b :: l => by
  have h1 : wl (kwW tElseif) = 7 := rfl
  have h2 : wl (kwW tThen) = 5 := rfl
  have h3 := rest_le l
  simp only [restT, tlen_cons, tlen_app, sumZ_cons, List.length_cons]
  omega
theorem if_le (l : List (List Wd)) : tlen (ifT l) ≤ sumZ l + 12 * l.length + 4 := by
 unfold ifT
 split
 ·rename_i c b l
  have h1 : wl (kwW tIf) = 3 := rfl
  have h2 : wl (kwW tThen) = 5 := rfl
  have h3 := rest_le l
  simp only [tlen_cons, tlen_app, sumZ_cons, List.length_cons]
  omega
 ·exact Nat.zero_le _
def wtN (x : Nd) : Nat := tlen (tellN x) + txN x + cntN x
def wL (K : Nat) (l : List Nd) : Nat := (l.map fun x => wtN x + K).sum
theorem wL_nil (K : Nat) : wL K [] = 0 := rfl
theorem wL_cons (K : Nat) (x : Nd) (l : List Nd) : wL K (x :: l) = wtN x + K + wL K l := by simp [wL]
theorem wL_app (K : Nat) (a b : List Nd) : wL K (a ++ b) = wL K a + wL K b := by simp [wL]
theorem wL_len (K : Nat) : ∀ l : List Nd, wL K l = wL 0 l + K * l.length
 | [] => by simp [wL]
 | x :: l => by rw [wL_cons, wL_cons, wL_len K l, List.length_cons, Nat.mul_succ]; omega
theorem tell_sum : ∀ l : List Nd, sumZ (tellL l) + txL l + cntL l = wL 0 l
 | [] => by simp [sumZ, tellL, txL, cntL, wL]
 | x :: l => by
  have := tell_sum l
  rw [wL_cons]
  simp only [tellL, sumZ_cons, txL, cntL]
  unfold wtN
  omega
theorem tell_len (l : List Nd) : (tellL l).length = l.length := by rw [tellL_map, List.length_map]
def nsz (l : List ByteArray) : Nat := l.length + (l.map ByteArray.size).sum
theorem wt_mk (k : Int) (nm tx : ByteArray) (n : Int) (ns : List ByteArray) (l : List Nd) :
  wtN (.mk k nm tx n ns l) = tlen (tellK k nm tx n ns (l.map Nd.k) (tellL l)) + nm.size + tx.size + nsz ns + txL l + 1 + cntL l := by
 unfold wtN nsz
 simp only [tellN, txN, cntN]
 omega
theorem names_le (l : List ByteArray) : tlen (namesT l) ≤ 3 * l.length + (l.map ByteArray.size).sum := by
 unfold namesT
 have h := commaZ_le (l.map fun s => [nmW s])
 have h2 : sumZ (l.map fun s => [nmW s]) = l.length + (l.map ByteArray.size).sum := by
  clear h
  induction l with
  | nil => rfl
  | cons x l ih =>
   rw [List.map_cons, sumZ_cons, ih, tlen_cons, tlen_nil, wl_nm, List.length_cons, List.map_cons, List.sum_cons]
   omega
 rw [List.length_map] at h
 omega
/-! ### Kinds and numbers -/
mutual
def KnN : Nd → Prop
 | .mk k _ _ n _ ks => (0 ≤ k ∧ k ≤ 24 ∧ 0 ≤ n ∧ n ≤ 9223372036854775807) ∧ KnL ks
def KnL : List Nd → Prop
 | [] => True
 | x :: l => KnN x ∧ KnL l
end
theorem kn_app : ∀ {a b : List Nd}, KnL a → KnL b → KnL (a ++ b)
 | [], b, _, h => h
 | x :: a, b, h, h2 => by
  simp only [KnL, List.cons_append] at h ⊢
  exact ⟨h.1, kn_app h.2 h2⟩
theorem kn_one {x : Nd} (h : KnN x) : KnL [x] := by simp only [KnL]; exact ⟨h, trivial⟩
theorem kn_two {x y : Nd} (h : KnN x) (g : KnN y) : KnL [x, y] := by simp only [KnL]; exact ⟨h, g, trivial⟩
theorem kn_nil : KnL [] := by simp only [KnL]
theorem kn_mk {k : Int} {nm tx : ByteArray} {n : Int} {ns : List ByteArray} {l : List Nd} (hk : 0 ≤ k ∧ k ≤ 24) (hn : 0 ≤ n ∧ n ≤ 9223372036854775807) (hl : KnL l) : KnN (.mk k nm tx n ns l) := by
 simp only [KnN]
 exact ⟨⟨hk.1, hk.2, hn.1, hn.2⟩, hl⟩
theorem kn_k {k : Int} {l : List Nd} (hk : 0 ≤ k ∧ k ≤ 24) (hl : KnL l) : KnN (ndK k l) := kn_mk hk (by decide) hl
/-! ### Trees by kinds -/
theorem wt_0 (l : List Nd) : wtN (ndK 0 l) = wL 2 l + 1 := by
 unfold ndK
 rw [wt_mk, wL_len]
 have h1 : tellK 0 eB eB 0 [] (l.map Nd.k) (tellL l) = (tellL l).flatMap (· ++ [sgW [59]]) := by simp [tellK]
 rw [h1, semi_le, tell_len]
 have h2 := tell_sum l
 have h3 : nsz [] = 0 := rfl
 have h4 : eB.size = 0 := rfl
 omega
theorem wt_1 (ns : List ByteArray) (l : List Nd) : wtN (ndL 1 ns l) ≤ wL 2 l + 4 * ns.length + 2 * (ns.map ByteArray.size).sum + 9 := by
 unfold ndL
 rw [wt_mk, wL_len]
 have h1 : tlen (tellK 1 eB eB 0 ns (l.map Nd.k) (tellL l)) ≤ sumZ (tellL l) + 2 * l.length + 3 * ns.length + (ns.map ByteArray.size).sum + 8 := by
  have e : tellK 1 eB eB 0 ns (l.map Nd.k) (tellL l) = kwW tLocal :: (namesT ns ++ (if (tellL l).isEmpty then [] else sgW [61] :: commaT (tellL l))) := by simp [tellK]
  rw [e, tlen_cons, tlen_app]
  have h2 := names_le ns
  have h3 := commaZ_le (tellL l)
  rw [tell_len] at h3
  have h4 : wl (kwW tLocal) = 6 := rfl
  have h5 : wl (sgW [61]) = 2 := rfl
  split
  ·rw [tlen_nil]; omega
  ·rw [tlen_cons]; omega
 have h2 := tell_sum l
 have h4 : eB.size = 0 := rfl
 unfold nsz
 omega
theorem wt_2 (a b : Nd) : wtN (ndK 2 [a, b]) = wtN a + wtN b + 3 := by
 unfold ndK
 rw [wt_mk]
 have e : tellK 2 eB eB 0 [] ([a, b].map Nd.k) (tellL [a, b]) = tellN a ++ sgW [61] :: tellN b := by simp [tellK, tellL]
 rw [e, tlen_app, tlen_cons]
 have h1 : wl (sgW [61]) = 2 := rfl
 have h3 : nsz [] = 0 := rfl
 have h4 : eB.size = 0 := rfl
 simp only [txL, cntL]
 unfold wtN
 omega
theorem wt_3 (b : Nd) : wtN (ndK 3 [b]) = wtN b + 8 := by
 unfold ndK
 rw [wt_mk]
 have e : tellK 3 eB eB 0 [] ([b].map Nd.k) (tellL [b]) = kwW tDo :: (tellN b ++ [kwW tEnd]) := by simp [tellK, tellL]
 rw [e, tlen_cons, tlen_app, tlen_cons, tlen_nil]
 have h1 : wl (kwW tDo) = 3 := rfl
 have h2 : wl (kwW tEnd) = 4 := rfl
 have h3 : nsz [] = 0 := rfl
 have h4 : eB.size = 0 := rfl
 simp only [txL, cntL]
 unfold wtN
 omega
theorem wt_4 (l : List Nd) : wtN (ndK 4 l) ≤ wL 12 l + 5 := by
 unfold ndK
 rw [wt_mk, wL_len]
 have e : tellK 4 eB eB 0 [] (l.map Nd.k) (tellL l) = ifT (tellL l) := by simp [tellK]
 rw [e]
 have h1 := if_le (tellL l)
 rw [tell_len] at h1
 have h2 := tell_sum l
 have h3 : nsz [] = 0 := rfl
 have h4 : eB.size = 0 := rfl
 omega
theorem wt_5 (c b : Nd) : wtN (ndK 5 [c, b]) = wtN c + wtN b + 14 := by
 unfold ndK
 rw [wt_mk]
 have e : tellK 5 eB eB 0 [] ([c, b].map Nd.k) (tellL [c, b]) = kwW tWhile :: (tellN c ++ kwW tDo :: (tellN b ++ [kwW tEnd])) := by simp [tellK, tellL]
 rw [e, tlen_cons, tlen_app, tlen_cons, tlen_app, tlen_cons, tlen_nil]
 have h0 : wl (kwW tWhile) = 6 := rfl
 have h1 : wl (kwW tDo) = 3 := rfl
 have h2 : wl (kwW tEnd) = 4 := rfl
 have h3 : nsz [] = 0 := rfl
 have h4 : eB.size = 0 := rfl
 simp only [txL, cntL]
 unfold wtN
 omega
theorem sumZ_cut (l : List (List Wd)) (x : List Wd) : sumZ (l ++ [x]).dropLast + tlen ((l ++ [x]).getLastD []) = sumZ (l ++ [x]) := by
 rw [List.dropLast_concat, sumZ_app, sumZ_cons, List.getLastD_concat]
 rfl
theorem wt_6 (nm : ByteArray) (l : List Nd) (b : Nd) : wtN (ndL 6 [nm] (l ++ [b])) ≤ wL 2 l + wtN b + 2 * nm.size + 18 := by
 unfold ndL
 rw [wt_mk, wL_len]
 have h1 : tlen (tellK 6 eB eB 0 [nm] ((l ++ [b]).map Nd.k) (tellL (l ++ [b]))) ≤ sumZ (tellL (l ++ [b])) + 2 * l.length + nm.size + 15 := by
  have e : tellK 6 eB eB 0 [nm] ((l ++ [b]).map Nd.k) (tellL (l ++ [b])) = kwW tFor :: nmW nm :: sgW [61] :: (commaT (tellL (l ++ [b])).dropLast ++ kwW tDo :: ((tellL (l ++ [b])).getLastD [] ++ [kwW tEnd])) := by simp [tellK]
  have e2 : tellL (l ++ [b]) = tellL l ++ [tellN b] := by simp [tellL_map]
  have h3 := commaZ_le (tellL l)
  rw [tell_len] at h3
  rw [e, e2]
  have h5 := sumZ_cut (tellL l) (tellN b)
  rw [List.dropLast_concat] at h5 ⊢
  simp only [tlen_cons, tlen_app, tlen_nil]
  have g0 : wl (kwW tFor) = 4 := rfl
  have g1 : wl (kwW tDo) = 3 := rfl
  have g2 : wl (kwW tEnd) = 4 := rfl
  have g3 : wl (sgW [61]) = 2 := rfl
  rw [wl_nm]
  omega
 have h2 := tell_sum (l ++ [b])
 rw [wL_app, wL_cons, wL_nil] at h2
 have h3 : nsz [nm] = 1 + nm.size := by simp [nsz]
 have h4 : eB.size = 0 := rfl
 omega
theorem wt_7 (l : List Nd) : wtN (ndK 7 l) ≤ wL 2 l + 8 := by
 unfold ndK
 rw [wt_mk, wL_len]
 have e : tellK 7 eB eB 0 [] (l.map Nd.k) (tellL l) = kwW tReturn :: commaT (tellL l) := by simp [tellK]
 rw [e, tlen_cons]
 have h1 := commaZ_le (tellL l)
 rw [tell_len] at h1
 have h0 : wl (kwW tReturn) = 7 := rfl
 have h2 := tell_sum l
 have h3 : nsz [] = 0 := rfl
 have h4 : eB.size = 0 := rfl
 omega
theorem wt_8 : wtN (ndK 8 []) = 7 := by decide +kernel
theorem wt_9 (nm : ByteArray) (ns : List ByteArray) (b : Nd) : wtN (.mk 9 nm eB 0 ns [b]) ≤ wtN b + 2 * nm.size + 4 * ns.length + 2 * (ns.map ByteArray.size).sum + 25 := by
 rw [wt_mk]
 have e : tellK 9 nm eB 0 ns ([b].map Nd.k) (tellL [b]) = kwW tLocal :: kwW tFunction :: nmW nm :: sgW [40] :: (namesT ns ++ sgW [41] :: (tellN b ++ [kwW tEnd])) := by simp [tellK, tellL]
 rw [e]
 simp only [tlen_cons, tlen_app, tlen_nil]
 have h := names_le ns
 have g0 : wl (kwW tLocal) = 6 := rfl
 have g1 : wl (kwW tFunction) = 9 := rfl
 have g2 : wl (kwW tEnd) = 4 := rfl
 have g3 : wl (sgW [40]) = 2 := rfl
 have g4 : wl (sgW [41]) = 2 := rfl
 have h4 : eB.size = 0 := rfl
 rw [wl_nm]
 simp only [txL, cntL]
 unfold wtN nsz
 omega
theorem wt_10 : wtN (ndK 10 []) = 5 ∧ wtN (ndK 11 []) = 6 ∧ wtN (ndK 12 []) = 7 := by decide +kernel
theorem wt_13 (n : Int) : wtN (ndI n) = (toldP ⟨2, [], n, 0⟩).length + 2 := by
 unfold ndI
 rw [wt_mk]
 have e : tellK 13 eB eB n [] (([] : List Nd).map Nd.k) (tellL []) = [⟨2, [], n, 0⟩] := by simp [tellK]
 rw [e, tlen_cons, tlen_nil]
 have h3 : nsz [] = 0 := rfl
 have h4 : eB.size = 0 := rfl
 simp only [txL, cntL]
 unfold wl
 omega
theorem wt_14 (s : ByteArray) : wtN (ndT s) ≤ 5 * s.size + 4 ∧ wtN (ndT s) = (quoteP s.data.toList).length + s.size + 2 := by
 unfold ndT
 rw [wt_mk]
 have e : tellK 14 eB s 0 [] (([] : List Nd).map Nd.k) (tellL []) = [⟨3, s.data.toList, 0, 0⟩] := by simp [tellK]
 rw [e, tlen_cons, tlen_nil]
 have h3 : nsz [] = 0 := rfl
 have h4 : eB.size = 0 := rfl
 have h5 := quote_len s.data.toList
 have h6 : s.data.toList.length = s.size := rfl
 have h7 : wl ⟨3, s.data.toList, 0, 0⟩ = (quoteP s.data.toList).length + 1 := rfl
 simp only [txL, cntL]
 omega
theorem wt_15 (s : ByteArray) : wtN (ndS 15 s []) = 2 * s.size + 2 := by
 unfold ndS
 rw [wt_mk]
 have e : tellK 15 s eB 0 [] (([] : List Nd).map Nd.k) (tellL []) = [nmW s] := by simp [tellK]
 rw [e, tlen_cons, tlen_nil, wl_nm]
 have h3 : nsz [] = 0 := rfl
 have h4 : eB.size = 0 := rfl
 simp only [txL, cntL]
 omega
theorem wt_16 (a b : Nd) : wtN (ndK 16 [a, b]) ≤ wtN a + wtN b + 9 := by
 unfold ndK
 rw [wt_mk]
 have e : tellK 16 eB eB 0 [] ([a, b].map Nd.k) (tellL [a, b]) = innerT (!(a.k == 15 || a.k == 17 || a.k == 16)) (tellN a) ++ sgW [91] :: (tellN b ++ [sgW [93]]) := by simp [tellK, tellL]
 rw [e]
 have h := inner_le (!(a.k == 15 || a.k == 17 || a.k == 16)) (tellN a)
 simp only [tlen_cons, tlen_app, tlen_nil]
 have g3 : wl (sgW [91]) = 2 := rfl
 have g4 : wl (sgW [93]) = 2 := rfl
 have h3 : nsz [] = 0 := rfl
 have h4 : eB.size = 0 := rfl
 simp only [txL, cntL]
 unfold wtN
 omega
theorem wt_17 (s : ByteArray) (l : List Nd) : wtN (ndS 17 s l) ≤ wL 2 l + 2 * s.size + 6 := by
 unfold ndS
 rw [wt_mk, wL_len]
 have e : tellK 17 s eB 0 [] (l.map Nd.k) (tellL l) = nmW s :: sgW [40] :: (commaT (tellL l) ++ [sgW [41]]) := by simp [tellK]
 rw [e]
 simp only [tlen_cons, tlen_app, tlen_nil]
 have h1 := commaZ_le (tellL l)
 rw [tell_len] at h1
 have h2 := tell_sum l
 have g3 : wl (sgW [40]) = 2 := rfl
 have g4 : wl (sgW [41]) = 2 := rfl
 have h3 : nsz [] = 0 := rfl
 have h4 : eB.size = 0 := rfl
 rw [wl_nm]
 omega
theorem wt_18 (l : List Nd) : wtN (ndK 18 l) ≤ wL 2 l + 5 := by
 unfold ndK
 rw [wt_mk, wL_len]
 have e : tellK 18 eB eB 0 [] (l.map Nd.k) (tellL l) = sgW [123] :: (commaT (tellL l) ++ [sgW [125]]) := by simp [tellK]
 rw [e]
 simp only [tlen_cons, tlen_app, tlen_nil]
 have h1 := commaZ_le (tellL l)
 rw [tell_len] at h1
 have h2 := tell_sum l
 have g3 : wl (sgW [123]) = 2 := rfl
 have g4 : wl (sgW [125]) = 2 := rfl
 have h3 : nsz [] = 0 := rfl
 have h4 : eB.size = 0 := rfl
 omega
theorem wt_19 (a : Nd) : wtN (ndK 19 [a]) = wtN a + 1 := by
 unfold ndK
 rw [wt_mk]
 have e : tellK 19 eB eB 0 [] ([a].map Nd.k) (tellL [a]) = tellN a := by simp [tellK, tellL]
 rw [e]
 have h3 : nsz [] = 0 := rfl
 have h4 : eB.size = 0 := rfl
 simp only [txL, cntL]
 unfold wtN
 omega
theorem wt_20 (a b : Nd) : wtN (ndK 20 [a, b]) = wtN a + wtN b + 7 := by
 unfold ndK
 rw [wt_mk]
 have e : tellK 20 eB eB 0 [] ([a, b].map Nd.k) (tellL [a, b]) = sgW [91] :: (tellN a ++ sgW [93] :: sgW [61] :: tellN b) := by simp [tellK, tellL]
 rw [e]
 simp only [tlen_cons, tlen_app, tlen_nil]
 have g2 : wl (sgW [61]) = 2 := rfl
 have g3 : wl (sgW [91]) = 2 := rfl
 have g4 : wl (sgW [93]) = 2 := rfl
 have h3 : nsz [] = 0 := rfl
 have h4 : eB.size = 0 := rfl
 simp only [txL, cntL]
 unfold wtN
 omega
theorem wt_21 (op : List UInt8) (a b : Nd) : wtN (binN op a b) ≤ wtN a + wtN b + 2 * op.length + 10 := by
 unfold binN ndS
 rw [wt_mk]
 have e : tellK 21 ⟨op.toArray⟩ eB 0 [] ([a, b].map Nd.k) (tellL [a, b]) = innerT (madeK a.k) (tellN a) ++ opW ⟨op.toArray⟩ :: innerT (madeK b.k) (tellN b) := by simp [tellK, tellL]
 rw [e]
 have h1 := inner_le (madeK a.k) (tellN a)
 have h2 := inner_le (madeK b.k) (tellN b)
 simp only [tlen_cons, tlen_app, tlen_nil]
 have h3 : nsz [] = 0 := rfl
 have h4 : eB.size = 0 := rfl
 have h5 : (⟨op.toArray⟩ : ByteArray).size = op.length := rfl
 rw [wl_op, h5]
 simp only [txL, cntL]
 unfold wtN
 omega
theorem wt_ahead (k : Int) (hk : k = 22 ∨ k = 23 ∨ k = 24) (a : Nd) : wtN (ndK k [a]) ≤ wtN a + 9 := by
 unfold ndK
 rw [wt_mk]
 have e : tellK k eB eB 0 [] ([a].map Nd.k) (tellL [a]) = aheadW k :: innerT (madeK a.k) (tellN a) := by
  rcases hk with rfl | rfl | rfl <;> simp [tellK, tellL]
 rw [e]
 have h1 := inner_le (madeK a.k) (tellN a)
 have h2 := wl_ahead k
 simp only [tlen_cons, tlen_app, tlen_nil]
 have h3 : nsz [] = 0 := rfl
 have h4 : eB.size = 0 := rfl
 simp only [txL, cntL]
 unfold wtN
 omega
end Go.Proofs.YtkbcnacjaakleaaGreatDoor
