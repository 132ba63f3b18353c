/- Values in three fields; two are the same; texts are made. -/
import Derived.Test.YtidjibghicejaaaDoorValF
namespace Go.Proofs.YtidjibghicejaaaDoor
open Go.RowKit
set_option linter.unusedVariables false

/-- A value: its kind, its number, its text. -/
structure Vl where
  k : Int
  n : Int
  s : ByteArray
abbrev Vl.v (x : Vl) : Value := .agg #[.int .i64 x.k, .int .i64 x.n, .string x.s]
def Vl.zero : Vl := ⟨0, 0, ⟨#[]⟩⟩
def Vl.ck (x : Vl) : Bool := checkB x.k x.n x.s
def sameB (a b : Vl) : Bool := decide (a.k = b.k ∧ a.n = b.n ∧ a.s.toList = b.s.toList)
theorem same_any (a b : Vl) (w : World) : Calls Tryd.prog 63 #[a.v, b.v] w fun e w' => e = .returned (.bool (sameB a b)) ∧ Ext w w' := by
  go_enter Tryd.func63, Tryd.ntmps63
  go_wp2
  all_goals (go_ret; go_tidy; refine ⟨ret_of (bool_eq ?_), ((Ext.refl w).alloc _).alloc _⟩)
  all_goals (unfold sameB; simp [*])

def sNone : ByteArray := ⟨#[]⟩
def sMemory : ByteArray := ⟨#[109, 101, 109, 111, 114, 121]⟩
def sLong : ByteArray := ⟨#[108, 111, 110, 103]⟩
def sType : ByteArray := ⟨#[116, 121, 112, 101]⟩
def sOver : ByteArray := ⟨#[111, 118, 101, 114]⟩
def sZero : ByteArray := ⟨#[122, 101, 114, 111]⟩

def mkN (s : ByteArray) : Int := (s.size : Int) / 16 + 1
/-- A text is made: what is told, and how many cells are taken then. -/
def mkV (c sp : Int) (s : ByteArray) : Vl := if 1048576 < (s.size : Int) then .zero else if mkN s ≤ c - sp then ⟨3, 0, s⟩ else .zero
def mkW (c sp : Int) (s : ByteArray) : ByteArray := if 1048576 < (s.size : Int) then sLong else if mkN s ≤ c - sp then sNone else sMemory
def mkC (c sp : Int) (s : ByteArray) : Int := if 1048576 < (s.size : Int) then sp else tk c sp (mkN s)
/-- A heap's block. -/
abbrev HB (w : World) (g : Nat) (tv : Value) (c s : Int) : Prop := Blk w g 61 #[tv, .int .i64 c, .int .i64 s]
abbrev RB (w : World) (g : Nat) (tv : Value) (c s : Int) : Prop := Blk w g 38 #[tv, .int .i64 c, .int .i64 s]



theorem make_any (g : Nat) (tv : Value) (c sp : Int) (s : ByteArray) (w : World) (h : HB w g tv c sp) (hs : 0 ≤ sp) (hc : sp ≤ c) (hc' : c ≤ 4611686018427387903) (hz : s.size ≤ 9223372036854775807) :
    Calls Tryd.prog 24 #[.pointer (some ⟨g, 0, none⟩), .string s] w fun e w' =>
      e = .returned (.tuple #[(mkV c sp s).v, .string (mkW c sp s)]) ∧ Only g w w' ∧ HB w' g tv c (mkC c sp s) := by
  have hg := h.lt
  by_cases hl : 1048576 < (s.size : Int)
  · go_enter Tryd.func24, Tryd.ntmps24
    go_wp2
    refine bodyPost_ret (v := .tuple #[Vl.zero.v, .string sLong]) (by simp [results, Tryd.results24, go_sem, Vl.zero, sLong]) rfl ⟨ret2_of ⟨?_, ?_⟩, ?_, ?_⟩
    · rw [mkV, if_pos hl]
    · rw [mkW, if_pos hl]
    · exact (Only.refl g w).alloc _
    · rw [mkC, if_pos hl]; exact h.alloc _
  · have hn : 0 ≤ (s.size : Int) / 16 := by omega
    have hn' : (s.size : Int) / 16 ≤ 65536 := by omega
    have hk : ¬ w.heap.size = g := by omega
    have hl' : ¬ 1048576 < (s.size : Int) := hl
    by_cases hq : (s.size : Int) / 16 + 1 ≤ c - sp
    · have hb : tkB c sp ((s.size : Int) / 16 + 1) = true := (tkB_yes hq).symm
      go_enter Tryd.func24, Tryd.ntmps24
      go_wp2_with (first
        | (go_at_call 33; refine (take_any g tv c sp _ _ (h.alloc _) hs hc hc' (by omega) (by omega)).mono ?_; rintro e w' ⟨rfl, ho, hb'⟩; obtain ⟨q1, q2⟩ := ho.cells)
        | (go_at_call 41; refine (text_any _ _).mono ?_; rintro e w'' ⟨rfl, he⟩; have hz' := ho.lt1; obtain ⟨p1, p2⟩ := he.cells))
      refine bodyPost_ret (v := .tuple #[vv 3 0 s, .string sNone]) (by simp [results, Tryd.results24, go_sem, sNone, *]) rfl ⟨ret2_of ⟨?_, ?_⟩, ?_, ?_⟩
      · rw [mkV, if_neg (by omega), if_pos (by unfold mkN; omega)]
      · rw [mkW, if_neg (by omega), if_pos (by unfold mkN; omega)]
      · exact ((((((Only.refl g w).alloc _).trans ho).ext he).setCell (.inr (Nat.le_refl _)) _).setCell (.inr (Nat.le_refl _)) _).setCell (.inr (Nat.le_refl _)) _
      · rw [mkC, if_neg (by omega)]
        exact (((hb'.ext he).far (by simp; omega) _).far (by simp; omega) _).far (by simp; omega) _
    · have hb : tkB c sp ((s.size : Int) / 16 + 1) = false := (tkB_no hq).symm
      go_enter Tryd.func24, Tryd.ntmps24
      go_wp2_with (first
        | (go_at_call 33; refine (take_any g tv c sp _ _ (h.alloc _) hs hc hc' (by omega) (by omega)).mono ?_; rintro e w' ⟨rfl, ho, hb'⟩; obtain ⟨q1, q2⟩ := ho.cells))
      refine bodyPost_ret (v := .tuple #[Vl.zero.v, .string sMemory]) (by simp [results, Tryd.results24, go_sem, sMemory, Vl.zero, *]) rfl ⟨ret2_of ⟨?_, ?_⟩, ?_, ?_⟩
      · rw [mkV, if_neg (by omega), if_neg (by unfold mkN; omega)]
      · rw [mkW, if_neg (by omega), if_neg (by unfold mkN; omega)]
      · exact (((((Only.refl g w).alloc _).trans ho).setCell (.inr (Nat.le_refl _)) _).setCell (.inr (Nat.le_refl _)) _).setCell (.inr (Nat.le_refl _)) _
      · rw [mkC, if_neg (by omega)]
        exact ((hb'.far (by simp; omega) _).far (by simp; omega) _).far (by simp; omega) _

theorem rmake_any (g : Nat) (tv : Value) (c sp : Int) (s : ByteArray) (w : World) (h : RB w g tv c sp) (hs : 0 ≤ sp) (hc : sp ≤ c) (hc' : c ≤ 4611686018427387903) (hz : s.size ≤ 9223372036854775807) :
    Calls Tryd.prog 30 #[.pointer (some ⟨g, 0, none⟩), .string s] w fun e w' =>
      e = .returned (.tuple #[(mkV c sp s).v, .string (mkW c sp s)]) ∧ Only g w w' ∧ RB w' g tv c (mkC c sp s) := by
  have hg := h.lt
  by_cases hl : 1048576 < (s.size : Int)
  · go_enter Tryd.func30, Tryd.ntmps30
    go_wp2
    refine bodyPost_ret (v := .tuple #[Vl.zero.v, .string sLong]) (by simp [results, Tryd.results30, go_sem, Vl.zero, sLong]) rfl ⟨ret2_of ⟨?_, ?_⟩, ?_, ?_⟩
    · rw [mkV, if_pos hl]
    · rw [mkW, if_pos hl]
    · exact (Only.refl g w).alloc _
    · rw [mkC, if_pos hl]; exact h.alloc _
  · have hn : 0 ≤ (s.size : Int) / 16 := by omega
    have hn' : (s.size : Int) / 16 ≤ 65536 := by omega
    have hk : ¬ w.heap.size = g := by omega
    have hl' : ¬ 1048576 < (s.size : Int) := hl
    by_cases hq : (s.size : Int) / 16 + 1 ≤ c - sp
    · have hb : tkB c sp ((s.size : Int) / 16 + 1) = true := (tkB_yes hq).symm
      go_enter Tryd.func30, Tryd.ntmps30
      go_wp2_with (first
        | (go_at_call 52; refine (rtake_any g tv c sp _ _ (h.alloc _) hs hc hc' (by omega) (by omega)).mono ?_; rintro e w' ⟨rfl, ho, hb'⟩; obtain ⟨q1, q2⟩ := ho.cells)
        | (go_at_call 53; refine (rtext_any _ _).mono ?_; rintro e w'' ⟨rfl, he⟩; have hz' := ho.lt1; obtain ⟨p1, p2⟩ := he.cells))
      refine bodyPost_ret (v := .tuple #[vv 3 0 s, .string sNone]) (by simp [results, Tryd.results30, go_sem, sNone, *]) rfl ⟨ret2_of ⟨?_, ?_⟩, ?_, ?_⟩
      · rw [mkV, if_neg (by omega), if_pos (by unfold mkN; omega)]
      · rw [mkW, if_neg (by omega), if_pos (by unfold mkN; omega)]
      · exact ((((((Only.refl g w).alloc _).trans ho).ext he).setCell (.inr (Nat.le_refl _)) _).setCell (.inr (Nat.le_refl _)) _).setCell (.inr (Nat.le_refl _)) _
      · rw [mkC, if_neg (by omega)]
        exact (((hb'.ext he).far (by simp; omega) _).far (by simp; omega) _).far (by simp; omega) _
    · have hb : tkB c sp ((s.size : Int) / 16 + 1) = false := (tkB_no hq).symm
      go_enter Tryd.func30, Tryd.ntmps30
      go_wp2_with (first
        | (go_at_call 52; refine (rtake_any g tv c sp _ _ (h.alloc _) hs hc hc' (by omega) (by omega)).mono ?_; rintro e w' ⟨rfl, ho, hb'⟩; obtain ⟨q1, q2⟩ := ho.cells))
      refine bodyPost_ret (v := .tuple #[Vl.zero.v, .string sMemory]) (by simp [results, Tryd.results30, go_sem, sMemory, Vl.zero, *]) rfl ⟨ret2_of ⟨?_, ?_⟩, ?_, ?_⟩
      · rw [mkV, if_neg (by omega), if_neg (by unfold mkN; omega)]
      · rw [mkW, if_neg (by omega), if_neg (by unfold mkN; omega)]
      · exact (((((Only.refl g w).alloc _).trans ho).setCell (.inr (Nat.le_refl _)) _).setCell (.inr (Nat.le_refl _)) _).setCell (.inr (Nat.le_refl _)) _
      · rw [mkC, if_neg (by omega)]
        exact ((hb'.far (by simp; omega) _).far (by simp; omega) _).far (by simp; omega) _
end Go.Proofs.YtidjibghicejaaaDoor
