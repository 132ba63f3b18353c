/- The library's table of functions. Looking a function up; Has; Names. -/
import Derived.Test.YtfagldjhibdfhaaGreatDoorYA4
import Derived.Laws.EntriesVeiled
namespace Go.Proofs.YtfagldjhibdfhaaGreatDoor
open Go.RowKit
set_option linter.unusedVariables false
set_option linter.unusedSimpArgs false

def KindAt (w : World) (v : Value) (l : List ByteArray) : Prop := (l = [] ∧ v = .slice none 0 0) ∨ ∃ b, v = .slice (some ⟨b, 0, none⟩) l.length l.length ∧ b < w.heap.size ∧ ∀ i (h : i < l.length), w.cell? ⟨b, i, none⟩ = some (.string l[i])
theorem KindAt.ext {w w' : World} {v : Value} {l : List ByteArray} (h : KindAt w v l) (he : Ext w w') : KindAt w' v l := by
 rcases h with h | ⟨b, h1, h2, h3⟩
 ·exact .inl h
 ·exact .inr ⟨b, h1, Nat.lt_of_lt_of_le h2 he.le, fun i hi => (he.cells.1 _ _ h2).trans (h3 i hi)⟩
theorem KindAt.of_blk {w : World} {b : Nat} {t : TypeId} {l : List ByteArray} (h : Blk w b t (l.map Value.string).toArray) : KindAt w (.slice (some ⟨b, 0, none⟩) l.length l.length) l :=
 .inr ⟨b, rfl, h.lt, fun i hi => by
  rw [h.cell i]
  simp [hi]⟩
def kindS : Nat → List ByteArray
 | 0 => [⟨#[116, 110]⟩]
 | 1 => []
 | 2 => [⟨#[98, 116]⟩]
 | 3 => [⟨#[116, 116]⟩]
 | 4 => [⟨#[98, 118]⟩, ⟨#[98, 110, 118]⟩]
 | 5 => [⟨#[98]⟩]
 | 6 => [⟨#[118]⟩]
 | 7 => [⟨#[98]⟩, ⟨#[98, 110]⟩]
 | 8 => [⟨#[116, 110]⟩]
 | 9 => [⟨#[116, 110]⟩, ⟨#[116, 110, 110]⟩]
 | 10 => [⟨#[118]⟩]
 | 11 => [⟨#[118]⟩]
 | _ => [⟨#[118]⟩]
def fnV (nb : Nat) : Nat → Value
 | 0 => .func (.func 66) #[] #[]
 | 1 => .func (.func 68) #[] #[]
 | 2 => .func (.func 69) #[] #[]
 | 3 => .func (.func 64) #[] #[]
 | 4 => .func (.func 70) #[] #[]
 | 5 => .func (.func 72) #[] #[]
 | 6 => .func (.func 58) #[] #[]
 | 7 => .func (.func 71) #[] #[]
 | 8 => .func (.func 61) #[] #[]
 | 9 => .func (.func 60) #[] #[]
 | 10 => .func (.func 57) #[] #[]
 | 11 => .func (.func 55) #[] #[]
 | _ => .func (.func 52) #[] #[.pointer (some ⟨nb, 0, none⟩)]
def libOrder : List Nat := [12, 11, 10, 6, 9, 8, 3, 0, 1, 2, 4, 7, 5]
def libM (nb : Nat) (kv : Nat → Value) : List (ByteArray × Value) := libOrder.map fun f => (libNames.getD f sNone, .agg #[kv f, fnV nb f])
structure LibAt (w : World) (r nb : Nat) (kv : Nat → Value) : Prop where
 lt : nb < w.heap.size
 name : ∀ i : Nat, i < 5 → w.cell? ⟨nb, i, none⟩ = some (.string (kindName i))
 map : IsMap Value.string w r (libM nb kv)
 kind : ∀ f, f < 13 → KindAt w (kv f) (kindS f)
 chr : kv 1 = .slice none 0 0
theorem LibAt.ext {w w' : World} {r nb : Nat} {kv : Nat → Value} (h : LibAt w r nb kv) (he : Ext w w') : LibAt w' r nb kv :=
 ⟨Nat.lt_of_lt_of_le h.lt he.le, fun i hi => (he.cells.1 _ _ h.lt).trans (h.name i hi), h.map.of (he.block r h.map.lt), fun f hf => (h.kind f hf).ext he, h.chr⟩
structure Turn (r : Nat) (w w1 : World) : Prop where
 size : w.heap.size ≤ w1.heap.size
 block : ∀ i, i < w.heap.size → i ≠ r → w1.heap[i]? = w.heap[i]?
 os : w1.os = w.os
 tape : w1.tape = w.tape
 output : w1.output = w.output
theorem Turn.refl (r : Nat) (w : World) : Turn r w w := ⟨Nat.le_refl _, fun _ _ _ => rfl, rfl, rfl, rfl⟩
theorem Turn.trans {r : Nat} {a b c : World} (h : Turn r a b) (k : Turn r b c) : Turn r a c :=
 ⟨Nat.le_trans h.size k.size, fun i hi hr => (k.block i (Nat.lt_of_lt_of_le hi h.size) hr).trans (h.block i hi hr), k.os.trans h.os, k.tape.trans h.tape, k.output.trans h.output⟩
theorem Turn.of_mapped {r : Nat} {a b : World} (h : Mapped a b r) : Turn r a b := ⟨Nat.le_of_eq h.size.symm, fun i _ hr => h.other i hr, h.os, h.tape, h.output⟩
theorem Turn.of_ext {r : Nat} {a b : World} (h : Ext a b) : Turn r a b := ⟨h.le, fun i hi _ => h.block i hi, h.os, h.tape, h.output⟩
theorem Turn.blk {r b : Nat} {t : TypeId} {cs : Array Value} {w w1 : World} (h : Turn r w w1) (hb : Blk w b t cs) (hr : b ≠ r) : Blk w1 b t cs := (h.block b hb.lt hr).trans hb
theorem Turn.ext {r : Nat} {a w w1 : World} (h : Turn r w w1) (he : Ext a w) (hr : a.heap.size ≤ r) : Ext a w1 :=
 ⟨h.os.trans he.os, h.tape.trans he.tape, h.output.trans he.output, Nat.le_trans he.le h.size, fun i hi => (h.block i (Nat.lt_of_lt_of_le hi he.le) (by omega)).trans (he.block i hi)⟩
set_option maxRecDepth 100000 in
set_option maxHeartbeats 4000000 in
theorem functions_any (w : World) :
  Calls Tryz.prog 35 #[] w fun e w' => ∃ r nb kv, e = .returned (.map (some r)) ∧ LibAt w' r nb kv ∧ Ext w w' ∧ w.heap.size ≤ r := by
 have hmm := @run_makeMap Tryz.prog
 obtain ⟨M0, hM0⟩ : ∃ M0, ((w.alloc (.cells #[.string ⟨#[118]⟩] 9)).alloc (.cells #[.string ⟨#[110, 105, 108]⟩, .string ⟨#[98, 111, 111, 108, 101, 97, 110]⟩, .string ⟨#[110, 117, 109, 98, 101, 114]⟩, .string ⟨#[115, 116, 114, 105, 110, 103]⟩, .string ⟨#[116, 97, 98, 108, 101]⟩] 102)).alloc (.map #[] 0) = M0 := ⟨_, rfl⟩
 have z0 : M0.heap.size = w.heap.size + 3 := by rw [← hM0, size_alloc, size_alloc, size_alloc]
 have kbv : Blk M0 w.heap.size 9 ([⟨#[118]⟩].map Value.string).toArray := by rw [← hM0]; exact ((Blk.new w _ _).alloc _).alloc _
 have kn0 : Blk M0 (w.heap.size + 1) 102 #[.string ⟨#[110, 105, 108]⟩, .string ⟨#[98, 111, 111, 108, 101, 97, 110]⟩, .string ⟨#[110, 117, 109, 98, 101, 114]⟩, .string ⟨#[115, 116, 114, 105, 110, 103]⟩, .string ⟨#[116, 97, 98, 108, 101]⟩] := by rw [← hM0]; exact Blk.alloc (by have h1 := Blk.new (w.alloc (.cells #[.string ⟨#[118]⟩] 9)) 102 #[.string ⟨#[110, 105, 108]⟩, .string ⟨#[98, 111, 111, 108, 101, 97, 110]⟩, .string ⟨#[110, 117, 109, 98, 101, 114]⟩, .string ⟨#[115, 116, 114, 105, 110, 103]⟩, .string ⟨#[116, 97, 98, 108, 101]⟩]; rwa [size_alloc] at h1) _
 have m0 : IsMap Value.string M0 (w.heap.size + 1 + 1) [] := by rw [← hM0]; have h1 := IsMap.new (κ := ByteArray) Value.string ((w.alloc (.cells #[.string ⟨#[118]⟩] 9)).alloc (.cells #[.string ⟨#[110, 105, 108]⟩, .string ⟨#[98, 111, 111, 108, 101, 97, 110]⟩, .string ⟨#[110, 117, 109, 98, 101, 114]⟩, .string ⟨#[115, 116, 114, 105, 110, 103]⟩, .string ⟨#[116, 97, 98, 108, 101]⟩] 102)); rwa [size_alloc, size_alloc] at h1
 have E0 : Ext w M0 := by rw [← hM0]; exact (((Ext.refl w).alloc _).alloc _).alloc _
 obtain ⟨M1, up0, m1, y0⟩ := run_mput keyed_str Tryz.underlying70 Tryz.underlying9 m0 ⟨#[116, 121, 112, 101]⟩ (.agg #[.slice (some ⟨w.heap.size, 0, none⟩) 1 1, .func (.func 52) #[] #[.pointer (some ⟨w.heap.size + 1, 0, none⟩)]])
 rw [mput_gone _ _ _ (by kernel_rfl)] at m1
 simp only [List.nil_append, List.cons_append] at m1
 have t0 : Turn (w.heap.size + 1 + 1) M0 M1 := Turn.of_mapped y0
 obtain ⟨M2, up1, m2, y1⟩ := run_mput keyed_str Tryz.underlying70 Tryz.underlying9 m1 ⟨#[116, 111, 115, 116, 114, 105, 110, 103]⟩ (.agg #[.slice (some ⟨w.heap.size, 0, none⟩) 1 1, .func (.func 55) #[] #[]])
 rw [mput_gone _ _ _ (by kernel_rfl)] at m2
 simp only [List.nil_append, List.cons_append] at m2
 have t1 : Turn (w.heap.size + 1 + 1) M1 M2 := Turn.of_mapped y1
 obtain ⟨M3, up2, m3, y2⟩ := run_mput keyed_str Tryz.underlying70 Tryz.underlying9 m2 ⟨#[116, 111, 110, 117, 109, 98, 101, 114]⟩ (.agg #[.slice (some ⟨w.heap.size, 0, none⟩) 1 1, .func (.func 57) #[] #[]])
 rw [mput_gone _ _ _ (by kernel_rfl)] at m3
 simp only [List.nil_append, List.cons_append] at m3
 have t2 : Turn (w.heap.size + 1 + 1) M2 M3 := Turn.of_mapped y2
 obtain ⟨M4, up3, m4, y3⟩ := run_mput keyed_str Tryz.underlying70 Tryz.underlying9 m3 ⟨#[108, 101, 110]⟩ (.agg #[.slice (some ⟨w.heap.size, 0, none⟩) 1 1, .func (.func 58) #[] #[]])
 rw [mput_gone _ _ _ (by kernel_rfl)] at m4
 simp only [List.nil_append, List.cons_append] at m4
 have t3 : Turn (w.heap.size + 1 + 1) M3 M4 := Turn.of_mapped y3
 have kb9 : Blk (M4.alloc (.cells #[.string ⟨#[116, 110]⟩, .string ⟨#[116, 110, 110]⟩] 9)) M4.heap.size 9 ([⟨#[116, 110]⟩, ⟨#[116, 110, 110]⟩].map Value.string).toArray := Blk.new _ _ _
 have m4a : IsMap Value.string (M4.alloc (.cells #[.string ⟨#[116, 110]⟩, .string ⟨#[116, 110, 110]⟩] 9)) (w.heap.size + 1 + 1) [(⟨#[116, 121, 112, 101]⟩, .agg #[.slice (some ⟨w.heap.size, 0, none⟩) 1 1, .func (.func 52) #[] #[.pointer (some ⟨w.heap.size + 1, 0, none⟩)]]), (⟨#[116, 111, 115, 116, 114, 105, 110, 103]⟩, .agg #[.slice (some ⟨w.heap.size, 0, none⟩) 1 1, .func (.func 55) #[] #[]]), (⟨#[116, 111, 110, 117, 109, 98, 101, 114]⟩, .agg #[.slice (some ⟨w.heap.size, 0, none⟩) 1 1, .func (.func 57) #[] #[]]), (⟨#[108, 101, 110]⟩, .agg #[.slice (some ⟨w.heap.size, 0, none⟩) 1 1, .func (.func 58) #[] #[]])] := m4.of (Below.heap_alloc _ _ _ m4.lt)
 have t4a : Turn (w.heap.size + 1 + 1) M4 (M4.alloc (.cells #[.string ⟨#[116, 110]⟩, .string ⟨#[116, 110, 110]⟩] 9)) := Turn.of_ext ((Ext.refl _).alloc _)
 obtain ⟨M5, up4, m5, y4⟩ := run_mput keyed_str Tryz.underlying70 Tryz.underlying9 m4a ⟨#[115, 117, 98]⟩ (.agg #[.slice (some ⟨M4.heap.size, 0, none⟩) 2 2, .func (.func 60) #[] #[]])
 rw [mput_gone _ _ _ (by kernel_rfl)] at m5
 simp only [List.nil_append, List.cons_append] at m5
 have t4 : Turn (w.heap.size + 1 + 1) M4 M5 := t4a.trans (Turn.of_mapped y4)
 have kb8 : Blk (M5.alloc (.cells #[.string ⟨#[116, 110]⟩] 9)) M5.heap.size 9 ([⟨#[116, 110]⟩].map Value.string).toArray := Blk.new _ _ _
 have m5a : IsMap Value.string (M5.alloc (.cells #[.string ⟨#[116, 110]⟩] 9)) (w.heap.size + 1 + 1) [(⟨#[116, 121, 112, 101]⟩, .agg #[.slice (some ⟨w.heap.size, 0, none⟩) 1 1, .func (.func 52) #[] #[.pointer (some ⟨w.heap.size + 1, 0, none⟩)]]), (⟨#[116, 111, 115, 116, 114, 105, 110, 103]⟩, .agg #[.slice (some ⟨w.heap.size, 0, none⟩) 1 1, .func (.func 55) #[] #[]]), (⟨#[116, 111, 110, 117, 109, 98, 101, 114]⟩, .agg #[.slice (some ⟨w.heap.size, 0, none⟩) 1 1, .func (.func 57) #[] #[]]), (⟨#[108, 101, 110]⟩, .agg #[.slice (some ⟨w.heap.size, 0, none⟩) 1 1, .func (.func 58) #[] #[]]), (⟨#[115, 117, 98]⟩, .agg #[.slice (some ⟨M4.heap.size, 0, none⟩) 2 2, .func (.func 60) #[] #[]])] := m5.of (Below.heap_alloc _ _ _ m5.lt)
 have t5a : Turn (w.heap.size + 1 + 1) M5 (M5.alloc (.cells #[.string ⟨#[116, 110]⟩] 9)) := Turn.of_ext ((Ext.refl _).alloc _)
 obtain ⟨M6, up5, m6, y5⟩ := run_mput keyed_str Tryz.underlying70 Tryz.underlying9 m5a ⟨#[114, 101, 112]⟩ (.agg #[.slice (some ⟨M5.heap.size, 0, none⟩) 1 1, .func (.func 61) #[] #[]])
 rw [mput_gone _ _ _ (by kernel_rfl)] at m6
 simp only [List.nil_append, List.cons_append] at m6
 have t5 : Turn (w.heap.size + 1 + 1) M5 M6 := t5a.trans (Turn.of_mapped y5)
 have kb3 : Blk (M6.alloc (.cells #[.string ⟨#[116, 116]⟩] 9)) M6.heap.size 9 ([⟨#[116, 116]⟩].map Value.string).toArray := Blk.new _ _ _
 have m6a : IsMap Value.string (M6.alloc (.cells #[.string ⟨#[116, 116]⟩] 9)) (w.heap.size + 1 + 1) [(⟨#[116, 121, 112, 101]⟩, .agg #[.slice (some ⟨w.heap.size, 0, none⟩) 1 1, .func (.func 52) #[] #[.pointer (some ⟨w.heap.size + 1, 0, none⟩)]]), (⟨#[116, 111, 115, 116, 114, 105, 110, 103]⟩, .agg #[.slice (some ⟨w.heap.size, 0, none⟩) 1 1, .func (.func 55) #[] #[]]), (⟨#[116, 111, 110, 117, 109, 98, 101, 114]⟩, .agg #[.slice (some ⟨w.heap.size, 0, none⟩) 1 1, .func (.func 57) #[] #[]]), (⟨#[108, 101, 110]⟩, .agg #[.slice (some ⟨w.heap.size, 0, none⟩) 1 1, .func (.func 58) #[] #[]]), (⟨#[115, 117, 98]⟩, .agg #[.slice (some ⟨M4.heap.size, 0, none⟩) 2 2, .func (.func 60) #[] #[]]), (⟨#[114, 101, 112]⟩, .agg #[.slice (some ⟨M5.heap.size, 0, none⟩) 1 1, .func (.func 61) #[] #[]])] := m6.of (Below.heap_alloc _ _ _ m6.lt)
 have t6a : Turn (w.heap.size + 1 + 1) M6 (M6.alloc (.cells #[.string ⟨#[116, 116]⟩] 9)) := Turn.of_ext ((Ext.refl _).alloc _)
 obtain ⟨M7, up6, m7, y6⟩ := run_mput keyed_str Tryz.underlying70 Tryz.underlying9 m6a ⟨#[102, 105, 110, 100]⟩ (.agg #[.slice (some ⟨M6.heap.size, 0, none⟩) 1 1, .func (.func 64) #[] #[]])
 rw [mput_gone _ _ _ (by kernel_rfl)] at m7
 simp only [List.nil_append, List.cons_append] at m7
 have t6 : Turn (w.heap.size + 1 + 1) M6 M7 := t6a.trans (Turn.of_mapped y6)
 have kb0 : Blk (M7.alloc (.cells #[.string ⟨#[116, 110]⟩] 9)) M7.heap.size 9 ([⟨#[116, 110]⟩].map Value.string).toArray := Blk.new _ _ _
 have m7a : IsMap Value.string (M7.alloc (.cells #[.string ⟨#[116, 110]⟩] 9)) (w.heap.size + 1 + 1) [(⟨#[116, 121, 112, 101]⟩, .agg #[.slice (some ⟨w.heap.size, 0, none⟩) 1 1, .func (.func 52) #[] #[.pointer (some ⟨w.heap.size + 1, 0, none⟩)]]), (⟨#[116, 111, 115, 116, 114, 105, 110, 103]⟩, .agg #[.slice (some ⟨w.heap.size, 0, none⟩) 1 1, .func (.func 55) #[] #[]]), (⟨#[116, 111, 110, 117, 109, 98, 101, 114]⟩, .agg #[.slice (some ⟨w.heap.size, 0, none⟩) 1 1, .func (.func 57) #[] #[]]), (⟨#[108, 101, 110]⟩, .agg #[.slice (some ⟨w.heap.size, 0, none⟩) 1 1, .func (.func 58) #[] #[]]), (⟨#[115, 117, 98]⟩, .agg #[.slice (some ⟨M4.heap.size, 0, none⟩) 2 2, .func (.func 60) #[] #[]]), (⟨#[114, 101, 112]⟩, .agg #[.slice (some ⟨M5.heap.size, 0, none⟩) 1 1, .func (.func 61) #[] #[]]), (⟨#[102, 105, 110, 100]⟩, .agg #[.slice (some ⟨M6.heap.size, 0, none⟩) 1 1, .func (.func 64) #[] #[]])] := m7.of (Below.heap_alloc _ _ _ m7.lt)
 have t7a : Turn (w.heap.size + 1 + 1) M7 (M7.alloc (.cells #[.string ⟨#[116, 110]⟩] 9)) := Turn.of_ext ((Ext.refl _).alloc _)
 obtain ⟨M8, up7, m8, y7⟩ := run_mput keyed_str Tryz.underlying70 Tryz.underlying9 m7a ⟨#[98, 121, 116, 101]⟩ (.agg #[.slice (some ⟨M7.heap.size, 0, none⟩) 1 1, .func (.func 66) #[] #[]])
 rw [mput_gone _ _ _ (by kernel_rfl)] at m8
 simp only [List.nil_append, List.cons_append] at m8
 have t7 : Turn (w.heap.size + 1 + 1) M7 M8 := t7a.trans (Turn.of_mapped y7)
 obtain ⟨M9, up8, m9, y8⟩ := run_mput keyed_str Tryz.underlying70 Tryz.underlying9 m8 ⟨#[99, 104, 97, 114]⟩ (.agg #[.slice none 0 0, .func (.func 68) #[] #[]])
 rw [mput_gone _ _ _ (by kernel_rfl)] at m9
 simp only [List.nil_append, List.cons_append] at m9
 have t8 : Turn (w.heap.size + 1 + 1) M8 M9 := Turn.of_mapped y8
 have kb2 : Blk (M9.alloc (.cells #[.string ⟨#[98, 116]⟩] 9)) M9.heap.size 9 ([⟨#[98, 116]⟩].map Value.string).toArray := Blk.new _ _ _
 have m9a : IsMap Value.string (M9.alloc (.cells #[.string ⟨#[98, 116]⟩] 9)) (w.heap.size + 1 + 1) [(⟨#[116, 121, 112, 101]⟩, .agg #[.slice (some ⟨w.heap.size, 0, none⟩) 1 1, .func (.func 52) #[] #[.pointer (some ⟨w.heap.size + 1, 0, none⟩)]]), (⟨#[116, 111, 115, 116, 114, 105, 110, 103]⟩, .agg #[.slice (some ⟨w.heap.size, 0, none⟩) 1 1, .func (.func 55) #[] #[]]), (⟨#[116, 111, 110, 117, 109, 98, 101, 114]⟩, .agg #[.slice (some ⟨w.heap.size, 0, none⟩) 1 1, .func (.func 57) #[] #[]]), (⟨#[108, 101, 110]⟩, .agg #[.slice (some ⟨w.heap.size, 0, none⟩) 1 1, .func (.func 58) #[] #[]]), (⟨#[115, 117, 98]⟩, .agg #[.slice (some ⟨M4.heap.size, 0, none⟩) 2 2, .func (.func 60) #[] #[]]), (⟨#[114, 101, 112]⟩, .agg #[.slice (some ⟨M5.heap.size, 0, none⟩) 1 1, .func (.func 61) #[] #[]]), (⟨#[102, 105, 110, 100]⟩, .agg #[.slice (some ⟨M6.heap.size, 0, none⟩) 1 1, .func (.func 64) #[] #[]]), (⟨#[98, 121, 116, 101]⟩, .agg #[.slice (some ⟨M7.heap.size, 0, none⟩) 1 1, .func (.func 66) #[] #[]]), (⟨#[99, 104, 97, 114]⟩, .agg #[.slice none 0 0, .func (.func 68) #[] #[]])] := m9.of (Below.heap_alloc _ _ _ m9.lt)
 have t9a : Turn (w.heap.size + 1 + 1) M9 (M9.alloc (.cells #[.string ⟨#[98, 116]⟩] 9)) := Turn.of_ext ((Ext.refl _).alloc _)
 obtain ⟨M10, up9, m10, y9⟩ := run_mput keyed_str Tryz.underlying70 Tryz.underlying9 m9a ⟨#[99, 111, 110, 99, 97, 116]⟩ (.agg #[.slice (some ⟨M9.heap.size, 0, none⟩) 1 1, .func (.func 69) #[] #[]])
 rw [mput_gone _ _ _ (by kernel_rfl)] at m10
 simp only [List.nil_append, List.cons_append] at m10
 have t9 : Turn (w.heap.size + 1 + 1) M9 M10 := t9a.trans (Turn.of_mapped y9)
 have kb4 : Blk (M10.alloc (.cells #[.string ⟨#[98, 118]⟩, .string ⟨#[98, 110, 118]⟩] 9)) M10.heap.size 9 ([⟨#[98, 118]⟩, ⟨#[98, 110, 118]⟩].map Value.string).toArray := Blk.new _ _ _
 have m10a : IsMap Value.string (M10.alloc (.cells #[.string ⟨#[98, 118]⟩, .string ⟨#[98, 110, 118]⟩] 9)) (w.heap.size + 1 + 1) [(⟨#[116, 121, 112, 101]⟩, .agg #[.slice (some ⟨w.heap.size, 0, none⟩) 1 1, .func (.func 52) #[] #[.pointer (some ⟨w.heap.size + 1, 0, none⟩)]]), (⟨#[116, 111, 115, 116, 114, 105, 110, 103]⟩, .agg #[.slice (some ⟨w.heap.size, 0, none⟩) 1 1, .func (.func 55) #[] #[]]), (⟨#[116, 111, 110, 117, 109, 98, 101, 114]⟩, .agg #[.slice (some ⟨w.heap.size, 0, none⟩) 1 1, .func (.func 57) #[] #[]]), (⟨#[108, 101, 110]⟩, .agg #[.slice (some ⟨w.heap.size, 0, none⟩) 1 1, .func (.func 58) #[] #[]]), (⟨#[115, 117, 98]⟩, .agg #[.slice (some ⟨M4.heap.size, 0, none⟩) 2 2, .func (.func 60) #[] #[]]), (⟨#[114, 101, 112]⟩, .agg #[.slice (some ⟨M5.heap.size, 0, none⟩) 1 1, .func (.func 61) #[] #[]]), (⟨#[102, 105, 110, 100]⟩, .agg #[.slice (some ⟨M6.heap.size, 0, none⟩) 1 1, .func (.func 64) #[] #[]]), (⟨#[98, 121, 116, 101]⟩, .agg #[.slice (some ⟨M7.heap.size, 0, none⟩) 1 1, .func (.func 66) #[] #[]]), (⟨#[99, 104, 97, 114]⟩, .agg #[.slice none 0 0, .func (.func 68) #[] #[]]), (⟨#[99, 111, 110, 99, 97, 116]⟩, .agg #[.slice (some ⟨M9.heap.size, 0, none⟩) 1 1, .func (.func 69) #[] #[]])] := m10.of (Below.heap_alloc _ _ _ m10.lt)
 have t10a : Turn (w.heap.size + 1 + 1) M10 (M10.alloc (.cells #[.string ⟨#[98, 118]⟩, .string ⟨#[98, 110, 118]⟩] 9)) := Turn.of_ext ((Ext.refl _).alloc _)
 obtain ⟨M11, up10, m11, y10⟩ := run_mput keyed_str Tryz.underlying70 Tryz.underlying9 m10a ⟨#[105, 110, 115, 101, 114, 116]⟩ (.agg #[.slice (some ⟨M10.heap.size, 0, none⟩) 2 2, .func (.func 70) #[] #[]])
 rw [mput_gone _ _ _ (by kernel_rfl)] at m11
 simp only [List.nil_append, List.cons_append] at m11
 have t10 : Turn (w.heap.size + 1 + 1) M10 M11 := t10a.trans (Turn.of_mapped y10)
 have kb7 : Blk (M11.alloc (.cells #[.string ⟨#[98]⟩, .string ⟨#[98, 110]⟩] 9)) M11.heap.size 9 ([⟨#[98]⟩, ⟨#[98, 110]⟩].map Value.string).toArray := Blk.new _ _ _
 have m11a : IsMap Value.string (M11.alloc (.cells #[.string ⟨#[98]⟩, .string ⟨#[98, 110]⟩] 9)) (w.heap.size + 1 + 1) [(⟨#[116, 121, 112, 101]⟩, .agg #[.slice (some ⟨w.heap.size, 0, none⟩) 1 1, .func (.func 52) #[] #[.pointer (some ⟨w.heap.size + 1, 0, none⟩)]]), (⟨#[116, 111, 115, 116, 114, 105, 110, 103]⟩, .agg #[.slice (some ⟨w.heap.size, 0, none⟩) 1 1, .func (.func 55) #[] #[]]), (⟨#[116, 111, 110, 117, 109, 98, 101, 114]⟩, .agg #[.slice (some ⟨w.heap.size, 0, none⟩) 1 1, .func (.func 57) #[] #[]]), (⟨#[108, 101, 110]⟩, .agg #[.slice (some ⟨w.heap.size, 0, none⟩) 1 1, .func (.func 58) #[] #[]]), (⟨#[115, 117, 98]⟩, .agg #[.slice (some ⟨M4.heap.size, 0, none⟩) 2 2, .func (.func 60) #[] #[]]), (⟨#[114, 101, 112]⟩, .agg #[.slice (some ⟨M5.heap.size, 0, none⟩) 1 1, .func (.func 61) #[] #[]]), (⟨#[102, 105, 110, 100]⟩, .agg #[.slice (some ⟨M6.heap.size, 0, none⟩) 1 1, .func (.func 64) #[] #[]]), (⟨#[98, 121, 116, 101]⟩, .agg #[.slice (some ⟨M7.heap.size, 0, none⟩) 1 1, .func (.func 66) #[] #[]]), (⟨#[99, 104, 97, 114]⟩, .agg #[.slice none 0 0, .func (.func 68) #[] #[]]), (⟨#[99, 111, 110, 99, 97, 116]⟩, .agg #[.slice (some ⟨M9.heap.size, 0, none⟩) 1 1, .func (.func 69) #[] #[]]), (⟨#[105, 110, 115, 101, 114, 116]⟩, .agg #[.slice (some ⟨M10.heap.size, 0, none⟩) 2 2, .func (.func 70) #[] #[]])] := m11.of (Below.heap_alloc _ _ _ m11.lt)
 have t11a : Turn (w.heap.size + 1 + 1) M11 (M11.alloc (.cells #[.string ⟨#[98]⟩, .string ⟨#[98, 110]⟩] 9)) := Turn.of_ext ((Ext.refl _).alloc _)
 obtain ⟨M12, up11, m12, y11⟩ := run_mput keyed_str Tryz.underlying70 Tryz.underlying9 m11a ⟨#[114, 101, 109, 111, 118, 101]⟩ (.agg #[.slice (some ⟨M11.heap.size, 0, none⟩) 2 2, .func (.func 71) #[] #[]])
 rw [mput_gone _ _ _ (by kernel_rfl)] at m12
 simp only [List.nil_append, List.cons_append] at m12
 have t11 : Turn (w.heap.size + 1 + 1) M11 M12 := t11a.trans (Turn.of_mapped y11)
 have kb5 : Blk (M12.alloc (.cells #[.string ⟨#[98]⟩] 9)) M12.heap.size 9 ([⟨#[98]⟩].map Value.string).toArray := Blk.new _ _ _
 have m12a : IsMap Value.string (M12.alloc (.cells #[.string ⟨#[98]⟩] 9)) (w.heap.size + 1 + 1) [(⟨#[116, 121, 112, 101]⟩, .agg #[.slice (some ⟨w.heap.size, 0, none⟩) 1 1, .func (.func 52) #[] #[.pointer (some ⟨w.heap.size + 1, 0, none⟩)]]), (⟨#[116, 111, 115, 116, 114, 105, 110, 103]⟩, .agg #[.slice (some ⟨w.heap.size, 0, none⟩) 1 1, .func (.func 55) #[] #[]]), (⟨#[116, 111, 110, 117, 109, 98, 101, 114]⟩, .agg #[.slice (some ⟨w.heap.size, 0, none⟩) 1 1, .func (.func 57) #[] #[]]), (⟨#[108, 101, 110]⟩, .agg #[.slice (some ⟨w.heap.size, 0, none⟩) 1 1, .func (.func 58) #[] #[]]), (⟨#[115, 117, 98]⟩, .agg #[.slice (some ⟨M4.heap.size, 0, none⟩) 2 2, .func (.func 60) #[] #[]]), (⟨#[114, 101, 112]⟩, .agg #[.slice (some ⟨M5.heap.size, 0, none⟩) 1 1, .func (.func 61) #[] #[]]), (⟨#[102, 105, 110, 100]⟩, .agg #[.slice (some ⟨M6.heap.size, 0, none⟩) 1 1, .func (.func 64) #[] #[]]), (⟨#[98, 121, 116, 101]⟩, .agg #[.slice (some ⟨M7.heap.size, 0, none⟩) 1 1, .func (.func 66) #[] #[]]), (⟨#[99, 104, 97, 114]⟩, .agg #[.slice none 0 0, .func (.func 68) #[] #[]]), (⟨#[99, 111, 110, 99, 97, 116]⟩, .agg #[.slice (some ⟨M9.heap.size, 0, none⟩) 1 1, .func (.func 69) #[] #[]]), (⟨#[105, 110, 115, 101, 114, 116]⟩, .agg #[.slice (some ⟨M10.heap.size, 0, none⟩) 2 2, .func (.func 70) #[] #[]]), (⟨#[114, 101, 109, 111, 118, 101]⟩, .agg #[.slice (some ⟨M11.heap.size, 0, none⟩) 2 2, .func (.func 71) #[] #[]])] := m12.of (Below.heap_alloc _ _ _ m12.lt)
 have t12a : Turn (w.heap.size + 1 + 1) M12 (M12.alloc (.cells #[.string ⟨#[98]⟩] 9)) := Turn.of_ext ((Ext.refl _).alloc _)
 obtain ⟨M13, up12, m13, y12⟩ := run_mput keyed_str Tryz.underlying70 Tryz.underlying9 m12a ⟨#[107, 101, 121, 115]⟩ (.agg #[.slice (some ⟨M12.heap.size, 0, none⟩) 1 1, .func (.func 72) #[] #[]])
 rw [mput_gone _ _ _ (by kernel_rfl)] at m13
 simp only [List.nil_append, List.cons_append] at m13
 have t12 : Turn (w.heap.size + 1 + 1) M12 M13 := t12a.trans (Turn.of_mapped y12)
 have s13 := Turn.refl (w.heap.size + 1 + 1) M13
 have s12 := t12.trans s13
 have s11 := t11.trans s12
 have s10 := t10.trans s11
 have s9 := t9.trans s10
 have s8 := t8.trans s9
 have s7 := t7.trans s8
 have s6 := t6.trans s7
 have s5 := t5.trans s6
 have s4 := t4.trans s5
 have s3 := t3.trans s4
 have s2 := t2.trans s3
 have s1 := t1.trans s2
 have s0 := t0.trans s1
 have z1 : M0.heap.size ≤ M1.heap.size := t0.size
 have z2 : M0.heap.size ≤ M2.heap.size := Nat.le_trans z1 t1.size
 have z3 : M0.heap.size ≤ M3.heap.size := Nat.le_trans z2 t2.size
 have z4 : M0.heap.size ≤ M4.heap.size := Nat.le_trans z3 t3.size
 have z5 : M0.heap.size ≤ M5.heap.size := Nat.le_trans z4 t4.size
 have z6 : M0.heap.size ≤ M6.heap.size := Nat.le_trans z5 t5.size
 have z7 : M0.heap.size ≤ M7.heap.size := Nat.le_trans z6 t6.size
 have z8 : M0.heap.size ≤ M8.heap.size := Nat.le_trans z7 t7.size
 have z9 : M0.heap.size ≤ M9.heap.size := Nat.le_trans z8 t8.size
 have z10 : M0.heap.size ≤ M10.heap.size := Nat.le_trans z9 t9.size
 have z11 : M0.heap.size ≤ M11.heap.size := Nat.le_trans z10 t10.size
 have z12 : M0.heap.size ≤ M12.heap.size := Nat.le_trans z11 t11.size
 have HL : Hid (LibAt M13 (w.heap.size + 1 + 1) (w.heap.size + 1) (fun f => match f with | 0 => .slice (some ⟨M7.heap.size, 0, none⟩) 1 1 | 1 => .slice none 0 0 | 2 => .slice (some ⟨M9.heap.size, 0, none⟩) 1 1 | 3 => .slice (some ⟨M6.heap.size, 0, none⟩) 1 1 | 4 => .slice (some ⟨M10.heap.size, 0, none⟩) 2 2 | 5 => .slice (some ⟨M12.heap.size, 0, none⟩) 1 1 | 6 => .slice (some ⟨w.heap.size, 0, none⟩) 1 1 | 7 => .slice (some ⟨M11.heap.size, 0, none⟩) 2 2 | 8 => .slice (some ⟨M5.heap.size, 0, none⟩) 1 1 | 9 => .slice (some ⟨M4.heap.size, 0, none⟩) 2 2 | 10 => .slice (some ⟨w.heap.size, 0, none⟩) 1 1 | 11 => .slice (some ⟨w.heap.size, 0, none⟩) 1 1 | _ => .slice (some ⟨w.heap.size, 0, none⟩) 1 1)) := Lib.hid ⟨by have := s0.size; omega, fun i hi => by
   have hb := s0.blk kn0 (by omega)
   rw [hb.cell i]
   have : i = 0 ∨ i = 1 ∨ i = 2 ∨ i = 3 ∨ i = 4 := by omega
   rcases this with rfl | rfl | rfl | rfl | rfl <;> rfl, m13, fun f hf => by
   have hv := KindAt.of_blk (s0.blk kbv (by omega))
   have : f = 0 ∨ f = 1 ∨ f = 2 ∨ f = 3 ∨ f = 4 ∨ f = 5 ∨ f = 6 ∨ f = 7 ∨ f = 8 ∨ f = 9 ∨ f = 10 ∨ f = 11 ∨ f = 12 := by omega
   rcases this with rfl | rfl | rfl | rfl | rfl | rfl | rfl | rfl | rfl | rfl | rfl | rfl | rfl
   ·exact KindAt.of_blk (((Turn.of_mapped y7).trans s8).blk kb0 (by omega))
   ·exact .inl ⟨rfl, rfl⟩
   ·exact KindAt.of_blk (((Turn.of_mapped y9).trans s10).blk kb2 (by omega))
   ·exact KindAt.of_blk (((Turn.of_mapped y6).trans s7).blk kb3 (by omega))
   ·exact KindAt.of_blk (((Turn.of_mapped y10).trans s11).blk kb4 (by omega))
   ·exact KindAt.of_blk (((Turn.of_mapped y12).trans s13).blk kb5 (by omega))
   ·exact hv
   ·exact KindAt.of_blk (((Turn.of_mapped y11).trans s12).blk kb7 (by omega))
   ·exact KindAt.of_blk (((Turn.of_mapped y5).trans s6).blk kb8 (by omega))
   ·exact KindAt.of_blk (((Turn.of_mapped y4).trans s5).blk kb9 (by omega))
   ·exact hv
   ·exact hv
   ·exact hv
   , rfl⟩
 have HE : Hid (Ext w M13) := Lib.hid (s0.ext E0 (by omega))
 subst hM0
 clear y0 t0 s0 m0 z0
 clear y1 t1 s1 m1 z1
 clear y2 t2 s2 m2 z2
 clear y3 t3 s3 m3 z3
 clear y4 t4 s4 m4 z4
 clear y5 t5 s5 m5 z5
 clear y6 t6 s6 m6 z6
 clear y7 t7 s7 m7 z7
 clear y8 t8 s8 m8 z8
 clear y9 t9 s9 m9 z9
 clear y10 t10 s10 m10 z10
 clear y11 t11 s11 m11 z11
 clear y12 t12 s12 m12 z12
 clear s13 m13 m4a t4a kb9 m5a t5a kb8 m6a t6a kb3 m7a t7a kb0 m9a t9a kb2 m10a t10a kb4 m11a t11a kb7 m12a t12a kb5 kbv kn0 E0
 go_enter Tryz.func35, Tryz.ntmps35
 go_wp2_with fail
 go_ret
 exact ⟨_, _, _, rfl, HL.out, HE.out, by omega⟩
end Go.Proofs.YtfagldjhibdfhaaGreatDoor
namespace Go.Proofs.YtfagldjhibdfhaaGreatDoor
open Go.RowKit
set_option linter.unusedVariables false
set_option linter.unusedSimpArgs false

theorem mget_nodup {κ β : Type} [DecidableEq κ] : ∀ (m : List (κ × β)) (k : κ) (v : β), (m.map (·.1)).Nodup → (k, v) ∈ m → mget m k = some v
 | x :: m, k, v, hn, hm => by
  rw [List.map_cons, List.nodup_cons] at hn
  rcases List.mem_cons.1 hm with h | h
  ·subst h; simp [mget]
  ·have : ¬ x.1 = k := fun e => hn.1 (e ▸ List.mem_map.2 ⟨_, h, rfl⟩)
   rw [mget, if_neg this]
   exact mget_nodup m k v hn.2 h
theorem libM_keys (nb : Nat) (kv : Nat → Value) : (libM nb kv).map (·.1) = libOrder.map fun f => libNames.getD f sNone := by
 simp [libM, List.map_map, Function.comp_def]
theorem lib_get (nb : Nat) (kv : Nat → Value) (s : ByteArray) : mget (libM nb kv) s = (libIdx s).map fun f => .agg #[kv f, fnV nb f] := by
 cases h : libIdx s with
 | none =>
  rw [Option.map_none]
  refine (mget_mem _ _).2 ?_
  rw [libM_keys]
  have h1 : ∀ x ∈ libNames, ¬ x = s := by
   intro x hx
   have := List.findIdx?_eq_none_iff.1 h x hx
   simpa using this
  intro hm
  obtain ⟨f, hf, he⟩ := List.mem_map.1 hm
  have hf2 : ∀ f ∈ libOrder, f < 13 := by decide
  have hlt := hf2 f hf
  refine h1 _ ?_ he
  rw [List.getD_eq_getElem?_getD, List.getElem?_eq_getElem (show f < libNames.length from hlt)]
  exact List.getElem_mem _
 | some f =>
  rw [Option.map_some]
  obtain ⟨hlt, he, _⟩ := List.findIdx?_eq_some_iff_getElem.1 h
  have he : libNames[f] = s := by simpa using he
  refine mget_nodup _ _ _ (by rw [libM_keys]; decide) (List.mem_map.2 ⟨f, ?_, ?_⟩)
  ·have : ∀ f : Fin 13, f.1 ∈ libOrder := by decide
   exact this ⟨f, hlt⟩
  ·rw [← he, List.getD_eq_getElem?_getD, List.getElem?_eq_getElem hlt]; rfl
theorem libIdx_lt {s : ByteArray} {f : Nat} (h : libIdx s = some f) : f < 13 := (List.findIdx?_eq_some_iff_getElem.1 h).1
theorem KindAt.slice {w : World} {v : Value} {l : List ByteArray} (h : KindAt w v l) : ∃ q, v = .slice q l.length l.length := by
 rcases h with ⟨rfl, rfl⟩ | ⟨b, rfl, _⟩
 ·exact ⟨none, rfl⟩
 ·exact ⟨_, rfl⟩
theorem fnV_func (nb f : Nat) : ∃ fn cp, fnV nb f = .func fn #[] cp := by
 unfold fnV
 split <;> exact ⟨_, _, rfl⟩
theorem zeroFn (w : World) : (zeroValue 68).run Tryz.prog w = .ok (.agg #[.slice none 0 0, .nilFunc]) w := by kernel_rfl
set_option maxRecDepth 100000 in
set_option maxHeartbeats 1000000 in
theorem has_any (s : ByteArray) (w : World) :
  Calls Tryz.prog 33 #[.string s] w fun e w' => e = .returned (.bool (callB s)) ∧ Ext w w' := by
 go_enter Tryz.func33, Tryz.ntmps33
 go_wp2_with fail
 refine (functions_any _).mono ?_
 rintro e w1 ⟨r, nb, kv, rfl, hl, he, hr⟩
 have hg := lib_get nb kv s
 obtain ⟨cb, hcb⟩ : ∃ cb, callB s = cb := ⟨_, rfl⟩
 have hcb2 : (libIdx s).isSome = cb := hcb
 cases hi : libIdx s with
 | none =>
  rw [hi] at hg hcb2
  have lk := run_mget_none keyed_str Tryz.underlying70 Tryz.underlying9 hl.map s _ (zeroFn w1) hg true
  simp only [if_true] at lk
  clear hg hl
  go_wp2
  go_ret
  exact ⟨by rw [hcb, ← hcb2]; rfl, he.alloc _⟩
 | some f =>
  rw [hi] at hg hcb2
  rw [Option.map_some] at hg
  obtain ⟨q, hq⟩ := (hl.kind f (libIdx_lt hi)).slice
  obtain ⟨fn, cp, hf⟩ := fnV_func nb f
  rw [hq, hf] at hg
  have lk := run_mget keyed_str Tryz.underlying70 Tryz.underlying9 hl.map s _ hg true
  simp only [if_true] at lk
  clear hg hl hq hf
  go_wp2
  go_ret
  exact ⟨by rw [hcb, ← hcb2]; rfl, he.alloc _⟩
end Go.Proofs.YtfagldjhibdfhaaGreatDoor
