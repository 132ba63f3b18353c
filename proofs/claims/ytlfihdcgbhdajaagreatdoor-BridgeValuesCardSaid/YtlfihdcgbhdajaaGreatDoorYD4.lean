/- DERIVED: THE SHELF's CONTRACTS AT THIS DUMP, IN PLAIN WORDS (tools/lay-plain.mjs out of 'TryzItr.lean', which tools/lay-shelf.mjs wrote): THE SAME DECLARATIONS UNDER THE SAME NAMES: 'import', 'namespace', 'open', 'def', 'theorem' AND NOTHING ELSE: no command of the shelf's: FOR A HAND-IN. Each laying: the table of numbers ('.._ren') and one theorem, a field a fact of the dump's own or the kernel's comparison; each contract: ONE APPLICATION. Keys of maps, sorted. A table's keys, by the program's heap. The order of keys, by the document; a part of a row behind another row. A table's keys, by the document's heap. -/
import Derived.Shelf.SlIter.Nil
import Derived.Shelf.SlIterI.Nil
import Derived.Shelf.SortM.Plain
import Derived.Shelf.SortM.SortNone
import Derived.Ground.GgzProg
import Derived.Ground.SlgmProg
import Derived.Test.YtlfihdcgbhdajaaGreatDoorProg
import Derived.Test.YtlfihdcgbhdajaaGreatDoorYB3
import Derived.Test.YtlfihdcgbhdajaaGreatDoorYB1
import Derived.Maps.OwnSet
import Derived.Test.YtlfihdcgbhdajaaGreatDoorYD1
import Derived.Test.YtlfihdcgbhdajaaGreatDoorYD3
import Derived.LoopTactic
import Derived.Deep.RegionLaw
import Derived.Deep.CutRange
import Derived.Deep.DeepCutAuto
import Derived.Deep.CutBlock
namespace Go.Proofs
open Go.Shelf
def Tryz.keys43_ren : Go.Shelf.Ren := ⟨fun | 7 => 43 | 10 => 66 | n => n, fun | 23 => 73 | 26 => 9 | 3 => 34 | 28 => 86 | 0 => 0 | 27 => 85 | 33 => 115 | 4 => 4 | n => n, fun | n => n⟩
theorem Tryz.keys43 : Go.Proofs.SlLaysZ.n7 Tryz.prog Tryz.keys43_ren := {
 mixed := by kernel_rfl
 f7 := ⟨Tryz.f43.name, by decide, Tryz.func43.trans (congrArg some (by kernel_rfl))⟩
 f10 := ⟨Tryz.f66.name, by decide, Tryz.func66.trans (congrArg some (by kernel_rfl))⟩
 t0 := Tryz.underlying0
 a0 := Tryz.isAgg0
 z0 := Tryz.sizeOf0
 v0 := Tryz.zeroValue0
 t4 := Tryz.underlying4
 a4 := Tryz.isAgg4
 z4 := Tryz.sizeOf4
 v4 := Tryz.zeroValue4
 t23 := Tryz.underlying73
 a23 := Tryz.isAgg73
 z23 := Tryz.sizeOf73
 v23 := Tryz.zeroValue73
 t26 := Tryz.underlying9
 a26 := Tryz.isAgg9
 z26 := Tryz.sizeOf9
 v26 := Tryz.zeroValue9
 t27 := Tryz.underlying85
 a27 := Tryz.isAgg85
 z27 := Tryz.sizeOf85
 v27 := Tryz.zeroValue85
 t28 := Tryz.underlying86
 a28 := Tryz.isAgg86
 z28 := Tryz.sizeOf86
 v28 := Tryz.zeroValue86
 t33 := Tryz.underlying115
 a33 := Tryz.isAgg115
 z33 := Tryz.sizeOf115
 v33 := Tryz.zeroValue115 }
def Tryz.sorted42_ren : Go.Shelf.Ren := ⟨fun | 6 => 42 | 8 => 64 | 9 => 65 | 11 => 89 | 13 => 88 | 12 => 90 | 23 => 105 | 24 => 106 | 14 => 107 | 15 => 108 | 16 => 109 | 17 => 110 | 18 => 111 | 19 => 112 | 20 => 113 | 21 => 114 | 22 => 115 | 25 => 128 | 26 => 123 | 27 => 124 | 28 => 129 | 29 => 130 | 30 => 131 | 31 => 141 | n => n, fun | 26 => 9 | 28 => 86 | 24 => 83 | 0 => 0 | 3 => 3 | 37 => 137 | 48 => 158 | 50 => 160 | 4 => 4 | 40 => 150 | 39 => 149 | 45 => 155 | 5 => 5 | 9 => 9 | 51 => 172 | 55 => 176 | 57 => 185 | 58 => 108 | 33 => 115 | n => n, fun | n => n⟩
theorem Tryz.sorted42 : Go.Proofs.SlLaysZ.n6 Tryz.prog Tryz.sorted42_ren := {
 mixed := by kernel_rfl
 f6 := ⟨Tryz.f42.name, by decide, Tryz.func42.trans (congrArg some (by kernel_rfl))⟩
 f8 := ⟨Tryz.f64.name, by decide, Tryz.func64.trans (congrArg some (by kernel_rfl))⟩
 f11 := ⟨Tryz.f89.name, by decide, Tryz.func89.trans (congrArg some (by kernel_rfl))⟩
 t0 := Tryz.underlying0
 a0 := Tryz.isAgg0
 z0 := Tryz.sizeOf0
 v0 := Tryz.zeroValue0
 t24 := Tryz.underlying83
 a24 := Tryz.isAgg83
 z24 := Tryz.sizeOf83
 v24 := Tryz.zeroValue83
 t26 := Tryz.underlying9
 a26 := Tryz.isAgg9
 z26 := Tryz.sizeOf9
 v26 := Tryz.zeroValue9
 t28 := Tryz.underlying86
 a28 := Tryz.isAgg86
 z28 := Tryz.sizeOf86
 v28 := Tryz.zeroValue86
 i26 := by kernel_rfl }
def Tryz.sort65_ren : Go.Shelf.Ren := ⟨fun | 6 => 65 | 8 => 88 | 9 => 90 | 19 => 105 | 20 => 106 | 21 => 107 | 22 => 108 | 23 => 109 | 24 => 110 | 25 => 111 | 26 => 112 | 27 => 113 | 28 => 114 | 29 => 115 | 36 => 128 | 31 => 123 | 32 => 124 | 37 => 129 | 38 => 130 | 39 => 131 | 41 => 141 | n => n, fun | 27 => 83 | 29 => 9 | 3 => 3 | 32 => 137 | 26 => 83 | 0 => 0 | 44 => 158 | 46 => 160 | 4 => 4 | 36 => 150 | 35 => 149 | 41 => 155 | 5 => 5 | 9 => 9 | 53 => 172 | 57 => 176 | 63 => 185 | 64 => 108 | n => n, fun | n => n⟩
theorem Tryz.sort65 : Go.Proofs.SlLaysM.n6 Tryz.prog Tryz.sort65_ren := {
 mixed := by kernel_rfl
 f6 := ⟨Tryz.f65.name, by decide, Tryz.func65.trans (congrArg some (by kernel_rfl))⟩
 f8 := Tryz.func88.trans (congrArg some (by kernel_rfl))
 f9 := ⟨Tryz.f90.name, by decide, Tryz.func90.trans (congrArg some (by kernel_rfl))⟩
 f19 := Tryz.func105.trans (congrArg some (by kernel_rfl))
 f20 := Tryz.func106.trans (congrArg some (by kernel_rfl))
 f21 := ⟨Tryz.f107.name, by decide, Tryz.func107.trans (congrArg some (by kernel_rfl))⟩
 f22 := ⟨Tryz.f108.name, by decide, Tryz.func108.trans (congrArg some (by kernel_rfl))⟩
 f23 := ⟨Tryz.f109.name, by decide, Tryz.func109.trans (congrArg some (by kernel_rfl))⟩
 f24 := ⟨Tryz.f110.name, by decide, Tryz.func110.trans (congrArg some (by kernel_rfl))⟩
 f25 := ⟨Tryz.f111.name, by decide, Tryz.func111.trans (congrArg some (by kernel_rfl))⟩
 f26 := ⟨Tryz.f112.name, by decide, Tryz.func112.trans (congrArg some (by kernel_rfl))⟩
 f27 := ⟨Tryz.f113.name, by decide, Tryz.func113.trans (congrArg some (by kernel_rfl))⟩
 f28 := ⟨Tryz.f114.name, by decide, Tryz.func114.trans (congrArg some (by kernel_rfl))⟩
 f29 := ⟨Tryz.f115.name, by decide, Tryz.func115.trans (congrArg some (by kernel_rfl))⟩
 f31 := Tryz.func123.trans (congrArg some (by kernel_rfl))
 f32 := Tryz.func124.trans (congrArg some (by kernel_rfl))
 f36 := ⟨Tryz.f128.name, by decide, Tryz.func128.trans (congrArg some (by kernel_rfl))⟩
 f37 := ⟨Tryz.f129.name, by decide, Tryz.func129.trans (congrArg some (by kernel_rfl))⟩
 f38 := ⟨Tryz.f130.name, by decide, Tryz.func130.trans (congrArg some (by kernel_rfl))⟩
 f39 := ⟨Tryz.f131.name, by decide, Tryz.func131.trans (congrArg some (by kernel_rfl))⟩
 f41 := ⟨Tryz.f141.name, by decide, Tryz.func141.trans (congrArg some (by kernel_rfl))⟩
 t0 := Tryz.underlying0
 a0 := Tryz.isAgg0
 z0 := Tryz.sizeOf0
 v0 := Tryz.zeroValue0
 t3 := Tryz.underlying3
 a3 := Tryz.isAgg3
 z3 := Tryz.sizeOf3
 v3 := Tryz.zeroValue3
 t4 := Tryz.underlying4
 a4 := Tryz.isAgg4
 z4 := Tryz.sizeOf4
 v4 := Tryz.zeroValue4
 t5 := Tryz.underlying5
 a5 := Tryz.isAgg5
 z5 := Tryz.sizeOf5
 v5 := Tryz.zeroValue5
 t9 := Tryz.underlying9
 a9 := Tryz.isAgg9
 z9 := Tryz.sizeOf9
 v9 := Tryz.zeroValue9
 t26 := Tryz.underlying83
 a26 := Tryz.isAgg83
 z26 := Tryz.sizeOf83
 v26 := Tryz.zeroValue83
 t27 := Tryz.underlying83
 a27 := Tryz.isAgg83
 z27 := Tryz.sizeOf83
 v27 := Tryz.zeroValue83
 t29 := Tryz.underlying9
 a29 := Tryz.isAgg9
 z29 := Tryz.sizeOf9
 v29 := Tryz.zeroValue9
 t32 := Tryz.underlying137
 a32 := Tryz.isAgg137
 z32 := Tryz.sizeOf137
 v32 := Tryz.zeroValue137
 t35 := Tryz.underlying149
 a35 := Tryz.isAgg149
 z35 := Tryz.sizeOf149
 v35 := Tryz.zeroValue149
 t36 := Tryz.underlying150
 a36 := Tryz.isAgg150
 z36 := Tryz.sizeOf150
 v36 := Tryz.zeroValue150
 t41 := Tryz.underlying155
 a41 := Tryz.isAgg155
 z41 := Tryz.sizeOf155
 v41 := Tryz.zeroValue155
 t44 := Tryz.underlying158
 a44 := Tryz.isAgg158
 z44 := Tryz.sizeOf158
 v44 := Tryz.zeroValue158
 t46 := Tryz.underlying160
 a46 := Tryz.isAgg160
 z46 := Tryz.sizeOf160
 v46 := Tryz.zeroValue160
 t53 := Tryz.underlying172
 a53 := Tryz.isAgg172
 z53 := Tryz.sizeOf172
 v53 := Tryz.zeroValue172
 t57 := Tryz.underlying176
 a57 := Tryz.isAgg176
 z57 := Tryz.sizeOf176
 v57 := Tryz.zeroValue176
 t63 := Tryz.underlying185
 a63 := Tryz.isAgg185
 z63 := Tryz.sizeOf185
 v63 := Tryz.zeroValue185
 t64 := Tryz.underlying108
 a64 := Tryz.isAgg108
 z64 := Tryz.sizeOf108
 v64 := Tryz.zeroValue108 }
def Tryz.keys41_ren : Go.Shelf.Ren := ⟨fun | 7 => 41 | 10 => 63 | n => n, fun | 23 => 72 | 26 => 2 | 3 => 34 | 28 => 81 | 0 => 0 | 27 => 80 | 33 => 113 | 4 => 4 | n => n, fun | n => n⟩
theorem Tryz.keys41 : Go.Proofs.SlLaysZI.n7 Tryz.prog Tryz.keys41_ren := {
 mixed := by kernel_rfl
 f7 := ⟨Tryz.f41.name, by decide, Tryz.func41.trans (congrArg some (by kernel_rfl))⟩
 f10 := ⟨Tryz.f63.name, by decide, Tryz.func63.trans (congrArg some (by kernel_rfl))⟩
 t0 := Tryz.underlying0
 a0 := Tryz.isAgg0
 z0 := Tryz.sizeOf0
 v0 := Tryz.zeroValue0
 t4 := Tryz.underlying4
 a4 := Tryz.isAgg4
 z4 := Tryz.sizeOf4
 v4 := Tryz.zeroValue4
 t23 := Tryz.underlying72
 a23 := Tryz.isAgg72
 z23 := Tryz.sizeOf72
 v23 := Tryz.zeroValue72
 t26 := Tryz.underlying2
 a26 := Tryz.isAgg2
 z26 := Tryz.sizeOf2
 v26 := Tryz.zeroValue2
 t27 := Tryz.underlying80
 a27 := Tryz.isAgg80
 z27 := Tryz.sizeOf80
 v27 := Tryz.zeroValue80
 t28 := Tryz.underlying81
 a28 := Tryz.isAgg81
 z28 := Tryz.sizeOf81
 v28 := Tryz.zeroValue81
 t33 := Tryz.underlying113
 a33 := Tryz.isAgg113
 z33 := Tryz.sizeOf113
 v33 := Tryz.zeroValue113 }
def Tryz.sorted40_ren : Go.Shelf.Ren := ⟨fun | 6 => 40 | 8 => 61 | 9 => 62 | 11 => 86 | 13 => 88 | 12 => 87 | 23 => 105 | 24 => 106 | 14 => 96 | 15 => 97 | 16 => 98 | 17 => 99 | 18 => 100 | 19 => 101 | 20 => 102 | 21 => 103 | 22 => 104 | 25 => 122 | 26 => 123 | 27 => 124 | 28 => 125 | 29 => 126 | 30 => 127 | 31 => 140 | n => n, fun | 26 => 2 | 28 => 81 | 24 => 78 | 0 => 0 | 3 => 3 | 37 => 137 | 48 => 158 | 50 => 160 | 4 => 4 | 40 => 150 | 39 => 149 | 45 => 155 | 5 => 5 | 9 => 9 | 51 => 172 | 55 => 176 | 57 => 185 | 58 => 108 | 33 => 113 | n => n, fun | n => n⟩
theorem Tryz.sorted40 : Go.Proofs.SlLaysZI.n6 Tryz.prog Tryz.sorted40_ren := {
 mixed := by kernel_rfl
 f6 := ⟨Tryz.f40.name, by decide, Tryz.func40.trans (congrArg some (by kernel_rfl))⟩
 f8 := ⟨Tryz.f61.name, by decide, Tryz.func61.trans (congrArg some (by kernel_rfl))⟩
 f11 := ⟨Tryz.f86.name, by decide, Tryz.func86.trans (congrArg some (by kernel_rfl))⟩
 t0 := Tryz.underlying0
 a0 := Tryz.isAgg0
 z0 := Tryz.sizeOf0
 v0 := Tryz.zeroValue0
 t24 := Tryz.underlying78
 a24 := Tryz.isAgg78
 z24 := Tryz.sizeOf78
 v24 := Tryz.zeroValue78
 t26 := Tryz.underlying2
 a26 := Tryz.isAgg2
 z26 := Tryz.sizeOf2
 v26 := Tryz.zeroValue2
 t28 := Tryz.underlying81
 a28 := Tryz.isAgg81
 z28 := Tryz.sizeOf81
 v28 := Tryz.zeroValue81
 i26 := by kernel_rfl }
def Tryz.sort62_ren : Go.Shelf.Ren := ⟨fun | 5 => 62 | 8 => 88 | 7 => 87 | 19 => 105 | 20 => 106 | 10 => 96 | 11 => 97 | 12 => 98 | 13 => 99 | 14 => 100 | 15 => 101 | 16 => 102 | 17 => 103 | 18 => 104 | 30 => 122 | 31 => 123 | 32 => 124 | 33 => 125 | 34 => 126 | 35 => 127 | 40 => 140 | n => n, fun | 23 => 78 | 25 => 2 | 3 => 3 | 32 => 137 | 22 => 78 | 0 => 0 | 44 => 158 | 46 => 160 | 4 => 4 | 36 => 150 | 35 => 149 | 41 => 155 | 5 => 5 | 9 => 9 | 53 => 172 | 57 => 176 | 63 => 185 | 64 => 108 | n => n, fun | n => n⟩
theorem Tryz.sort62 : Go.Proofs.SlLaysM.n5 Tryz.prog Tryz.sort62_ren := {
 mixed := by kernel_rfl
 f5 := ⟨Tryz.f62.name, by decide, Tryz.func62.trans (congrArg some (by kernel_rfl))⟩
 f7 := ⟨Tryz.f87.name, by decide, Tryz.func87.trans (congrArg some (by kernel_rfl))⟩
 f8 := Tryz.func88.trans (congrArg some (by kernel_rfl))
 f10 := ⟨Tryz.f96.name, by decide, Tryz.func96.trans (congrArg some (by kernel_rfl))⟩
 f11 := ⟨Tryz.f97.name, by decide, Tryz.func97.trans (congrArg some (by kernel_rfl))⟩
 f12 := ⟨Tryz.f98.name, by decide, Tryz.func98.trans (congrArg some (by kernel_rfl))⟩
 f13 := ⟨Tryz.f99.name, by decide, Tryz.func99.trans (congrArg some (by kernel_rfl))⟩
 f14 := ⟨Tryz.f100.name, by decide, Tryz.func100.trans (congrArg some (by kernel_rfl))⟩
 f15 := ⟨Tryz.f101.name, by decide, Tryz.func101.trans (congrArg some (by kernel_rfl))⟩
 f16 := ⟨Tryz.f102.name, by decide, Tryz.func102.trans (congrArg some (by kernel_rfl))⟩
 f17 := ⟨Tryz.f103.name, by decide, Tryz.func103.trans (congrArg some (by kernel_rfl))⟩
 f18 := ⟨Tryz.f104.name, by decide, Tryz.func104.trans (congrArg some (by kernel_rfl))⟩
 f19 := Tryz.func105.trans (congrArg some (by kernel_rfl))
 f20 := Tryz.func106.trans (congrArg some (by kernel_rfl))
 f30 := ⟨Tryz.f122.name, by decide, Tryz.func122.trans (congrArg some (by kernel_rfl))⟩
 f31 := Tryz.func123.trans (congrArg some (by kernel_rfl))
 f32 := Tryz.func124.trans (congrArg some (by kernel_rfl))
 f33 := ⟨Tryz.f125.name, by decide, Tryz.func125.trans (congrArg some (by kernel_rfl))⟩
 f34 := ⟨Tryz.f126.name, by decide, Tryz.func126.trans (congrArg some (by kernel_rfl))⟩
 f35 := ⟨Tryz.f127.name, by decide, Tryz.func127.trans (congrArg some (by kernel_rfl))⟩
 f40 := ⟨Tryz.f140.name, by decide, Tryz.func140.trans (congrArg some (by kernel_rfl))⟩
 t0 := Tryz.underlying0
 a0 := Tryz.isAgg0
 z0 := Tryz.sizeOf0
 v0 := Tryz.zeroValue0
 t3 := Tryz.underlying3
 a3 := Tryz.isAgg3
 z3 := Tryz.sizeOf3
 v3 := Tryz.zeroValue3
 t4 := Tryz.underlying4
 a4 := Tryz.isAgg4
 z4 := Tryz.sizeOf4
 v4 := Tryz.zeroValue4
 t5 := Tryz.underlying5
 a5 := Tryz.isAgg5
 z5 := Tryz.sizeOf5
 v5 := Tryz.zeroValue5
 t9 := Tryz.underlying9
 a9 := Tryz.isAgg9
 z9 := Tryz.sizeOf9
 v9 := Tryz.zeroValue9
 t22 := Tryz.underlying78
 a22 := Tryz.isAgg78
 z22 := Tryz.sizeOf78
 v22 := Tryz.zeroValue78
 t23 := Tryz.underlying78
 a23 := Tryz.isAgg78
 z23 := Tryz.sizeOf78
 v23 := Tryz.zeroValue78
 t25 := Tryz.underlying2
 a25 := Tryz.isAgg2
 z25 := Tryz.sizeOf2
 v25 := Tryz.zeroValue2
 t32 := Tryz.underlying137
 a32 := Tryz.isAgg137
 z32 := Tryz.sizeOf137
 v32 := Tryz.zeroValue137
 t35 := Tryz.underlying149
 a35 := Tryz.isAgg149
 z35 := Tryz.sizeOf149
 v35 := Tryz.zeroValue149
 t36 := Tryz.underlying150
 a36 := Tryz.isAgg150
 z36 := Tryz.sizeOf150
 v36 := Tryz.zeroValue150
 t41 := Tryz.underlying155
 a41 := Tryz.isAgg155
 z41 := Tryz.sizeOf155
 v41 := Tryz.zeroValue155
 t44 := Tryz.underlying158
 a44 := Tryz.isAgg158
 z44 := Tryz.sizeOf158
 v44 := Tryz.zeroValue158
 t46 := Tryz.underlying160
 a46 := Tryz.isAgg160
 z46 := Tryz.sizeOf160
 v46 := Tryz.zeroValue160
 t53 := Tryz.underlying172
 a53 := Tryz.isAgg172
 z53 := Tryz.sizeOf172
 v53 := Tryz.zeroValue172
 t57 := Tryz.underlying176
 a57 := Tryz.isAgg176
 z57 := Tryz.sizeOf176
 v57 := Tryz.zeroValue176
 t63 := Tryz.underlying185
 a63 := Tryz.isAgg185
 z63 := Tryz.sizeOf185
 v63 := Tryz.zeroValue185
 t64 := Tryz.underlying108
 a64 := Tryz.isAgg108
 z64 := Tryz.sizeOf108
 v64 := Tryz.zeroValue108 }
end Go.Proofs
namespace Go.Proofs.YtlfihdcgbhdajaaGreatDoor
open Go.RowKit Go.Maps Go.Sort Go.Shelf
set_option linter.unusedVariables false
set_option linter.unusedSimpArgs false

theorem sortsT (m : Nat) : AnyZ.SortsIn Tryz.prog Tryz.sorted42_ren Fence.wide m :=
  ⟨fun blk off cap ss W hH hblk hsz => callsIn_wide.2 (AnyM.slices_Sort_string Tryz.sort65 blk off cap ss W hH hblk hsz),
   fun p cap W => callsIn_wide.2 (AnyM.slices_Sort_string_none Tryz.sort65 p cap W)⟩
theorem mapsKeys_T (mb : Option Nat) (W : World) : CallsIn Fence.wide 5 Tryz.prog 43 #[.map mb] W fun e w' => e = .returned (.func (.func 66) #[] #[.pointer (some ⟨W.heap.size, 0, none⟩)]) ∧ w' = W.alloc (.cells #[.map mb] 73) :=
 AnyZ.keys_in Tryz.keys43 Fence.wide 5 trivial rfl mb W
set_option maxHeartbeats 1000000 in
theorem sorted_keysT {H : Type} (b nn : Nat) (D0 : DataW H) (R : Value → Option (DataW H × List MemPlace)) (w : World) (hown : w.ownsMap Tryz.prog 9 R b nn D0) (hmax : Maps.size D0 ≤ maxLen) (hbytes : Maps.size D0 * 16 ≤ 140737488355328) :
  CallsIn Fence.wide 5 Tryz.prog 42 #[.func (.func 66) #[] #[.pointer (some ⟨w.heap.size, 0, none⟩)]] (w.alloc (.cells #[.map (some b)] 73)) fun e w' => ∃ (v : Value) (ss : List (List UInt8)), e = .returned v ∧ ss.Perm (strKeys D0) ∧
   w'.ownsRow (w.alloc (.cells #[.map (some b)] 73)).heap.size 9 1 v ss.length ((ss.mergeSort (fun x y => decide (x ≤ y))).map encStr) ∧ (v = .slice none 0 0 ↔ ss = []) ∧ Below (w.alloc (.cells #[.map (some b)] 73)).heap.size (w.alloc (.cells #[.map (some b)] 73)) w' := by
 have hbl := hown.lt
 have hseq : SeqGives Fence.wide 2 Tryz.prog 66 #[.pointer (some ⟨w.heap.size, 0, none⟩)] encStr (fun ss => ss.Perm (strKeys D0)) (Maps.size D0) (w.alloc (.cells #[.map (some b)] 73)) :=
  AnyZ.keys_gives (ρ := Tryz.keys43_ren) { Tryz.keys43 with } Fence.wide _ trivial rfl (by omega) w.heap.size b nn D0 _ (by simp) (by simp) (by
   obtain ⟨es, clock, hb, Ft, hs, hD⟩ := hown
   exact ⟨es, clock, (Below.heap_alloc _ _ b hbl).trans hb, Ft, hs, hD⟩)
 exact AnyZ.sorted_in Tryz.sorted42 Fence.wide 5 trivial trivial trivial trivial rfl (by omega) (sortsT _) (enters_of Tryz.func65 (by kernel_rfl) rfl) 66 #[.pointer (some ⟨w.heap.size, 0, none⟩)] trivial (enters_of Tryz.func66 (by kernel_rfl) rfl) _ _ hmax hbytes _ hseq
theorem sortsI (m : Nat) : AnyZI.SortsIn Tryz.prog Tryz.sorted40_ren Fence.wide m :=
  ⟨fun blk off cap ss W hH hblk hsz => callsIn_wide.2 (AnyM.slices_Sort_int Tryz.sort62 blk off cap ss W hH hblk hsz),
   fun p cap W => callsIn_wide.2 (AnyM.slices_Sort_int_none Tryz.sort62 p cap W)⟩
theorem mapsKeys_I (mb : Option Nat) (W : World) : CallsIn Fence.wide 5 Tryz.prog 41 #[.map mb] W fun e w' => e = .returned (.func (.func 63) #[] #[.pointer (some ⟨W.heap.size, 0, none⟩)]) ∧ w' = W.alloc (.cells #[.map mb] 72) :=
 AnyZI.keys_in Tryz.keys41 Fence.wide 5 trivial rfl mb W
set_option maxHeartbeats 1000000 in
theorem sorted_keysI {H : Type} (b nn : Nat) (D0 : DataW H) (R : Value → Option (DataW H × List MemPlace)) (w : World) (hown : w.ownsMap Tryz.prog 2 R b nn D0) (hmax : Maps.size D0 ≤ maxLen) (hbytes : Maps.size D0 * 8 ≤ 140737488355328) :
  CallsIn Fence.wide 5 Tryz.prog 40 #[.func (.func 63) #[] #[.pointer (some ⟨w.heap.size, 0, none⟩)]] (w.alloc (.cells #[.map (some b)] 72)) fun e w' => ∃ (v : Value) (ss : List Int), e = .returned v ∧ ss.Perm (intKeys D0) ∧
   w'.ownsRow (w.alloc (.cells #[.map (some b)] 72)).heap.size 2 1 v ss.length ((ss.mergeSort (fun x y => decide (x ≤ y))).map encZ) ∧ (v = .slice none 0 0 ↔ ss = []) ∧ Below (w.alloc (.cells #[.map (some b)] 72)).heap.size (w.alloc (.cells #[.map (some b)] 72)) w' := by
 have hbl := hown.lt
 have hseq : SeqGives Fence.wide 2 Tryz.prog 63 #[.pointer (some ⟨w.heap.size, 0, none⟩)] encZ (fun ss => ss.Perm (intKeys D0)) (Maps.size D0) (w.alloc (.cells #[.map (some b)] 72)) :=
  AnyZI.keys_gives (ρ := Tryz.keys41_ren) { Tryz.keys41 with } Fence.wide _ trivial rfl (by omega) w.heap.size b nn D0 _ (by simp) (by simp) (by
   obtain ⟨es, clock, hb, Ft, hs, hD⟩ := hown
   exact ⟨es, clock, (Below.heap_alloc _ _ b hbl).trans hb, Ft, hs, hD⟩)
 exact AnyZI.sorted_in Tryz.sorted40 Fence.wide 5 trivial trivial trivial trivial rfl (by omega) (sortsI _) (enters_of Tryz.func62 (by kernel_rfl) rfl) 63 #[.pointer (some ⟨w.heap.size, 0, none⟩)] trivial (enters_of Tryz.func63 (by kernel_rfl) rfl) _ _ hmax hbytes _ hseq
abbrev anyR : Value → Option (DataW Unit × List MemPlace) := fun _ => some (.lit (.bool true), [])
theorem own_keys {κ : Type} [DecidableEq κ] {w : World} {r : Nat} {enc : κ → Value} {K : TypeId} {lit : κ → Lit} {m : List (κ × Value)} (h : IsMap enc w r m) (hk : ∀ x ∈ m, keyOf Tryz.prog K (enc x.1) = some (lit x.1)) (hl : m.length ≤ maxLen) :
  ∃ n es, w.ownsMap Tryz.prog K anyR r n (.map es) ∧ (es.map (·.1)).Perm (m.map fun x => lit x.1) ∧ Maps.size (.map es : DataW Unit) = m.length := by
 obtain ⟨es, c, hb, h2, hst⟩ := h
 have hsz : es.size = m.length := by
  have := congrArg List.length h2
  simpa [pairs, encs] using this
 have hmap : ∀ (l : List MapEntry) (m : List (κ × Value)), pairs l = encs enc m → (∀ x ∈ m, keyOf Tryz.prog K (enc x.1) = some (lit x.1)) →
   (∀ x ∈ l, ∃ y, WideElems.rd Tryz.prog K anyR x = some y) ∧ (l.map (WideElems.rg Tryz.prog K anyR)).map (·.1) = m.map fun x => lit x.1 := by
  intro l
  induction l with
  | nil => intro m h _; cases m with
   | nil => exact ⟨fun x hx => (List.not_mem_nil hx).elim, rfl⟩
   | cons y m => simp [pairs, encs] at h
  | cons e l ih =>
   intro m h hk
   cases m with
   | nil => simp [pairs, encs] at h
   | cons y m =>
    simp only [pairs, encs, List.map_cons, List.cons.injEq, Prod.mk.injEq] at h
    obtain ⟨i1, i2⟩ := ih m h.2 (fun x hx => hk x (List.mem_cons_of_mem _ hx))
    have hrd : WideElems.rd Tryz.prog K anyR e = some (lit y.1, .lit (.bool true)) := by
     unfold WideElems.rd
     rw [h.1.1, hk y List.mem_cons_self]
     rfl
    refine ⟨fun x hx => ?_, ?_⟩
    ·rcases List.mem_cons.1 hx with rfl | hx
     ·exact ⟨_, hrd⟩
     ·exact i1 x hx
    ·rw [List.map_cons, List.map_cons, List.map_cons, i2]
     unfold WideElems.rg
     rw [hrd]
     rfl
 obtain ⟨r1, r2⟩ := hmap es.toList m h2 hk
 refine ⟨es.size, (es.toList.map (WideElems.rg Tryz.prog K anyR)).foldr DataW.insert [], ⟨es, c, hb, ⟨by rw [hsz]; exact hl, hst, r1⟩, Nat.le_refl _, rfl⟩, ?_, ?_⟩
 ·refine (List.Perm.map _ (WideShapes.sorted_perm _)).trans ?_
  rw [r2]
 ·show ((es.toList.map (WideElems.rg Tryz.prog K anyR)).foldr DataW.insert []).length = _
  rw [(WideShapes.sorted_perm _).length_eq, List.length_map, ← hsz]
  simp
theorem own_i {w : World} {r : Nat} {mi : List (Int × Vl)} (h : IsMap iKey w r (mmap Vl.v mi)) (hk : ∀ x ∈ mi, in64 x.1) (hl : mi.length ≤ maxLen) :
  ∃ n D0, w.ownsMap Tryz.prog 2 anyR r n D0 ∧ (intKeys D0).Perm (mi.map (·.1)) ∧ Maps.size D0 = mi.length := by
 obtain ⟨n, es, h1, h2, h3⟩ := own_keys (K := 2) (lit := fun n => Lit.int .i64 n) h (fun x hx => by
  obtain ⟨y, hy, rfl⟩ := List.mem_map.1 hx
  have := hk y hy
  unfold in64 at this
  simp only [keyOf, mapKey, Tryz.underlying2]
  have hw : (Lit.int .i64 y.1).wf = true := by
   unfold Lit.wf
   rw [Bool.and_eq_true, decide_eq_true_eq, decide_eq_true_eq]
   exact ⟨this.1, this.2⟩
  rw [if_pos ⟨trivial, hw⟩]) (by simpa [mmap] using hl)
 refine ⟨n, .map es, h1, ?_, by simpa [mmap] using h3⟩
 have := h2.map (fun l : Lit => match l with | .int _ n => n | _ => 0)
 have e : (es.map (·.1)).map (fun l : Lit => match l with | .int _ n => n | _ => 0) = intKeys (.map es) := by
  rw [List.map_map]
  rfl
 rw [e] at this
 simpa [mmap, List.map_map, Function.comp_def] using this
theorem own_t {w : World} {r : Nat} {mt : List (ByteArray × Vl)} (h : IsMap Value.string w r (mmap Vl.v mt)) (hk : ∀ x ∈ mt, x.1.size ≤ maxLen) (hl : mt.length ≤ maxLen) :
  ∃ n D0, w.ownsMap Tryz.prog 9 anyR r n D0 ∧ (strKeys D0).Perm (mt.map fun x => x.1.data.toList) ∧ Maps.size D0 = mt.length := by
 obtain ⟨n, es, h1, h2, h3⟩ := own_keys (K := 9) (lit := fun s : ByteArray => Lit.string s.data.toList) h (fun x hx => by
  obtain ⟨y, hy, rfl⟩ := List.mem_map.1 hx
  simp only [keyOf, mapKey, Tryz.underlying9]
  rw [if_pos (hk y hy)]) (by simpa [mmap] using hl)
 refine ⟨n, .map es, h1, ?_, by simpa [mmap] using h3⟩
 have := h2.map strOf
 simpa [strKeys, mmap, List.map_map, Function.comp_def, strOf] using this
end Go.Proofs.YtlfihdcgbhdajaaGreatDoor
namespace Go.Proofs.YtlfihdcgbhdajaaGreatDoor
open Go.RowKit Go.Maps Go.Sort
set_option linter.unusedVariables false
set_option linter.unusedSimpArgs false

abbrev intOf' : Value → Int := Go.RowKit.intOf
theorem ints_row {w : World} {B : Nat} {v : Value} {l : List Int} (h : w.ownsRow B 2 1 v l.length (l.map encZ)) :
  ∃ q c, v = .slice q l.length c ∧ ∀ j (hj : j < l.length), ∃ b, q = some ⟨b, 0, none⟩ ∧ b < w.heap.size ∧ w.cell? ⟨b, j, none⟩ = some (.int .i64 l[j]) := by
 rcases h.2 with ⟨rfl, h0⟩ | ⟨g, cap, cur, rfl, hb, hc, h2, h3, h4, h5⟩
 ·exact ⟨none, 0, by rw [h0], fun j hj => by omega⟩
 ·refine ⟨_, _, rfl, fun j hj => ⟨g, rfl, (Array.getElem?_eq_some_iff.1 hc).1, ?_⟩⟩
  rw [cell_of_row w g _ cur _ (0, 0) hc]
  have := congrArg (fun l : List Value => l[j]?) h5
  simp only [List.getElem?_take, Nat.mul_one, if_pos hj, List.getElem?_map, List.getElem?_eq_getElem hj, Option.map_some] at this
  simpa [encZ] using this
theorem texts_row {w : World} {B : Nat} {v : Value} {l : List (List UInt8)} (h : w.ownsRow B 9 1 v l.length (l.map Go.Proofs.encStr)) :
  ∃ q c, v = .slice q l.length c ∧ ∀ j (hj : j < l.length), ∃ b, q = some ⟨b, 0, none⟩ ∧ B ≤ b ∧ ∃ hb : b < w.heap.size, w.cell? ⟨b, j, none⟩ = some (.string ⟨l[j].toArray⟩) := by
 rcases h.2 with ⟨rfl, h0⟩ | ⟨g, cap, cur, rfl, hb, hc, h2, h3, h4, h5⟩
 ·exact ⟨none, 0, by rw [h0], fun j hj => by omega⟩
 ·refine ⟨_, _, rfl, fun j hj => ⟨g, rfl, hb, (Array.getElem?_eq_some_iff.1 hc).1, ?_⟩⟩
  rw [cell_of_row w g _ cur _ (0, 0) hc]
  have := congrArg (fun l : List Value => l[j]?) h5
  simp only [List.getElem?_take, Nat.mul_one, if_pos hj, List.getElem?_map, List.getElem?_eq_getElem hj, Option.map_some] at this
  simpa [Go.Proofs.encStr] using this
theorem app_own (W : World) (ty : TypeId) (B b : Nat) (kv : Value) (ks : List Vl) (x : Vl) (hb : Blk W b 34 #[.int .i64 x.k, .int .i64 x.n, .string x.s]) (h : RowB W B kv ks) (hB : B ≤ W.heap.size) (hn : ks.length < 1000000) :
  ∃ v' w', AppRuns Tryz.prog 42 ty kv (.slice (some ⟨b, 0, none⟩) 1 1) W v' w' ∧ RowB w' B v' (ks ++ [x]) ∧ W.grownBy w' kv.ownBlock ∧ (v'.ownBlock = kv.ownBlock ∨ v'.ownBlock = some W.heap.size) := by
 obtain ⟨i0, hi, hz0, hz1, hz2⟩ := info_parts infoVal
 obtain ⟨v', w', h1, h2, h3, _, h4⟩ := run_append_own_at (P := Tryz.prog) (w := W) B 42 ty 34 i0 Vl.zero.v 3 32 Tryz.underlying42 hi hz0 hz1 hz2 rfl (by omega) kv ks.length (flat ks) h ⟨b, 0, none⟩ 1 1
  [.int .i64 x.k, .int .i64 x.n, .string x.s] rfl (fun j u hu => by
   have hadd : (⟨b, 0, none⟩ : Addr).add j = ⟨b, 0 + j, none⟩ := by unfold Addr.add; split <;> simp_all
   rw [hadd, hb.cell, Nat.zero_add]
   simpa using hu) (by intro u hu; simp at hu; rcases hu with rfl | rfl | rfl <;> rfl) (by unfold maxLen; omega) (by omega) hB
 exact ⟨v', w', ⟨h1⟩, by (show w'.ownsRow B 34 3 v' (ks ++ [x]).length (flat (ks ++ [x]))); rw [flat_snoc, List.length_append]; exact h2, h3, h4⟩
theorem RowB.lower {w : World} {B B' : Nat} {v : Value} {l : List Vl} (h : RowB w B v l) (hB : B' ≤ B) : RowB w B' v l := by
 obtain ⟨hl, hrow⟩ := h
 refine ⟨hl, ?_⟩
 rcases hrow with h1 | ⟨g, cap, cur, e1, hb, h2⟩
 ·exact .inl h1
 ·exact .inr ⟨g, cap, cur, e1, Nat.le_trans hB hb, h2⟩
set_option maxRecDepth 100000 in
theorem keys_why (g : Nat) (tv : Value) (rs : List (Nat × Nat)) (H : Hp) (t : Vl) (w : World) (h : HeapIn w g tv rs H) (hlen : H.tabs.length ≤ 9223372036854775807) (hn : ¬ (ofW H t).toList = []) :
  Calls Tryz.prog 11 #[.pointer (some ⟨g, 0, none⟩), t.v] w fun e w' => e = .returned (.tuple #[.slice none 0 0, .string (ofW H t)]) ∧ Ext w w' := by
 obtain ⟨x, y, hxy, ho⟩ := of_any g tv rs H t h.len hlen
 clear hxy
 have hn' : (ofW H t).toList.isEmpty = false := by simpa using hn
 have HI := Lib.hid h
 clear h
 generalize ofW H t = o at *
 go_enter Tryz.func11, Tryz.ntmps11
 go_wp2_with fail
 refine (ho _ (HI.out.alloc _)).mono ?_
 rintro e w1 ⟨rfl, e1⟩
 have k1 := ((Ext.refl w).alloc _).trans e1
 go_wp2_with fail
 go_ret2
 exact ⟨rfl, by repeat (first | exact k1 | refine Ext.alloc ?_ _ | refine Ext.setCell ?_ (by simp <;> omega) _)⟩
set_option maxRecDepth 100000 in
set_option maxHeartbeats 1000000 in
theorem keys_tab (g : Nat) (tv : Value) (rs : List (Nat × Nat)) (H : Hp) (t : Vl) (w : World) (h : HeapIn w g tv rs H) (hlen : H.tabs.length ≤ 9223372036854775807) (hn : ofW H t = sNone) :
  Calls Tryz.prog 11 #[.pointer (some ⟨g, 0, none⟩), t.v] w fun e w' => ∃ v, e = .returned (.tuple #[v, .string sNone]) ∧ RowB w' w.heap.size v (keysL (tabOf H t)) ∧ Ext w w' := by
 obtain ⟨x, y, hxy, ho⟩ := of_any g tv rs H t h.len hlen
 obtain ⟨r, hr, rfl, rfl⟩ := hxy hn
 obtain ⟨o1, o2, o3, o4, o5⟩ := ofW_none hn
 have HT := Lib.hid (tabOf_get o5)
 have HR := Lib.hid hr
 have hTb := tabOf_ok h.ok o5
 have hmost := hTb.most
 have hkl := keys_len hTb
 have HTb := Lib.hid hTb
 have hs0 := sNone_list
 have hs1 : sNone.toList.isEmpty = true := by rw [hs0]; rfl
 rw [hn] at ho
 have HI := Lib.hid h
 obtain ⟨T, hT⟩ : ∃ T, T = tabOf H t := ⟨_, rfl⟩
 rw [← hT] at HT HTb hmost hkl ⊢
 clear hxy hr hn hTb h o1 o2 o3 o4 o5 hT
 go_enter Tryz.func11, Tryz.ntmps11
 go_wp2_with fail
 refine (ho _ (HI.out.alloc _)).mono ?_
 rintro e w1 ⟨rfl, e1⟩
 have k1 := (((Ext.refl w).alloc _).trans e1).alloc (.cells #[.map (some r.1), .map (some r.2)] 75)
 obtain ⟨mi, mt, him, hmt, hrep⟩ := (HI.out.ext k1).tabs _ _ _ HR.out HT.out
 have hci := hrep.count
 obtain ⟨n1, D1, own1, perm1, size1⟩ := own_i him (fun x hx => by
  have hm : mget T (iK x.1) = some x.2 := by rw [hrep.ints]; exact mget_of_mem hrep.oi hx
  exact (HTb.out.key _ (mem_of_mget hm)).num) (by unfold maxLen; omega)
 have hK1 := (callsIn_wide (n := 5)).1 (mapsKeys_I (some r.1) (w1.alloc (.cells #[.map (some r.1), .map (some r.2)] 75)))
 have hS1 := (callsIn_wide (n := 5)).1 (sorted_keysI r.1 n1 D1 anyR _ own1 (by unfold maxLen; omega) (by omega))
 simp only [size_alloc] at hS1 hK1
 have z1 := e1.lt1
 have HP1 := Lib.hid (perm1.trans (hrep.keysi HTb.out))
 clear ho e1 him hmt hrep own1 perm1
 go_wp2_with fail
 refine hK1.mono ?_
 rintro e w2 ⟨rfl, rfl⟩
 go_wp2_with fail
 refine hS1.mono ?_
 rintro e w3 ⟨v1, ss, rfl, hS, hrow, hnil, hb⟩
 clear hK1 hS1
 have eS : (ss.mergeSort fun x y => decide (x ≤ y)) = (intsOf T).mergeSort fun x y => decide (x ≤ y) := mergeSort_of_perm_i (hS.trans HP1.out)
 have eL : ss.length = ((intsOf T).mergeSort fun x y => decide (x ≤ y)).length := by rw [← eS, (List.mergeSort_perm _ _).length_eq]
 rw [eS, eL] at hrow
 obtain ⟨LI, hLI⟩ : ∃ LI, LI = (intsOf T).mergeSort fun x y => decide (x ≤ y) := ⟨_, rfl⟩
 rw [← hLI] at hrow
 have hLl : LI.length ≤ 65536 := by rw [hLI, (List.mergeSort_perm _ _).length_eq]; omega
 have HLI := Lib.hid hLI
 obtain ⟨q1, c1, rfl, hcells⟩ := ints_row hrow
 have k3 : Ext w w3 := (k1.alloc (.cells #[.map (some r.1)] 72)).trans (by unfold Ext; rw [size_alloc, size_alloc]; exact hb)
 have HC := Lib.hid hcells
 have K1 := Lib.hid k1
 have K3 := Lib.hid k3
 have HB3 := Lib.hid hb
 have hw3 : w1.heap.size + 1 + 1 ≤ w3.heap.size := by have := hb.size; simpa [size_alloc] using this
 clear eS eL hS hnil hrow hcells hLI k1 k3 hb size1 hci
 go_wp2_with fail
 go_loopw [8, 27] (fun ov x wr => ∃ j : Nat, x = .int .i64 j ∧ j ≤ LI.length ∧ Hid (Ext w3 wr ∧ RowB wr w3.heap.size ov ((LI.take j).map iK))) (fun _ x _ => LI.length - (intOf' x).toNat)
 case atStart => exact ⟨0, rfl, Nat.zero_le _, Lib.hid ⟨Ext.refl _, World.ownsRow_nil _ _ _ _⟩⟩
 case round =>
  obtain ⟨j, rfl, hj, HW⟩ := hrel
  rcases Nat.lt_or_ge j LI.length with hlt | hge
  ·obtain ⟨b1, rfl, hb1, d1⟩ := HC.out j hlt
   have d1' : wr.cell? ⟨b1, j, none⟩ = some (.int .i64 LI[j]) := (HW.out.1.cells.1 _ _ hb1).trans d1
   have hd : decide ((j : Int) < (LI.length : Int)) = true := by rw [decide_eq_true_eq]; omega
   have hd' : decide (j < LI.length) = true := by rw [decide_eq_true_eq]; exact hlt
   have htk : LI.take (j + 1) = LI.take j ++ [LI[j]] := List.take_succ_eq_append_getElem hlt
   have HTK := Lib.hid htk
   clear htk d1
   obtain ⟨x, hx⟩ : ∃ x, LI[j] = x := ⟨_, rfl⟩
   rw [hx] at HTK d1'
   clear hx
   obtain ⟨qo, co, eo⟩ := HW.out.2.at0.slice
   rw [List.length_map, List.length_take, Nat.min_eq_left hj] at eo
   subst eo
   have hzr : w3.heap.size ≤ wr.heap.size := HW.out.1.le
   go_wp2_with fail
   refine (int_any x _).mono ?_
   rintro e w4 ⟨rfl, e4⟩
   have HR4 := Lib.hid (own_ext HW.out.2 e4)
   have k4 := HW.out.1.trans e4
   obtain ⟨v5, w5, r5, o5', g5, l5⟩ := app_own (w4.alloc (.cells #[.int .i64 2, .int .i64 x, .string ⟨#[]⟩] 34)) 42 w3.heap.size w4.heap.size _ _ (iK x) (Blk.new w4 _ _) (own_ext HR4.out ((Ext.refl w4).alloc _)) (by have := e4.le; rw [size_alloc]; omega) (by rw [List.length_map, List.length_take]; omega)
   have k5 : Ext w3 w5 := (k4.alloc _).grown g5 (fun z hz => (HR4.out.lt z hz).1)
   have HR5 := Lib.hid r5
   have HO5 := Lib.hid o5'
   have K5 := Lib.hid k5
   clear r5 o5' g5 l5 k4 k5 e4 HR4
   go_wp2_with (at_builtin; refine wpList_append_runs rfl _ _ 42 rfl _ _ _ _ rfl rfl HR5.out ?_)
   go_roundw
   case rel => exact ⟨j + 1, by go_num, by omega, Lib.hid ⟨K5.out, by rw [HTK.out, List.map_append]; exact HO5.out⟩⟩
   case measure => simp [intOf', Go.RowKit.intOf]; omega
  ·obtain rfl : j = LI.length := by omega
   have HO := Lib.hid (show RowB wr w3.heap.size _ (LI.map iK) by have := HW.out.2; rwa [List.take_length] at this)
   have HE := Lib.hid HW.out.1
   clear HW hge hj HC
   have hd : decide ((LI.length : Int) < (LI.length : Int)) = false := by simp
   obtain ⟨wo, rfl⟩ : ∃ wo : World, wo = wr := ⟨_, rfl⟩
   obtain ⟨qo, co, eo⟩ := HO.out.at0.slice
   rw [List.length_map] at eo
   subst eo
   have hzo : w3.heap.size ≤ wo.heap.size := HE.out.le
   have kw : Ext w wo := K3.out.trans HE.out
   have kB : Ext (w1.alloc (.cells #[.map (some r.1), .map (some r.2)] 75)) wo := (((Ext.refl _).alloc (.cells #[.map (some r.1)] 72)).trans (by unfold Ext; rw [size_alloc, size_alloc]; exact HB3.out)).trans HE.out
   have cb : wo.cell? ⟨w1.heap.size, 1, none⟩ = some (.map (some r.2)) := (kB.cells.1 _ _ (by rw [size_alloc]; omega)).trans (by go_simp)
   obtain ⟨mi, mt, him, hmt, hrep⟩ := (HI.out.ext kw).tabs _ _ _ HR.out HT.out
   have hci := hrep.count
   obtain ⟨n2, D2, own2, perm2, size2⟩ := own_t hmt (fun x hx => by
    have hm : mget T (tK x.1) = some x.2 := by rw [hrep.texts]; exact mget_of_mem hrep.ot hx
    have hkk := (HTb.out.key _ (mem_of_mget hm))
    have hc := hkk.ck
    unfold Vl.ck checkB tK at hc
    simp at hc
    unfold maxLen
    omega) (by unfold maxLen; omega)
   have hK2 := (callsIn_wide (n := 5)).1 (mapsKeys_T (some r.2) wo)
   have hS2 := (callsIn_wide (n := 5)).1 (sorted_keysT r.2 n2 D2 anyR _ own2 (by unfold maxLen; omega) (by omega))
   simp only [size_alloc] at hS2 hK2
   have HP2 := Lib.hid (perm2.trans (hrep.keyst HTb.out))
   have KW := Lib.hid kw
   clear him hmt hrep own2 perm2 kB kw
   go_wp2_with fail
   refine hK2.mono ?_
   rintro e w4 ⟨rfl, rfl⟩
   go_wp2_with fail
   refine hS2.mono ?_
   rintro e w5 ⟨v2, ss2, rfl, hS, hrow, hnil, hb⟩
   clear hK2 hS2
   have eS : (ss2.mergeSort fun x y => decide (x ≤ y)) = (textsOf T).mergeSort fun x y => decide (x ≤ y) := mergeSort_of_perm (hS.trans HP2.out)
   have eL : ss2.length = ((textsOf T).mergeSort fun x y => decide (x ≤ y)).length := by rw [← eS, (List.mergeSort_perm _ _).length_eq]
   rw [eS, eL] at hrow
   obtain ⟨LT, hLT⟩ : ∃ LT, LT = (textsOf T).mergeSort fun x y => decide (x ≤ y) := ⟨_, rfl⟩
   rw [← hLT] at hrow
   have hLl2 : LT.length ≤ 65536 := by rw [hLT, (List.mergeSort_perm _ _).length_eq]; omega
   have hLL : LI.length + LT.length ≤ 65536 := by rw [HLI.out, hLT, (List.mergeSort_perm _ _).length_eq, (List.mergeSort_perm _ _).length_eq]; omega
   have HLT := Lib.hid hLT
   obtain ⟨q2, c2, rfl, hcells⟩ := texts_row hrow
   have k5 : Ext wo w5 := ((Ext.refl wo).alloc (.cells #[.map (some r.2)] 73)).trans (by unfold Ext; rw [size_alloc]; exact hb)
   have hout := own_ext HO.out k5
   have hob : ∀ z, (Value.slice qo LI.length co).ownBlock = some z → z < wo.heap.size := fun z hz => (HO.out.lt z hz).2
   have HC := Lib.hid hcells
   have K5 := Lib.hid k5
   have HO5 := Lib.hid hout
   have HOB := Lib.hid hob
   have hz5 : wo.heap.size ≤ w5.heap.size := k5.le
   clear eS eL hS hnil hrow hcells hLT k5 hb size2 hci hout hob HO
   go_wp2_with fail
   go_loopw [8, 42] (fun ov x wr => ∃ j : Nat, x = .int .i64 j ∧ j ≤ LT.length ∧ Hid (Ext w3 wr ∧ RowB wr w3.heap.size ov (LI.map iK ++ (LT.take j).map fun l => tK ⟨l.toArray⟩) ∧ (∀ b, q2 = some ⟨b, 0, none⟩ → wo.heap.size ≤ b → wr.heap[b]? = w5.heap[b]? ∧ ov.ownBlock ≠ some b))) (fun _ x _ => LT.length - (intOf' x).toNat)
   case atStart => exact ⟨0, rfl, Nat.zero_le _, Lib.hid ⟨HE.out.trans K5.out, by (rw [List.take_zero, List.map_nil, List.append_nil]; exact HO5.out), fun b hb hwo => ⟨rfl, fun e => by have := HOB.out b e; omega⟩⟩⟩
   case round =>
    obtain ⟨j, rfl, hj, HW⟩ := hrel
    rcases Nat.lt_or_ge j LT.length with hlt | hge
    ·obtain ⟨b2, rfl, hwb, hb2, d1⟩ := HC.out j hlt
     obtain ⟨t1, t2⟩ := HW.out.2.2 b2 rfl (by omega)
     have d1' : wr.cell? ⟨b2, j, none⟩ = some (.string ⟨LT[j].toArray⟩) := (World.cell?_of_block t1).trans d1
     have hd : decide ((j : Int) < (LT.length : Int)) = true := by rw [decide_eq_true_eq]; omega
     have hd' : decide (j < LT.length) = true := by rw [decide_eq_true_eq]; exact hlt
     have htk : LT.take (j + 1) = LT.take j ++ [LT[j]] := List.take_succ_eq_append_getElem hlt
     have HTK := Lib.hid htk
     have T1 := Lib.hid t1
     have T2 := Lib.hid t2
     clear htk d1 t1 t2
     obtain ⟨x, hx⟩ : ∃ x, LT[j] = x := ⟨_, rfl⟩
     rw [hx] at HTK d1'
     clear hx
     obtain ⟨qn, cn, en⟩ := HW.out.2.1.at0.slice
     rw [List.length_append, List.length_map, List.length_map, List.length_take, Nat.min_eq_left hj] at en
     subst en
     have hbr : b2 < wr.heap.size := lt_of_block (T1.out.trans (Array.getElem?_eq_getElem hb2))
     have hzr : w3.heap.size ≤ wr.heap.size := HW.out.1.le
     go_wp2_with fail
     refine (text_any _ _).mono ?_
     rintro e w6 ⟨rfl, e6⟩
     have HR6 := Lib.hid (own_ext HW.out.2.1 e6)
     have k6 := HW.out.1.trans e6
     obtain ⟨v7, w7, r7, o7, g7, l7⟩ := app_own (w6.alloc (.cells #[.int .i64 3, .int .i64 0, .string ⟨x.toArray⟩] 34)) 42 w3.heap.size w6.heap.size _ _ (tK ⟨x.toArray⟩) (Blk.new w6 _ _) (own_ext HR6.out ((Ext.refl w6).alloc _)) (by have := e6.le; rw [size_alloc]; omega) (by rw [List.length_append, List.length_map, List.length_map, List.length_take]; omega)
     have k7 : Ext w3 w7 := (k6.alloc _).grown g7 (fun z hz => (HR6.out.lt z hz).1)
     have h7 : w7.heap[b2]? = w5.heap[b2]? := (g7.block b2 (by rw [size_alloc]; have := e6.le; omega) (fun e => T2.out e.symm)).trans ((((Ext.refl w6).alloc _).block b2 (by have := e6.le; omega)).trans ((e6.block b2 hbr).trans T1.out))
     have h8 : v7.ownBlock ≠ some b2 := fun e => by
      rcases l7 with l7 | l7
      ·rw [l7] at e; exact T2.out e
      ·rw [l7, size_alloc] at e
       have := Option.some.inj e
       have := e6.le
       omega
     have HR7 := Lib.hid r7
     have HO7 := Lib.hid o7
     have K7 := Lib.hid (And.intro k7 (And.intro h7 h8))
     clear r7 o7 g7 l7 k6 k7 e6 HR6 h7 h8
     go_wp2_with (at_builtin; refine wpList_append_runs rfl _ _ 42 rfl _ _ _ _ rfl rfl HR7.out ?_)
     go_roundw
     case rel => exact ⟨j + 1, by go_num, by omega, Lib.hid ⟨K7.out.1, by rw [HTK.out, List.map_append, ← List.append_assoc]; exact HO7.out, fun b hb hwo => by
      have eb : b2 = b := by injection hb with e; injection e
      subst eb
      exact K7.out.2⟩⟩
     case measure => simp [intOf', Go.RowKit.intOf]; omega
    ·obtain rfl : j = LT.length := by omega
     have hd : decide ((LT.length : Int) < (LT.length : Int)) = false := by simp
     have HF := Lib.hid (show RowB wr w3.heap.size u8 (LI.map iK ++ LT.map fun l => tK ⟨l.toArray⟩) by have := HW.out.2.1; rwa [List.take_length] at this)
     have hw33 : w.heap.size ≤ w3.heap.size := K3.out.le
     go_wp2_with fail
     go_ret2
     exact ⟨u8, rfl, by (unfold keysL; rw [← HLI.out, ← HLT.out]; exact HF.out.lower hw33), K3.out.trans HW.out.1⟩
theorem keys_any (g : Nat) (tv : Value) (rs : List (Nat × Nat)) (H : Hp) (t : Vl) (w : World) (h : HeapIn w g tv rs H) (hlen : H.tabs.length ≤ 9223372036854775807) :
  Calls Tryz.prog 11 #[.pointer (some ⟨g, 0, none⟩), t.v] w fun e w' => ∃ v, e = .returned (.tuple #[v, .string (ofW H t)]) ∧ RowB w' w.heap.size v (keysV H t) ∧ Ext w w' := by
 unfold keysV
 by_cases hn : ofW H t = sNone
 ·rw [if_pos hn, hn]
  exact keys_tab g tv rs H t w h hlen hn
 ·rw [if_neg hn]
  exact (keys_why g tv rs H t w h hlen (fun hl => hn (toList_nil hl))).mono fun e w' ⟨h1, h2⟩ => ⟨_, h1, World.ownsRow_nil _ _ _ _, h2⟩
end Go.Proofs.YtlfihdcgbhdajaaGreatDoor
namespace Go.Proofs.YtlfihdcgbhdajaaGreatDoor
open Go.RowKit
set_option linter.unusedVariables false
set_option linter.unusedSimpArgs false

def lessS (s t : ByteArray) : Bool := Op.bytesLess s.toList t.toList
theorem drop_cons (s : ByteArray) (k : Nat) (h : k < s.size) : s.data.toList.drop k = s[k] :: s.data.toList.drop (k + 1) := by
 have h' : k < s.data.toList.length := by simpa using h
 rw [List.drop_eq_getElem_cons h']; rfl
theorem drop_all (s : ByteArray) (k : Nat) (h : s.size ≤ k) : s.data.toList.drop k = [] := List.drop_eq_nil_of_le (by simpa using h)
def leftS (s t : ByteArray) (k : Nat) : Bool := Op.bytesLess (s.data.toList.drop k) (t.data.toList.drop k)
theorem left_zero (s t : ByteArray) : leftS s t 0 = lessS s t := by simp [leftS, lessS, Lib.toList_data]
theorem left_same {s t : ByteArray} {k : Nat} (h : k < s.size) (h' : k < t.size) (e : s[k] = t[k]) : leftS s t k = leftS s t (k + 1) := by
 unfold leftS; rw [drop_cons s k h, drop_cons t k h', Op.bytesLess, e]; simp
theorem left_other {s t : ByteArray} {k : Nat} (h : k < s.size) (h' : k < t.size) (e : ¬ s[k] = t[k]) : leftS s t k = decide (s[k].toNat < t[k].toNat) := by
 unfold leftS; rw [drop_cons s k h, drop_cons t k h', Op.bytesLess]; simp [e, UInt8.lt_iff_toNat_lt]
theorem left_end {s t : ByteArray} {k : Nat} (hs : k ≤ s.size) (ht : k ≤ t.size) (h : k = s.size ∨ k = t.size) : leftS s t k = decide (s.size < t.size) := by
 unfold leftS
 by_cases h1 : k < s.size
 ·have : k = t.size := by omega
  rw [drop_all t k (by omega), drop_cons s k h1]
  simp [Op.bytesLess]; omega
 ·rw [drop_all s k (by omega)]
  by_cases h2 : k < t.size
  ·rw [drop_cons t k h2]; simp [Op.bytesLess]; omega
  ·rw [drop_all t k (by omega)]; simp [Op.bytesLess]; omega
theorem rless_any (s t : ByteArray) (w : World) (hs : s.size ≤ 9223372036854775807) (ht : t.size ≤ 9223372036854775807) :
  Calls Tryz.prog 45 #[.string s, .string t] w fun e w' => e = .returned (.bool (lessS s t)) ∧ ∃ n, w' = w.drewN n := by
 go_enter Tryz.func45, Tryz.ntmps45
 go_wp2
 go_loopw [5] (fun i wr => ∃ k : Nat, k ≤ s.size ∧ k ≤ t.size ∧ i = .int .i64 k ∧ (∃ n, wr = w.drewN n) ∧ Hid (leftS s t k = lessS s t)) (fun i _ => s.size - (intOf i).toNat)
 case atStart => exact ⟨0, Nat.zero_le _, Nat.zero_le _, rfl, ⟨0, rfl⟩, left_zero s t⟩
 case round =>
  obtain ⟨k, hk, hk', rfl, ⟨n, rfl⟩, H⟩ := hrel
  by_cases h1 : k < s.size
  ·by_cases h2 : k < t.size
   ·by_cases h3 : s[k] = t[k]
    ·go_wp2
     go_quiet (fail)
     go_wp2
     go_roundw
     case rel => exact ⟨k + 1, h1, h2, by go_num, ⟨_, rfl⟩, (left_same h1 h2 h3).symm.trans H.out⟩
     case measure => simp [intOf]; omega
    ·have hne : ((s[k].toNat : Int) != (t[k].toNat : Int)) = true := by
      rw [bne_iff_ne]; intro e; exact h3 (UInt8.toNat_inj.1 (by omega))
     go_wp2
     go_quiet (fail)
     go_wp2
     go_quiet (fail)
     go_wp2
     go_ret
     go_tidy
     exact ⟨ret_of (bool_eq (by rw [← H.out, left_other h1 h2 h3])), ⟨_, by rw [World.drewN_drewN, World.drewN_drewN]⟩⟩
   ·go_wp2
    go_ret
    exact ⟨ret_of (bool_eq (by rw [← H.out, left_end hk hk' (by omega)])), ⟨_, rfl⟩⟩
  ·go_wp2
   go_ret
   exact ⟨ret_of (bool_eq (by rw [← H.out, left_end hk hk' (by omega)])), ⟨_, rfl⟩⟩
theorem bytesLess_lt : ∀ s t : List UInt8, Op.bytesLess s t = decide (s < t)
 | [], [] => by simp [Op.bytesLess]
 | [], y :: t => by simp [Op.bytesLess]
 | x :: s, [] => by simp [Op.bytesLess]
 | x :: s, y :: t => by
  have ih := bytesLess_lt s t
  simp only [Op.bytesLess, ih, List.cons_lt_cons_iff]
  by_cases h1 : x < y
  ·simp [h1]
  ·by_cases h2 : x = y
   ·simp [h2]
   ·simp [h1, h2]
theorem lessS_le (s t : ByteArray) : lessS s t = !decide (t.data.toList ≤ s.data.toList) := by
 unfold lessS
 rw [Lib.toList_data, Lib.toList_data, bytesLess_lt]
 rw [Bool.eq_iff_iff]
 simp only [decide_eq_true_eq, Bool.not_eq_true', decide_eq_false_iff_not]
 exact List.not_le.symm
theorem leK_lt {a b : Vl} (h : a.k < b.k) : leK b a = false := by
 unfold leK
 rw [Bool.or_eq_false_iff, Bool.and_eq_false_iff]
 exact ⟨decide_eq_false (by omega), .inl (decide_eq_false (by omega))⟩
theorem leK_gt {a b : Vl} (h : b.k < a.k) : leK b a = true := by
 unfold leK
 rw [Bool.or_eq_true]
 exact .inl (decide_eq_true h)
theorem leK_num {a b : Vl} (h : a.k = b.k) (h2 : a.k = 2) : leK b a = decide (b.n ≤ a.n) := by
 unfold leK
 rw [if_pos (by omega), decide_eq_false (by omega : ¬ b.k < a.k), decide_eq_true h.symm]
 simp
theorem leK_txt {a b : Vl} (h : a.k = b.k) (h3 : a.k = 3) : leK b a = !lessS a.s b.s := by
 unfold leK
 rw [if_neg (by omega), decide_eq_false (by omega : ¬ b.k < a.k), decide_eq_true h.symm, lessS_le]
 simp
theorem app_part (W : World) (ty : TypeId) (B : Nat) (kv : Value) (ks ns : List Vl) (p : Option Addr) (m c : Nat) (hm : m = ns.length) (hc : m = 0 ∨ ∃ b o, p = some ⟨b, o, none⟩ ∧ ∀ j u, (flat ns)[j]? = some u → W.cell? ⟨b, o + j, none⟩ = some u)
  (hp : p = none → c = 0) (h : RowB W B kv ks) (hB : B ≤ W.heap.size) (hn : ks.length + ns.length < 1000000) :
  ∃ v' w', AppRuns Tryz.prog 42 ty kv (.slice p m c) W v' w' ∧ RowB w' B v' (ks ++ ns) ∧ W.grownBy w' kv.ownBlock ∧ (v'.ownBlock = kv.ownBlock ∨ v'.ownBlock = some W.heap.size) := by
 obtain ⟨i0, hi, hz0, hz1, hz2⟩ := info_parts infoVal
 cases p with
 | none =>
  have hm0 : m = 0 := by
   rcases hc with h | ⟨b, o, e, _⟩
   ·exact h
   ·cases e
  have hc0 := hp rfl
  subst hm0 hc0
  have hns : ns = [] := List.eq_nil_of_length_eq_zero hm.symm
  subst hns
  rw [List.append_nil]
  exact ⟨kv, W, ⟨run_append_owned_none (P := Tryz.prog) W B 42 ty 34 i0 3 Tryz.underlying42 hi kv ks.length (flat ks) h⟩, h, World.grownBy.refl W _, .inl rfl⟩
 | some a =>
  have hfl : (flat ns).length = m * 3 := by rw [flat_len, hm]
  obtain ⟨v', w', h1, h2, h3, _, h4⟩ := run_append_own_at (P := Tryz.prog) (w := W) B 42 ty 34 i0 Vl.zero.v 3 32 Tryz.underlying42 hi hz0 hz1 hz2 rfl (by omega) kv ks.length (flat ks) h a m c
   (flat ns) hfl (fun j u hu => by
    rcases hc with h0 | ⟨b, o, e, hcell⟩
    ·have : (flat ns).length = 0 := by rw [hfl, h0]
     rw [List.getElem?_eq_none (by omega)] at hu
     cases hu
    ·cases e
     have hadd : (⟨b, o, none⟩ : Addr).add j = ⟨b, o + j, none⟩ := by unfold Addr.add; split <;> simp_all
     rw [hadd]
     exact hcell j u hu) (by
    intro u hu
    obtain ⟨x, _, hx⟩ := List.mem_flatMap.1 hu
    simp at hx
    rcases hx with rfl | rfl | rfl <;> rfl) (by unfold maxLen; omega) (by omega) hB
  exact ⟨v', w', ⟨h1⟩, by (show w'.ownsRow B 34 3 v' (ks ++ ns).length (flat (ks ++ ns))); rw [show flat (ks ++ ns) = flat ks ++ flat ns by simp [flat], List.length_append]; rw [← hm]; exact h2, h3, h4⟩
end Go.Proofs.YtlfihdcgbhdajaaGreatDoor
namespace Go.Proofs.YtlfihdcgbhdajaaGreatDoor
open Go.RowKit
set_option linter.unusedVariables false
set_option linter.unusedSimpArgs false

set_option maxRecDepth 100000 in
theorem rkeys_why (g : Nat) (tv : Value) (H : Hp) (t : Vl) (w : World) (h : RHeapIn w g tv H) (hlen : H.tabs.length ≤ 9223372036854775807) (hn : ¬ (ofW H t).toList = []) :
  Calls Tryz.prog 13 #[.pointer (some ⟨g, 0, none⟩), t.v] w fun e w' => e = .returned (.tuple #[.slice none 0 0, .string (ofW H t)]) ∧ Ext w w' := by
 have ho := fun W hW => rof_any g tv H t W hW hlen
 have hn' : (ofW H t).toList.isEmpty = false := by simpa using hn
 have HI := Lib.hid h
 clear h
 generalize ofW H t = o at *
 go_enter Tryz.func13, Tryz.ntmps13
 go_wp2_with fail
 refine (ho _ (HI.out.ext ((Ext.refl w).alloc _))).mono ?_
 rintro e w1 ⟨rfl, e1⟩
 have k1 := ((Ext.refl w).alloc _).trans e1
 go_wp2_with fail
 go_ret2
 exact ⟨rfl, by repeat (first | exact k1 | refine Ext.alloc ?_ _ | refine Ext.setCell ?_ (by simp <;> omega) _)⟩
theorem KOk.size {k : Vl} (h : KOk k) : k.s.size ≤ 1048576 := by
 have hc := h.ck
 unfold Vl.ck checkB at hc
 rcases h.kind with h2 | h3
 ·simp [h2] at hc
  rw [show k.s = sNone from toList_nil (by first | exact hc | simpa using hc)]
  decide
 ·simp [h3] at hc
  exact hc.2
theorem row_nil {w : World} {B : Nat} {q : Option Addr} {n c : Nat} {l : List Vl} (h : RowB w B (.slice q n c) l) (hq : q = none) : c = 0 := by
 subst hq
 rcases h.2 with ⟨e, _⟩ | ⟨g, cap, cur, e, _⟩
 ·injection e
 ·injection e with e _ _
  cases e
theorem row_part {w : World} {B : Nat} {q : Option Addr} {n c : Nat} {l : List Vl} (h : RowB w B (.slice q n c) l) (P : Nat) (hP : P ≤ l.length) :
  l.length ≤ c ∧ ∀ w' : World, (∀ k, k < w.heap.size → w'.heap[k]? = w.heap[k]?) →
   (P = 0 ∨ ∃ b o, q = some ⟨b, o, none⟩ ∧ ∀ j u, (flat (l.take P))[j]? = some u → w'.cell? ⟨b, o + j, none⟩ = some u) ∧
   (l.length - P = 0 ∨ ∃ b o, q = some ⟨b, o, none⟩ ∧ ∀ j u, (flat (l.drop P))[j]? = some u → w'.cell? ⟨b, o + P * 3 + j, none⟩ = some u) := by
 have hsplit : flat l = flat (l.take P) ++ flat (l.drop P) := by
  unfold flat
  rw [← List.flatMap_append, List.take_append_drop]
 rcases h.2 with ⟨e, h0⟩ | ⟨g, cap, cur, e, hb, hc, h2, h3, h4, h5⟩
 ·refine ⟨by omega, fun w' _ => ⟨.inl (by omega), .inl (by omega)⟩⟩
 ·injection e with e1 e2 e3
  subst e1 e3
  refine ⟨h2, fun w' hw => ?_⟩
  have hc' := (hw g (lt_of_block hc)).trans hc
  have cell : ∀ j u, (flat l)[j]? = some u → w'.cell? ⟨g, j, none⟩ = some u := fun j u hu => by
   rw [cell_of_row w' g _ cur _ (0, 0) hc']
   rw [← h5, List.getElem?_take] at hu
   split at hu
   ·simpa using hu
   ·cases hu
  refine ⟨.inr ⟨g, 0, rfl, fun j u hu => ?_⟩, .inr ⟨g, 0, rfl, fun j u hu => ?_⟩⟩
  ·rw [Nat.zero_add]
   refine cell j u ?_
   rw [hsplit, List.getElem?_append_left (List.getElem?_eq_some_iff.1 hu).1]
   exact hu
  ·rw [Nat.zero_add]
   refine cell _ u ?_
   have hl : (flat (l.take P)).length = P * 3 := by rw [flat_len, List.length_take]; congr 1; omega
   rw [hsplit, List.getElem?_append_right (by omega), hl, Nat.add_sub_cancel_left]
   exact hu
def sofar (L : Tb) (j : Nat) : List Vl := ((L.take j).map (·.1)).foldl (fun out k => insK k out) []
theorem sofar_succ {L : Tb} {j : Nat} (h : j < L.length) : sofar L (j + 1) = insK L[j].1 (sofar L j) := by
 unfold sofar
 rw [List.take_succ_eq_append_getElem h, List.map_append, List.foldl_append]
 rfl
theorem sofar_len (L : Tb) : ∀ j, j ≤ L.length → (sofar L j).length = j
 | 0, _ => by simp [sofar]
 | j + 1, h => by
  rw [sofar_succ h, (insK_perm _ _).length_eq, List.length_cons, sofar_len L j (by omega)]
theorem sofar_ok {L T : Tb} (h : TRow L T) (hT : TbOk T) (j : Nat) : ∀ x ∈ sofar L j, KOk x := by
 intro x hx
 have hp := (keysR_spec ((L.take j).map (·.1)) [] List.Pairwise.nil).1
 rw [List.append_nil] at hp
 have hm := hp.mem_iff.1 hx
 obtain ⟨y, hy, rfl⟩ := List.mem_map.1 hm
 have hk : y.1 ∈ L.map (·.1) := List.mem_map_of_mem (List.mem_of_mem_take hy)
 obtain ⟨z, hz, e⟩ := List.mem_map.1 ((h.keys hT).mem_iff.1 hk)
 rw [← e]
 exact hT.key z hz
set_option maxRecDepth 100000 in
set_option maxHeartbeats 4000000 in
theorem rkeys_tab (g : Nat) (tv : Value) (H : Hp) (t : Vl) (w : World) (h : RHeapIn w g tv H) (hlen : H.tabs.length ≤ 9223372036854775807) (hn : ofW H t = sNone) :
  Calls Tryz.prog 13 #[.pointer (some ⟨g, 0, none⟩), t.v] w fun e w' => ∃ v, e = .returned (.tuple #[v, .string sNone]) ∧ RowB w' w.heap.size v (keysL (tabOf H t)) ∧ Ext w w' := by
 have ho := fun W hW => rof_any g tv H t W hW hlen
 obtain ⟨o1, o2, o3, o4, o5⟩ := ofW_none hn
 have hnn : rofN H t = t.n := by unfold rofN; rw [if_pos hn]
 rw [hnn, hn] at ho
 have HT := Lib.hid (tabOf_get o5)
 have hTb := tabOf_ok h.ok o5
 have hmost := hTb.most
 have HTb := Lib.hid hTb
 have hs0 := sNone_list
 have hs1 : sNone.toList.isEmpty = true := by rw [hs0]; rfl
 have HI := Lib.hid h
 obtain ⟨T, hT⟩ : ∃ T, T = tabOf H t := ⟨_, rfl⟩
 rw [← hT] at HT HTb hmost ⊢
 clear hn hnn hTb h hT
 obtain ⟨tk0, i, ts⟩ := t
 simp only at o1 o2 o3 o4 o5 HT ho
 obtain ⟨i, rfl⟩ : ∃ j : Nat, i = j := ⟨i.toNat, by omega⟩
 subst o2
 rw [Int.toNat_natCast] at HT o5
 go_enter Tryz.func13, Tryz.ntmps13
 go_wp2_with fail
 refine (ho _ (HI.out.ext ((Ext.refl w).alloc _))).mono ?_
 rintro e w1 ⟨rfl, e1⟩
 have k1 := ((Ext.refl w).alloc _).trans e1
 obtain ⟨rows, hrow, hrl, hrt⟩ := (HI.out.ext k1).rows
 have hir : i < rows.length := by omega
 obtain ⟨r, hr⟩ : ∃ r, rows[i]? = some r := ⟨_, List.getElem?_eq_getElem hir⟩
 obtain ⟨gb, cap, e0, hgb, c1, c2⟩ := rrow_cells hrow i _ hr
 obtain ⟨L, l1, l2, l3⟩ := hrt i _ _ hr HT.out
 have hcl := l1.count
 obtain ⟨qk, ck, ek⟩ := l2.slice
 have c0 : w1.cell? ⟨g, 0, none⟩ = some tv := (HI.out.ext k1).head.cell 0
 rw [List.length_map] at ek
 rw [ek] at c1 l2
 rw [e0] at c0
 have L1 := Lib.hid l1
 have L2 := Lib.hid l2
 have hgl : g < w1.heap.size := (HI.out.ext k1).head.lt
 have hw1 : w.heap.size ≤ w1.heap.size := k1.le
 have K1 := Lib.hid k1
 have CC := Lib.hid (And.intro c0 c1)
 have hLl : L.length ≤ 65536 := by omega
 have hb1 : (i : Int) < (H.tabs.length : Int) := by omega
 clear ho e1 hrow hrl hrt hir hr e0 l1 l2 l3 ek c0 c1 c2 k1 o1 o3 o4 hlen
 go_wp2_with fail
 go_loopw [8, 9] (fun ov x wr => ∃ j : Nat, x = .int .i64 j ∧ j ≤ L.length ∧ Hid (Ext w1 wr ∧ RowB wr w1.heap.size ov (sofar L j))) (fun _ x _ => L.length - (intOf x).toNat)
 case atStart => exact ⟨0, rfl, Nat.zero_le _, Lib.hid ⟨Ext.refl _, World.ownsRow_nil _ _ _ _⟩⟩
 case round =>
  obtain ⟨j, rfl, hj, HW⟩ := hrel
  have y0 := (HW.out.1.cells.1 _ _ hgl).trans CC.out.1
  have y1 := (HW.out.1.cells.1 _ _ hgb).trans CC.out.2
  rcases Nat.lt_or_ge j L.length with hlt | hge
  ·obtain ⟨bk, capk, ek, hbk, d1, d2, d3⟩ := L2.out.cells j L[j].1 (by simp [List.getElem?_map, List.getElem?_eq_getElem hlt])
   rw [List.length_map] at ek
   obtain ⟨rfl, rfl⟩ : qk = some ⟨bk, 0, none⟩ ∧ ck = capk := by injection ek with h1 _ h3; exact ⟨h1, h3⟩
   replace d1 := (HW.out.1.cells.1 _ _ hbk).trans d1
   replace d2 := (HW.out.1.cells.1 _ _ hbk).trans d2
   replace d3 := (HW.out.1.cells.1 _ _ hbk).trans d3
   have hd : decide ((j : Int) < (L.length : Int)) = true := by rw [decide_eq_true_eq]; omega
   have hd' : decide (j < L.length) = true := by rw [decide_eq_true_eq]; exact hlt
   have hsuc := sofar_succ hlt
   have hkok : KOk L[j].1 := by
    have hk : L[j].1 ∈ L.map (·.1) := List.mem_map_of_mem (List.getElem_mem hlt)
    obtain ⟨z, hz, e⟩ := List.mem_map.1 ((L1.out.keys HTb.out).mem_iff.1 hk)
    rw [← e]
    exact HTb.out.key z hz
   obtain ⟨x, hx⟩ : ∃ x, L[j].1 = x := ⟨_, rfl⟩
   rw [hx] at d1 d2 d3 hsuc hkok
   have HSU := Lib.hid hsuc
   have HKO := Lib.hid hkok
   clear hsuc hkok hx ek
   obtain ⟨O, hO⟩ : ∃ O, O = sofar L j := ⟨_, rfl⟩
   have hOl : O.length = j := by rw [hO]; exact sofar_len L j hj
   have hOk : ∀ x ∈ O, KOk x := by rw [hO]; exact sofar_ok L1.out HTb.out j
   rw [← hO] at HW HSU
   have HOK := Lib.hid hOk
   clear hO hOk
   have HE := Lib.hid HW.out.1
   have HR := Lib.hid HW.out.2
   clear HW
   obtain ⟨qo, co, eo⟩ := HR.out.at0.slice
   subst eo
   rw [hOl] at HR ⊢
   obtain ⟨xk, xn, xs⟩ := x
   simp only at d1 d2 d3
   have hzr : w1.heap.size ≤ wr.heap.size := HE.out.le
   go_upto_block 2 with (fail)
   obtain ⟨W8, hW8⟩ : ∃ W8, W8 = wr.alloc (.cells #[.int .i64 xk, .int .i64 xn, .string xs] 34) := ⟨_, rfl⟩
   have hE8 : Ext wr W8 := by rw [hW8]; exact (Ext.refl wr).alloc _
   have z8 : W8.heap.size = wr.heap.size + 1 := by rw [hW8, size_alloc]
   have b0 : W8.cell? ⟨wr.heap.size, 0, none⟩ = some (.int .i64 xk) := by rw [hW8]; simp
   have b1 : W8.cell? ⟨wr.heap.size, 1, none⟩ = some (.int .i64 xn) := by rw [hW8]; simp
   have b2 : W8.cell? ⟨wr.heap.size, 2, none⟩ = some (.string xs) := by rw [hW8]; simp
   have BB := Lib.hid (And.intro b0 (And.intro b1 b2))
   have HK8 : Hid (Blk W8 wr.heap.size 34 #[.int .i64 xk, .int .i64 xn, .string xs]) := Lib.hid (by rw [hW8]; exact Blk.new _ _ _)
   have HR8 : Hid (RowB W8 w1.heap.size (.slice qo (j : Nat) co) O) := Lib.hid (own_ext HR.out hE8)
   have HE8 := Lib.hid (HE.out.trans hE8)
   have hOj : O.length = j := hOl
   have HOJ := Lib.hid hOl
   clear b0 b1 b2 hE8 d1 d2 d3 y0 y1 hd hd' hOl hOj
   rw [← hW8]
   clear hW8
   go_cut [11] (fun s11 wx => s11 = .int .i64 (posK ⟨xk, xn, xs⟩ O j : Nat) ∧ Hid (wx.heap = W8.heap ∧ Ext w1 wx))
   case first =>
    go_wp2_with fail
    go_loopw [11] (fun x wi => ∃ a : Nat, x = .int .i64 a ∧ a ≤ j ∧ Hid (posK ⟨xk, xn, xs⟩ O j = posK ⟨xk, xn, xs⟩ O a) ∧ Hid (wi.heap = W8.heap ∧ Ext w1 wi)) (fun x _ => (intOf x).toNat)
    case atStart => exact ⟨j, rfl, Nat.le_refl _, Lib.hid rfl, Lib.hid ⟨rfl, HE8.out⟩⟩
    case round =>
     obtain ⟨a, rfl, ha, HP, HX⟩ := hrel
     obtain ⟨b0, b1, b2⟩ := BB.out
     rw [← (heap_cell HX.out.1 _).1] at b0 b1 b2
     cases a with
     | zero =>
      go_wp2_with fail
      go_quiet (fail)
      go_wp2_with fail
      go_meet
      exact ⟨by rw [HP.out]; rfl, Lib.hid ⟨HX.out.1, HX.out.2.drewN _⟩⟩
     | succ a =>
      obtain ⟨o, ho⟩ : ∃ o, O[a]? = some o := ⟨_, List.getElem?_eq_getElem (by rw [HOJ.out]; omega)⟩
      obtain ⟨bo, capo, eo, hbo, f1, f2, f3⟩ := HR8.out.at0.cells a o ho
      rw [HOJ.out] at eo
      obtain ⟨rfl, rfl⟩ : qo = some ⟨bo, 0, none⟩ ∧ co = capo := by injection eo with h1 _ h3; exact ⟨h1, h3⟩
      rw [← (heap_cell HX.out.1 _).1] at f1 f2 f3
      have hgd : O.getD a Vl.zero = o := by rw [List.getD_eq_getElem?_getD, ho]; rfl
      have hk1 := HOK.out o (List.mem_of_getElem? ho)
      have hk2 := HKO.out
      have hz1 : IntKind.i64.wrap ((a : Int) + 1 - 1) = a := by rw [IntWalk.i64_in _ (by omega)]; omega
      have hz2 : decide ((0 : Int) < (a : Int) + 1) = true := by rw [decide_eq_true_eq]; omega
      obtain ⟨ok, on, os⟩ := o
      simp only at f1 f2 f3
      have HPn : Hid (posK ⟨xk, xn, xs⟩ O (a + 1) = if leK ⟨ok, on, os⟩ ⟨xk, xn, xs⟩ then a + 1 else posK ⟨xk, xn, xs⟩ O a) := Lib.hid (by rw [posK, hgd])
      have hr1 : ok = 2 ∨ ok = 3 := hk1.kind
      have hr2 : xk = 2 ∨ xk = 3 := hk2.kind
      have hin : (a : Int) < (j : Int) := by omega
      have hzx : xs.size ≤ 9223372036854775807 := by have := KOk.size hk2; simp only at this; omega
      have hzo : os.size ≤ 9223372036854775807 := by have := KOk.size hk1; simp only at this; omega
      clear eo hgd ho hk1 hk2
      rcases hr1 with rfl | rfl <;> rcases hr2 with rfl | rfl
      ·by_cases hq : xn < on
       ·have HLE : Hid (leK ⟨2, on, os⟩ ⟨2, xn, xs⟩ = false) := Lib.hid (by rw [leK_num (a := ⟨2, xn, xs⟩) (b := ⟨2, on, os⟩) rfl rfl]; exact decide_eq_false (by show ¬ on ≤ xn; omega))
        go_wp2_with fail
        go_quiet (fail)
        go_wp2_with fail
        go_roundw
        case rel => exact ⟨a, by go_num, by omega, Lib.hid (by rw [HP.out, HPn.out, if_neg (by rw [HLE.out]; decide)]), Lib.hid ⟨HX.out.1, HX.out.2.drewN _⟩⟩
        case measure => simp [intOf]
       ·have HLE : Hid (leK ⟨2, on, os⟩ ⟨2, xn, xs⟩ = true) := Lib.hid (by rw [leK_num (a := ⟨2, xn, xs⟩) (b := ⟨2, on, os⟩) rfl rfl]; exact decide_eq_true (by show on ≤ xn; omega))
        have hq2 : decide (xn < on) = false := decide_eq_false hq
        go_wp2_with fail
        go_quiet (fail)
        go_wp2_with fail
        go_meet
        exact ⟨by first | (rw [HP.out, HPn.out, if_pos HLE.out]; done) | (rw [HP.out, HPn.out, if_pos HLE.out]; rfl), Lib.hid ⟨HX.out.1, HX.out.2.drewN _⟩⟩
      ·have HLE : Hid (leK ⟨2, on, os⟩ ⟨3, xn, xs⟩ = true) := Lib.hid (by exact leK_gt (a := ⟨3, xn, xs⟩) (b := ⟨2, on, os⟩) (show (2 : Int) < 3 by decide))
       go_wp2_with fail
       go_quiet (fail)
       go_wp2_with fail
       go_meet
       exact ⟨by first | (rw [HP.out, HPn.out, if_pos HLE.out]; done) | (rw [HP.out, HPn.out, if_pos HLE.out]; rfl), Lib.hid ⟨HX.out.1, HX.out.2.drewN _⟩⟩
      ·have HLE : Hid (leK ⟨3, on, os⟩ ⟨2, xn, xs⟩ = false) := Lib.hid (by exact leK_lt (a := ⟨2, xn, xs⟩) (b := ⟨3, on, os⟩) (show (2 : Int) < 3 by decide))
       go_wp2_with fail
       go_quiet (fail)
       go_wp2_with fail
       go_roundw
       case rel => exact ⟨a, by go_num, by omega, Lib.hid (by rw [HP.out, HPn.out, if_neg (by rw [HLE.out]; decide)]), Lib.hid ⟨HX.out.1, HX.out.2.drewN _⟩⟩
       case measure => simp [intOf]
      ·rcases hq : lessS xs os with _ | _
       ·have HLE : Hid (leK ⟨3, on, os⟩ ⟨3, xn, xs⟩ = true) := Lib.hid (by rw [leK_txt (a := ⟨3, xn, xs⟩) (b := ⟨3, on, os⟩) rfl rfl, hq]; rfl)
        have hless : ∀ W, Calls Tryz.prog 45 #[.string xs, .string os] W fun e w2 => e = .returned (.bool false) ∧ ∃ n, w2 = W.drewN n := fun W => by rw [← hq]; exact rless_any xs os W hzx hzo
        clear hq
        go_wp2_with fail
        go_quiet ((go_at_call 45; exact Calls.quiet_of (hless _)))
        go_wp2_with fail
        go_meet
        exact ⟨by first | (rw [HP.out, HPn.out, if_pos HLE.out]; done) | (rw [HP.out, HPn.out, if_pos HLE.out]; rfl), Lib.hid ⟨HX.out.1, HX.out.2.drewN _⟩⟩
       ·have HLE : Hid (leK ⟨3, on, os⟩ ⟨3, xn, xs⟩ = false) := Lib.hid (by rw [leK_txt (a := ⟨3, xn, xs⟩) (b := ⟨3, on, os⟩) rfl rfl, hq]; rfl)
        have hless : ∀ W, Calls Tryz.prog 45 #[.string xs, .string os] W fun e w2 => e = .returned (.bool true) ∧ ∃ n, w2 = W.drewN n := fun W => by rw [← hq]; exact rless_any xs os W hzx hzo
        clear hq
        go_wp2_with fail
        go_quiet ((go_at_call 45; exact Calls.quiet_of (hless _)))
        go_wp2_with fail
        go_roundw
        case rel => exact ⟨a, by go_num, by omega, Lib.hid (by rw [HP.out, HPn.out, if_neg (by rw [HLE.out]; decide)]), Lib.hid ⟨HX.out.1, HX.out.2.drewN _⟩⟩
        case measure => simp [intOf]
   case rest =>
    obtain ⟨rfl, HC⟩ := hcut
    obtain ⟨wx, rfl⟩ : ∃ wx : World, wx = wc := ⟨_, rfl⟩
    obtain ⟨P, hP⟩ : ∃ P, P = posK ⟨xk, xn, xs⟩ O j := ⟨_, rfl⟩
    have hPj : P ≤ j := by rw [hP]; exact posK_le _ _ _
    rw [← hP]
    have hPP := Lib.hid hP
    clear hP
    go_upto_region 12 with (fail)
    have hz8 : wx.heap.size = wr.heap.size + 1 := by rw [HC.out.1]; exact z8
    have hx1 : w1.heap.size ≤ wx.heap.size := HC.out.2.le
    have HRx : Hid (RowB wx w1.heap.size (.slice qo (j : Nat) co) O) := Lib.hid (own_of_heap HR8.out fun k _ _ => by rw [HC.out.1])
    have kB : Blk wx wr.heap.size 34 #[.int .i64 xk, .int .i64 xn, .string xs] := by
     unfold Blk
     rw [HC.out.1]
     exact HK8.out
    have b0 : wx.cell? ⟨wr.heap.size, 0, none⟩ = some (.int .i64 xk) := kB.cell 0
    have b1 : wx.cell? ⟨wr.heap.size, 1, none⟩ = some (.int .i64 xn) := kB.cell 1
    have b2 : wx.cell? ⟨wr.heap.size, 2, none⟩ = some (.string xs) := kB.cell 2
    obtain ⟨hco, hsrc⟩ := row_part HRx.out P (by rw [HOJ.out]; exact hPj)
    have hPco : P ≤ co := by have := HOJ.out; omega
    have hPcoI : (P : Int) ≤ (co : Int) := by omega
    have hlenO : (O.take P).length = P := by rw [List.length_take, HOJ.out]; omega
    have hqo : qo = none → co = 0 := row_nil HRx.out
    obtain ⟨vA1, wA1, rA1, oA1, gA1, lA1⟩ := app_part wx.drew 42 wx.heap.size (.slice none 0 0) [] (O.take P) qo P co hlenO.symm (hsrc wx.drew (fun k _ => rfl)).1 hqo (World.ownsRow_nil _ _ _ _) (Nat.le_refl _) (by rw [hlenO]; simp; omega)
    have eA1 : Ext wx wA1 := Ext.grown (Ext.refl wx).drew gA1 (fun z hz => by simp [Value.ownBlock] at hz)
    obtain ⟨vA2, wA2, rA2, oA2, gA2, lA2⟩ := app_own (wA1.alloc (.cells #[.int .i64 xk, .int .i64 xn, .string xs] 34)) 42 wx.heap.size wA1.heap.size vA1 (O.take P) ⟨xk, xn, xs⟩ (Blk.new wA1 _ _) (own_ext oA1 ((Ext.refl wA1).alloc _)) (by rw [size_alloc]; have := eA1.le; omega) (by omega)
    have eA2 : Ext wx wA2 := (eA1.alloc _).grown gA2 (fun z hz => (oA1.lt z hz).1)
    have eB0 : Ext wx (wx.alloc (.cells #[.int .i64 xk, .int .i64 xn, .string xs] 34)).drew := ((Ext.refl wx).alloc _).drew
    obtain ⟨vB1, wB1, rB1, oB1, gB1, lB1⟩ := app_part (wx.alloc (.cells #[.int .i64 xk, .int .i64 xn, .string xs] 34)).drew 42 wx.heap.size (.slice none 0 0) [] (O.take P) qo P co hlenO.symm (hsrc (wx.alloc (.cells #[.int .i64 xk, .int .i64 xn, .string xs] 34)).drew (fun k hk => eB0.block k hk)).1 hqo (World.ownsRow_nil _ _ _ _) eB0.le (by rw [hlenO]; simp; omega)
    have eB1 : Ext wx wB1 := Ext.grown eB0 gB1 (fun z hz => by simp [Value.ownBlock] at hz)
    obtain ⟨vB2, wB2, rB2, oB2, gB2, lB2⟩ := app_own wB1 42 wx.heap.size wx.heap.size vB1 (O.take P) ⟨xk, xn, xs⟩ ((Blk.new wx 34 _).drew.grown gB1 (fun z hz => by simp [Value.ownBlock] at hz)) oB1 eB1.le (by omega)
    have eB2 : Ext wx wB2 := eB1.grown gB2 (fun z hz => (oB1.lt z hz).1)
    have hkb : wr.heap.size < wx.heap.size := by omega
    have bA0 : wA1.cell? ⟨wr.heap.size, 0, none⟩ = some (.int .i64 xk) := (eA1.cells.1 _ _ hkb).trans b0
    have bA1 : wA1.cell? ⟨wr.heap.size, 1, none⟩ = some (.int .i64 xn) := (eA1.cells.1 _ _ hkb).trans b1
    have bA2 : wA1.cell? ⟨wr.heap.size, 2, none⟩ = some (.string xs) := (eA1.cells.1 _ _ hkb).trans b2
    have bB0 : wB1.cell? ⟨wr.heap.size, 0, none⟩ = some (.int .i64 xk) := (eB1.cells.1 _ _ hkb).trans b0
    have bB1 : wB1.cell? ⟨wr.heap.size, 1, none⟩ = some (.int .i64 xn) := (eB1.cells.1 _ _ hkb).trans b1
    have bB2 : wB1.cell? ⟨wr.heap.size, 2, none⟩ = some (.string xs) := (eB1.cells.1 _ _ hkb).trans b2
    obtain ⟨qA, cA, eA⟩ := oA2.at0.slice
    obtain ⟨qB, cB, eB⟩ := oB2.at0.slice
    rw [List.length_append, hlenO] at eA eB
    replace eA : vA2 = .slice qA (P + 1) cA := eA
    replace eB : vB2 = .slice qB (P + 1) cB := eB
    subst eA eB
    have RA1 := Lib.hid rA1
    have RA2 := Lib.hid rA2
    have RB1 := Lib.hid rB1
    have RB2 := Lib.hid rB2
    have OA := Lib.hid (And.intro eA2 oA2)
    have OB := Lib.hid (And.intro eB2 oB2)
    have HSR := Lib.hid hsrc
    have HQO := Lib.hid hqo
    clear hz8 hkb hlenO hco hx1 rA1 rA2 rB1 rB2 oA1 oA2 oB1 oB2 gA1 gA2 gB1 gB2 lA1 lA2 lB1 lB2 eA1 eA2 eB0 eB1 eB2 hsrc hqo kB
    go_cut [12] (fun s12 wy => ∃ q c, s12 = .slice q (P + 1 : Nat) c ∧ Hid (Ext wx wy ∧ RowB wy wx.heap.size (.slice q (P + 1 : Nat) c) (O.take P ++ [⟨xk, xn, xs⟩])))
    case first =>
     go_region_law (first
      | (refine step_append_run rfl _ _ 42 rfl _ _ _ _ rfl rfl RA1.out ?_)
      | (refine step_append_run rfl _ _ 42 rfl _ _ _ _ rfl rfl RA2.out ?_)
      | (refine step_append_run rfl _ _ 42 rfl _ _ _ _ rfl rfl RB1.out ?_)
      | (refine step_append_run rfl _ _ 42 rfl _ _ _ _ rfl rfl RB2.out ?_))
     all_goals (
      go_wp2_with fail
      go_meet
      first
       | exact ⟨_, _, rfl, OA⟩
       | exact ⟨_, _, rfl, OB⟩)
    case rest =>
     obtain ⟨qm, cm, rfl, HM⟩ := hcut
     obtain ⟨wm, rfl⟩ : ∃ wm : World, wm = wc := ⟨_, rfl⟩
     have hjP : (P : Int) ≤ (j : Int) := by omega
     have hwx : wx.heap.size ≤ wm.heap.size := HM.out.1.le
     have hS := (HSR.out wm (fun k hk => HM.out.1.block k hk)).2
     rw [HOJ.out] at hS
     have hdl : (O.drop P).length = j - P := by rw [List.length_drop, HOJ.out]
     have hfin : insK ⟨xk, xn, xs⟩ O = O.take P ++ [⟨xk, xn, xs⟩] ++ O.drop P := by
      unfold insK
      rw [HOJ.out, ← hPP.out, List.append_assoc]
      rfl
     have HFIN := Lib.hid hfin
     have hml : (O.take P ++ [(⟨xk, xn, xs⟩ : Vl)]).length = P + 1 := by rw [List.length_append, List.length_take, HOJ.out, Nat.min_eq_left hPj]; rfl
     have hx2 : w1.heap.size ≤ wx.heap.size := HC.out.2.le
     have hE1 : Ext w1 wm := HC.out.2.trans HM.out.1
     have fin : ∀ (p : Option Addr) (n c : Nat), n = j - P → c = co - P → (j - P = 0 ∨ ∃ b o, p = some ⟨b, o, none⟩ ∧ ∀ k u, (flat (O.drop P))[k]? = some u → wm.cell? ⟨b, o + k, none⟩ = some u) → (p = none → co - P = 0) →
       ∃ v' w', AppRuns Tryz.prog 42 42 (.slice qm (P + 1 : Nat) cm) (.slice p n c) wm v' w' ∧ RowB w' w1.heap.size v' (sofar L (j + 1)) ∧ Ext w1 w' := fun p n c en ec hc hp => by
      subst en ec
      obtain ⟨v', w', a1, a2, a3, _⟩ := app_part wm 42 wx.heap.size (.slice qm (P + 1 : Nat) cm) (O.take P ++ [⟨xk, xn, xs⟩]) (O.drop P) p (j - P) (co - P) hdl.symm hc hp HM.out.2 hwx (by rw [hml, hdl]; omega)
      refine ⟨v', w', a1, ?_, hE1.grown a3 (fun z hz => Nat.le_trans hx2 (HM.out.2.lt z hz).1)⟩
      rw [HSU.out, HFIN.out]
      exact RowB.lower a2 hx2
     have FIN := Lib.hid fin
     have HS := Lib.hid hS
     clear hS hdl hfin hml fin hE1 b0 b1 b2 bA0 bA1 bA2 bB0 bB1 bB2
     cases qo with
     | none =>
      have hco0 : co = 0 := HQO.out rfl
      subst hco0
      have hP0 : P = 0 := by omega
      have hj0 : j = 0 := by
       rcases HRx.out.2 with ⟨_, h0⟩ | ⟨g, cap, cur, e, _⟩
       ·rw [HOJ.out] at h0; exact h0
       ·injection e with e _ _; cases e
      obtain ⟨v', w', a1, a2, a3⟩ := FIN.out none 0 0 (by omega) (by omega) (.inl (by omega)) (fun _ => by omega)
      have A1 := Lib.hid a1
      have A2 := Lib.hid (And.intro a3 a2)
      clear a1 a2 a3
      subst hP0
      subst hj0
      go_wp2_with (at_builtin; refine wpList_append_runs rfl _ _ 42 rfl _ _ _ _ rfl rfl A1.out ?_)
      go_roundw
      case rel => exact ⟨1, by go_num, by omega, A2⟩
      case measure => simp [intOf]; omega
     | some q =>
      obtain ⟨b, hqb⟩ : ∃ b, q = ⟨b, 0, none⟩ := by
       rcases HRx.out.2 with ⟨e, _⟩ | ⟨g, cap, cur, e, _⟩
       ·injection e
        rename_i e _ _
        cases e
       ·injection e with e _ _
        injection e with e
        exact ⟨g, e⟩
      subst hqb
      by_cases hcp : co = P
      ·have hjq : j ≤ co := by have := (row_part HRx.out 0 (Nat.zero_le _)).1; rw [HOJ.out] at this; exact this
       obtain ⟨v', w', a1, a2, a3⟩ := FIN.out (some ⟨b, 0, none⟩) 0 0 (by omega) (by omega) (.inl (by have := row_part HRx.out P (by rw [HOJ.out]; exact hPj); have := this.1; rw [HOJ.out] at this; omega)) (fun h => by cases h)
       have A1 := Lib.hid a1
       have A2 := Lib.hid (And.intro a3 a2)
       have hjP3 : j = P := by omega
       clear a1 a2 a3
       subst hcp
       subst hjP3
       go_wp2_with (at_builtin; refine wpList_append_runs rfl _ _ 42 rfl _ _ _ _ rfl rfl A1.out ?_)
       go_roundw
       case rel => exact ⟨j + 1, by go_num, by omega, A2⟩
       case measure => simp [intOf]; omega
      ·obtain ⟨v', w', a1, a2, a3⟩ := FIN.out (some ⟨b, P * 3, none⟩) (j - P) (co - P) rfl rfl (by
        rcases HS.out with h | ⟨b', o', e, h⟩
        ·exact .inl h
        ·injection e with e
         injection e with e1 e2
         subst e1 e2
         exact .inr ⟨b, P * 3, rfl, fun k u hu => by have := h k u hu; rwa [Nat.zero_add] at this⟩) (fun h => by cases h)
       have A1 := Lib.hid a1
       have A2 := Lib.hid (And.intro a3 a2)
       clear a1 a2 a3
       go_wp2_with (at_builtin; refine wpList_append_runs rfl _ _ 42 rfl _ _ _ _ rfl rfl A1.out ?_)
       go_roundw
       case rel => exact ⟨j + 1, by go_num, by omega, A2⟩
       case measure => simp [intOf]; omega
  ·have hjl : j = L.length := by omega
   have hd : decide ((j : Int) < (L.length : Int)) = false := by rw [decide_eq_false_iff_not]; omega
   have hd' : decide (j < L.length) = false := by rw [decide_eq_false_iff_not]; omega
   have HJ := Lib.hid hjl
   clear hjl
   go_wp2_with fail
   go_ret2
   refine ⟨u8, rfl, ?_, K1.out.trans HW.out.1⟩
   have e : sofar L j = keysL T := by
    rw [HJ.out]
    unfold sofar
    rw [List.take_length]
    exact keysR_eq L1.out HTb.out
   rw [← e]
   exact HW.out.2.lower hw1
end Go.Proofs.YtlfihdcgbhdajaaGreatDoor
