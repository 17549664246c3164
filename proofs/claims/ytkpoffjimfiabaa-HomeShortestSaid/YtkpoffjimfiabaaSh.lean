/-
  Go's library: the contracts of the kit at this program, in plain words; conditions in each statement.
-/
import Derived.Shelf.Sort.Plain
import Derived.Shelf.Slices.CompactI
import Derived.Shelf.Slices.In.SortNone
import Derived.Shelf.SlicesE.Compact
import Derived.Shelf.SlSortCmp.Whole1
import Derived.Shelf.SlSortCmp.NoneTotal
import Derived.Test.YtkpoffjimfiabaaProg
set_option linter.unusedVariables false
set_option linter.unusedSimpArgs false
set_option linter.unusedSectionVars false
set_option linter.unnecessarySimpa false

section
namespace Go.Proofs
open Go.Shelf
def Try.lays189_ren : Go.Shelf.Ren := ⟨fun | 189 => 71 | 125 => 102 | 257 => 101 | 128 => 122 | 129 => 123 | 294 => 113 | 295 => 114 | 296 => 115 | 297 => 116 | 298 => 117 | 299 => 118 | 216 => 119 | 300 => 120 | 301 => 121 | 328 => 133 | 329 => 134 | 330 => 135 | 331 => 136 | 332 => 137 | 215 => 107 | 343 => 141 | n => n, fun | 28 => 25 | 3 => 3 | 46 => 112 | 0 => 0 | 51 => 147 | 53 => 149 | 4 => 4 | 183 => 139 | 182 => 138 | 131 => 144 | 5 => 5 | 9 => 9 | 218 => 159 | 222 => 163 | 228 => 167 | 229 => 168 | n => n, fun | n => n⟩
theorem Try.lays189 : Go.Proofs.Lays.n189 Try.prog Try.lays189_ren := {
 mixed := by kernel_rfl
 f125 := Try.func102.trans (congrArg some (by kernel_rfl))
 f128 := Try.func122.trans (congrArg some (by kernel_rfl))
 f129 := Try.func123.trans (congrArg some (by kernel_rfl))
 f189 := Try.func71.trans (congrArg some (by kernel_rfl))
 f215 := Try.func107.trans (congrArg some (by kernel_rfl))
 f216 := Try.func119.trans (congrArg some (by kernel_rfl))
 f257 := Try.func101.trans (congrArg some (by kernel_rfl))
 f294 := Try.func113.trans (congrArg some (by kernel_rfl))
 f295 := Try.func114.trans (congrArg some (by kernel_rfl))
 f296 := Try.func115.trans (congrArg some (by kernel_rfl))
 f297 := Try.func116.trans (congrArg some (by kernel_rfl))
 f298 := Try.func117.trans (congrArg some (by kernel_rfl))
 f299 := Try.func118.trans (congrArg some (by kernel_rfl))
 f300 := Try.func120.trans (congrArg some (by kernel_rfl))
 f301 := Try.func121.trans (congrArg some (by kernel_rfl))
 f328 := Try.func133.trans (congrArg some (by kernel_rfl))
 f329 := Try.func134.trans (congrArg some (by kernel_rfl))
 f330 := Try.func135.trans (congrArg some (by kernel_rfl))
 f331 := Try.func136.trans (congrArg some (by kernel_rfl))
 f332 := Try.func137.trans (congrArg some (by kernel_rfl))
 f343 := Try.func141.trans (congrArg some (by kernel_rfl))
 t0 := Try.underlying0
 a0 := Try.isAgg0
 z0 := Try.sizeOf0
 v0 := Try.zeroValue0
 t3 := Try.underlying3
 a3 := Try.isAgg3
 z3 := Try.sizeOf3
 v3 := Try.zeroValue3
 t4 := Try.underlying4
 a4 := Try.isAgg4
 z4 := Try.sizeOf4
 v4 := Try.zeroValue4
 t5 := Try.underlying5
 a5 := Try.isAgg5
 z5 := Try.sizeOf5
 v5 := Try.zeroValue5
 t9 := Try.underlying9
 a9 := Try.isAgg9
 z9 := Try.sizeOf9
 v9 := Try.zeroValue9
 t28 := Try.underlying25
 a28 := Try.isAgg25
 z28 := Try.sizeOf25
 v28 := Try.zeroValue25
 t46 := Try.underlying112
 a46 := Try.isAgg112
 z46 := Try.sizeOf112
 v46 := Try.zeroValue112
 t51 := Try.underlying147
 a51 := Try.isAgg147
 z51 := Try.sizeOf147
 v51 := Try.zeroValue147
 t53 := Try.underlying149
 a53 := Try.isAgg149
 z53 := Try.sizeOf149
 v53 := Try.zeroValue149
 t131 := Try.underlying144
 a131 := Try.isAgg144
 z131 := Try.sizeOf144
 v131 := Try.zeroValue144
 t182 := Try.underlying138
 a182 := Try.isAgg138
 z182 := Try.sizeOf138
 v182 := Try.zeroValue138
 t183 := Try.underlying139
 a183 := Try.isAgg139
 z183 := Try.sizeOf139
 v183 := Try.zeroValue139
 t218 := Try.underlying159
 a218 := Try.isAgg159
 z218 := Try.sizeOf159
 v218 := Try.zeroValue159
 t222 := Try.underlying163
 a222 := Try.isAgg163
 z222 := Try.sizeOf163
 v222 := Try.zeroValue163
 t228 := Try.underlying167
 a228 := Try.isAgg167
 z228 := Try.sizeOf167
 v228 := Try.zeroValue167
 t229 := Try.underlying168
 a229 := Try.isAgg168
 z229 := Try.sizeOf168
 v229 := Try.zeroValue168 }
open Go.Sort Go.RowKit in
theorem Try.slices_Sort_int (blk off cap : Nat) (zs : List Int) (w : World) (hH : Holds (Value.int .i64) w blk off zs.toArray) (hblk : blk < w.heap.size) (hsz : zs.length < 4611686018427387904) :
  Calls Try.prog 71 #[.slice (some ⟨blk, off, none⟩) zs.length cap] w fun e w' =>
   e = .returned (.tuple #[]) ∧ ∃ n os, w' = grow (putRow (Value.int .i64) (Sort.ahead w n) blk off (zs.mergeSort fun x y => decide (x ≤ y)).toArray) os := Any.slices_Sort_int Try.lays189 blk off cap zs w hH hblk hsz
open Go.RowKit Go.Sort in
theorem Try.slices_Sort_int_none (p : Option Addr) (cap : Nat) (w : World) :
  Calls Try.prog 71 #[.slice p 0 cap] w fun e w' => e = .returned (.tuple #[]) ∧ w' = w := Any.slices_Sort_int_none Try.lays189 p cap w
def Try.laysSlF6_f88_ren : Go.Shelf.Ren := ⟨fun | 6 => 88 | 15 => 102 | 14 => 109 | 28 => 122 | 29 => 123 | 20 => 125 | 21 => 126 | 22 => 127 | 23 => 128 | 24 => 129 | 25 => 130 | 26 => 131 | 27 => 132 | 46 => 138 | 47 => 134 | 48 => 135 | 49 => 139 | 50 => 140 | 57 => 142 | n => n, fun | 22 => 22 | 24 => 25 | 25 => 71 | 3 => 3 | 39 => 112 | 0 => 0 | 53 => 147 | 55 => 149 | 4 => 4 | 46 => 139 | 45 => 138 | 50 => 144 | 5 => 5 | 9 => 9 | 66 => 159 | 70 => 163 | 76 => 167 | 77 => 168 | n => n, fun | n => n⟩
theorem Try.laysSlF6_f88 : Go.Proofs.SlLaysF.n6 Try.prog Try.laysSlF6_f88_ren := {
 mixed := by kernel_rfl
 f6 := ⟨Try.f88.name, by decide, Try.func88.trans (congrArg some (by kernel_rfl))⟩
 f14 := ⟨Try.f109.name, by decide, Try.func109.trans (congrArg some (by kernel_rfl))⟩
 f15 := Try.func102.trans (congrArg some (by kernel_rfl))
 f20 := ⟨Try.f125.name, by decide, Try.func125.trans (congrArg some (by kernel_rfl))⟩
 f21 := ⟨Try.f126.name, by decide, Try.func126.trans (congrArg some (by kernel_rfl))⟩
 f22 := ⟨Try.f127.name, by decide, Try.func127.trans (congrArg some (by kernel_rfl))⟩
 f23 := ⟨Try.f128.name, by decide, Try.func128.trans (congrArg some (by kernel_rfl))⟩
 f24 := ⟨Try.f129.name, by decide, Try.func129.trans (congrArg some (by kernel_rfl))⟩
 f25 := ⟨Try.f130.name, by decide, Try.func130.trans (congrArg some (by kernel_rfl))⟩
 f26 := ⟨Try.f131.name, by decide, Try.func131.trans (congrArg some (by kernel_rfl))⟩
 f27 := ⟨Try.f132.name, by decide, Try.func132.trans (congrArg some (by kernel_rfl))⟩
 f28 := Try.func122.trans (congrArg some (by kernel_rfl))
 f29 := Try.func123.trans (congrArg some (by kernel_rfl))
 f46 := ⟨Try.f138.name, by decide, Try.func138.trans (congrArg some (by kernel_rfl))⟩
 f47 := Try.func134.trans (congrArg some (by kernel_rfl))
 f48 := Try.func135.trans (congrArg some (by kernel_rfl))
 f49 := ⟨Try.f139.name, by decide, Try.func139.trans (congrArg some (by kernel_rfl))⟩
 f50 := ⟨Try.f140.name, by decide, Try.func140.trans (congrArg some (by kernel_rfl))⟩
 f57 := ⟨Try.f142.name, by decide, Try.func142.trans (congrArg some (by kernel_rfl))⟩
 t0 := Try.underlying0
 a0 := Try.isAgg0
 z0 := Try.sizeOf0
 v0 := Try.zeroValue0
 t3 := Try.underlying3
 a3 := Try.isAgg3
 z3 := Try.sizeOf3
 v3 := Try.zeroValue3
 t4 := Try.underlying4
 a4 := Try.isAgg4
 z4 := Try.sizeOf4
 v4 := Try.zeroValue4
 t5 := Try.underlying5
 a5 := Try.isAgg5
 z5 := Try.sizeOf5
 v5 := Try.zeroValue5
 t9 := Try.underlying9
 a9 := Try.isAgg9
 z9 := Try.sizeOf9
 v9 := Try.zeroValue9
 t22 := Try.underlying22
 a22 := Try.isAgg22
 z22 := Try.sizeOf22
 v22 := Try.zeroValue22
 a24 := Try.isAgg25
 z24 := Try.sizeOf25
 t25 := Try.underlying71
 a25 := Try.isAgg71
 z25 := Try.sizeOf71
 v25 := Try.zeroValue71
 t39 := Try.underlying112
 a39 := Try.isAgg112
 z39 := Try.sizeOf112
 v39 := Try.zeroValue112
 t45 := Try.underlying138
 a45 := Try.isAgg138
 z45 := Try.sizeOf138
 v45 := Try.zeroValue138
 t46 := Try.underlying139
 a46 := Try.isAgg139
 z46 := Try.sizeOf139
 v46 := Try.zeroValue139
 t50 := Try.underlying144
 a50 := Try.isAgg144
 z50 := Try.sizeOf144
 v50 := Try.zeroValue144
 t53 := Try.underlying147
 a53 := Try.isAgg147
 z53 := Try.sizeOf147
 v53 := Try.zeroValue147
 t55 := Try.underlying149
 a55 := Try.isAgg149
 z55 := Try.sizeOf149
 v55 := Try.zeroValue149
 t66 := Try.underlying159
 a66 := Try.isAgg159
 z66 := Try.sizeOf159
 v66 := Try.zeroValue159
 t70 := Try.underlying163
 a70 := Try.isAgg163
 z70 := Try.sizeOf163
 v70 := Try.zeroValue163
 t76 := Try.underlying167
 a76 := Try.isAgg167
 z76 := Try.sizeOf167
 v76 := Try.zeroValue167
 t77 := Try.underlying168
 a77 := Try.isAgg168
 z77 := Try.sizeOf168
 v77 := Try.zeroValue168 }
open Go.RowKit Go.Lib Go.Sort in
theorem Try.slices_SortFunc {α : Type} [Inhabited α] (enc : α → Value) (h1 : OneCell enc) (cf : α → α → Int) (hO : SWO (ltOf cf)) (g : Nat) (cb : Array Value) (blk off cap : Nat) (d : Array α) (w : World) (eg : ∀ args w, (callFunc g args).run Try.prog w = .ok (.enter g args) w) (hcmp : CmpLays1 Try.prog g cb enc cf blk off d.size w) (hH : Holds enc w blk off d) (hblk : blk < w.heap.size) (hsz : d.size < 4611686018427387904) :
  Calls Try.prog 88 #[.slice (some ⟨blk, off, none⟩) d.size cap, .func (.func g) #[] cb] w fun e w' =>
   e = .returned (.tuple #[]) ∧ ∃ d' n os, PermIn 0 d.size d d' ∧ SortedIn (ltOf cf) 0 d.size d' ∧ w' = sortWorld enc w blk off n d' os := Any.slices_SortFunc Try.laysSlF6_f88 enc h1 cf hO g cb blk off cap d w eg hcmp hH hblk hsz
end Go.Proofs
end
