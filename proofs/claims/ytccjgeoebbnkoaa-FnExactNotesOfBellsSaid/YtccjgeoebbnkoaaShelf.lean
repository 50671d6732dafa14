/- Contracts of the library's functions at this dump, as the kit's tool lays them. -/
import Derived.Shelf.Small.Bits
import Derived.Shelf.Strconv.Itoa0
import Derived.Shelf.SlicesG.CompactI
import Derived.Shelf.SortG.Plain
import Derived.Shelf.SortG.SortNone
import Derived.Test.YtccjgeoebbnkoaaProg
import Derived.Test.YtccjgeoebbnkoaaRows
namespace Go.Proofs
open Go.Shelf

def Try.laysSlN53_f70_ren : Go.Shelf.Ren := ⟨fun | 53 => 70 | 64 => 113 | 63 => 112 | 78 => 158 | 79 => 159 | 70 => 149 | 71 => 150 | 72 => 151 | 73 => 152 | 74 => 153 | 75 => 154 | 59 => 155 | 76 => 156 | 77 => 157 | 88 => 174 | 89 => 175 | 90 => 176 | 91 => 177 | 92 => 178 | 68 => 179 | 96 => 198 | n => n, fun | 22 => 42 | 23 => 2 | 3 => 3 | 51 => 143 | 0 => 0 | 67 => 185 | 69 => 187 | 4 => 4 | 61 => 178 | 60 => 177 | 44 => 125 | 5 => 5 | 9 => 9 | 75 => 199 | 79 => 203 | 83 => 216 | 84 => 217 | n => n, fun | n => n⟩
theorem Try.laysSlN53_f70 : Go.Proofs.SlLaysN.n53 Try.prog Try.laysSlN53_f70_ren := {
  mixed := by kernel_rfl
  f53 := ⟨Try.f70.name, by decide, Try.func70.trans (congrArg some (by kernel_rfl))⟩
  f59 := ⟨Try.f155.name, by decide, Try.func155.trans (congrArg some (by kernel_rfl))⟩
  f63 := ⟨Try.f112.name, by decide, Try.func112.trans (congrArg some (by kernel_rfl))⟩
  f64 := Try.func113.trans (congrArg some (by kernel_rfl))
  f68 := ⟨Try.f179.name, by decide, Try.func179.trans (congrArg some (by kernel_rfl))⟩
  f70 := ⟨Try.f149.name, by decide, Try.func149.trans (congrArg some (by kernel_rfl))⟩
  f71 := ⟨Try.f150.name, by decide, Try.func150.trans (congrArg some (by kernel_rfl))⟩
  f72 := ⟨Try.f151.name, by decide, Try.func151.trans (congrArg some (by kernel_rfl))⟩
  f73 := ⟨Try.f152.name, by decide, Try.func152.trans (congrArg some (by kernel_rfl))⟩
  f74 := ⟨Try.f153.name, by decide, Try.func153.trans (congrArg some (by kernel_rfl))⟩
  f75 := ⟨Try.f154.name, by decide, Try.func154.trans (congrArg some (by kernel_rfl))⟩
  f76 := ⟨Try.f156.name, by decide, Try.func156.trans (congrArg some (by kernel_rfl))⟩
  f77 := ⟨Try.f157.name, by decide, Try.func157.trans (congrArg some (by kernel_rfl))⟩
  f78 := Try.func158.trans (congrArg some (by kernel_rfl))
  f79 := Try.func159.trans (congrArg some (by kernel_rfl))
  f88 := ⟨Try.f174.name, by decide, Try.func174.trans (congrArg some (by kernel_rfl))⟩
  f89 := Try.func175.trans (congrArg some (by kernel_rfl))
  f90 := Try.func176.trans (congrArg some (by kernel_rfl))
  f91 := ⟨Try.f177.name, by decide, Try.func177.trans (congrArg some (by kernel_rfl))⟩
  f92 := ⟨Try.f178.name, by decide, Try.func178.trans (congrArg some (by kernel_rfl))⟩
  f96 := ⟨Try.f198.name, by decide, Try.func198.trans (congrArg some (by kernel_rfl))⟩
  t0 := Try.underlying0
  a0 := Try.isAgg0
  z0 := Try.sizeOf0
  v0 := Try.zeroValue0
  t3 := Try.underlying3
  a3 := Try.isAgg3
  z3 := Try.sizeOf3
  v3 := Try.zeroValue3
  t4 := Try.underlying4
  a4 := Try.isAgg4
  z4 := Try.sizeOf4
  v4 := Try.zeroValue4
  t5 := Try.underlying5
  a5 := Try.isAgg5
  z5 := Try.sizeOf5
  v5 := Try.zeroValue5
  t9 := Try.underlying9
  a9 := Try.isAgg9
  z9 := Try.sizeOf9
  v9 := Try.zeroValue9
  t22 := Try.underlying42
  a22 := Try.isAgg42
  z22 := Try.sizeOf42
  v22 := Try.zeroValue42
  t23 := Try.underlying2
  a23 := Try.isAgg2
  z23 := Try.sizeOf2
  v23 := Try.zeroValue2
  t44 := Try.underlying125
  a44 := Try.isAgg125
  z44 := Try.sizeOf125
  v44 := Try.zeroValue125
  t51 := Try.underlying143
  a51 := Try.isAgg143
  z51 := Try.sizeOf143
  v51 := Try.zeroValue143
  t60 := Try.underlying177
  a60 := Try.isAgg177
  z60 := Try.sizeOf177
  v60 := Try.zeroValue177
  t61 := Try.underlying178
  a61 := Try.isAgg178
  z61 := Try.sizeOf178
  v61 := Try.zeroValue178
  t67 := Try.underlying185
  a67 := Try.isAgg185
  z67 := Try.sizeOf185
  v67 := Try.zeroValue185
  t69 := Try.underlying187
  a69 := Try.isAgg187
  z69 := Try.sizeOf187
  v69 := Try.zeroValue187
  t75 := Try.underlying199
  a75 := Try.isAgg199
  z75 := Try.sizeOf199
  v75 := Try.zeroValue199
  t79 := Try.underlying203
  a79 := Try.isAgg203
  z79 := Try.sizeOf203
  v79 := Try.zeroValue203
  t83 := Try.underlying216
  a83 := Try.isAgg216
  z83 := Try.sizeOf216
  v83 := Try.zeroValue216
  t84 := Try.underlying217
  a84 := Try.isAgg217
  z84 := Try.sizeOf217
  v84 := Try.zeroValue217 }
open Go.RowKit Go.Lib Go.Sort in
theorem Try.slices_Sort_int (blk off cap : Nat) (zs : List Int) (w : World) (hH : Holds (Value.int .i64) w blk off zs.toArray) (hblk : blk < w.heap.size) (hsz : zs.length < 4611686018427387904) :
    Calls Try.prog 70 #[.slice (some ⟨blk, off, none⟩) zs.length cap] w fun e w' => e = .returned (.tuple #[]) ∧ ∃ n os, w' = grow (putRow (Value.int .i64) (Sort.ahead w n) blk off (zs.mergeSort fun x y => decide (x ≤ y)).toArray) os := AnyG.slices_Sort_int Try.laysSlN53_f70 blk off cap zs w hH hblk hsz
open Go.RowKit Go.Lib Go.Sort in
theorem Try.slices_Sort_int_none (p : Option Addr) (cap : Nat) (w : World) :
    Calls Try.prog 70 #[.slice p 0 cap] w fun e w' => e = .returned (.tuple #[]) ∧ w' = w := AnyG.slices_Sort_int_none Try.laysSlN53_f70 p cap w
def Try.laysSlN43_f71_ren : Go.Shelf.Ren := ⟨fun | 43 => 71 | n => n, fun | 22 => 42 | 23 => 2 | 3 => 3 | 4 => 4 | 0 => 0 | n => n, fun | n => n⟩
theorem Try.laysSlN43_f71 : Go.Proofs.SlLaysN.n43 Try.prog Try.laysSlN43_f71_ren := {
  mixed := by kernel_rfl
  f43 := ⟨Try.f71.name, by decide, Try.func71.trans (congrArg some (by kernel_rfl))⟩
  t0 := Try.underlying0
  a0 := Try.isAgg0
  z0 := Try.sizeOf0
  v0 := Try.zeroValue0
  t3 := Try.underlying3
  a3 := Try.isAgg3
  z3 := Try.sizeOf3
  v3 := Try.zeroValue3
  t4 := Try.underlying4
  a4 := Try.isAgg4
  z4 := Try.sizeOf4
  v4 := Try.zeroValue4
  t22 := Try.underlying42
  a22 := Try.isAgg42
  z22 := Try.sizeOf42
  v22 := Try.zeroValue42
  t23 := Try.underlying2
  a23 := Try.isAgg2
  z23 := Try.sizeOf2
  v23 := Try.zeroValue2
  i23 := by kernel_rfl }
open Go.RowKit Go.Lib Go.Sort in
theorem Try.slices_Compact_int (blk off cap : Nat) (zs : List Int) (w : World) (hH : Holds (Value.int .i64) w blk off zs.toArray) (hsz : zs.length ≤ 9223372036854775807) (hcap : zs.length ≤ cap) :
    Calls Try.prog 71 #[.slice (some ⟨blk, off, none⟩) zs.length cap] w fun e w' => e = .returned (.slice (some ⟨blk, off, none⟩) (Lib.compact zs).length cap) ∧ ∃ q, w' = putRow (Value.int .i64) (Sort.ahead w q) blk off (Lib.compact zs ++ List.replicate (zs.length - (Lib.compact zs).length) 0).toArray := AnyG.slices_Compact_int Try.laysSlN43_f71 blk off cap zs w hH hsz hcap
open Go.RowKit Go.Lib Go.Sort in
theorem Try.slices_Compact_int_empty (a : Option Addr) (cap : Nat) (w : World) :
    Calls Try.prog 71 #[.slice a 0 cap] w fun e w' => e = .returned (.slice a 0 cap) ∧ w' = w := AnyG.slices_Compact_int_empty Try.laysSlN43_f71 a cap w
end Go.Proofs
