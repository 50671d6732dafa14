/- Contracts of the library's functions at this dump, as the kit's tool lays them. -/
import Derived.Shelf.Small.Bits
import Derived.Shelf.Strconv.Itoa0
import Derived.Shelf.Sort.Plain
import Derived.Shelf.Slices.Turned
import Derived.Shelf.Slices.In.SortNone
import Derived.Shelf.SlicesG.CompactI
import Derived.Test.YtccjgeoebbnkoaaProg
import Derived.Test.YtccjgeoebbnkoaaRows
namespace Go.Proofs
open Go.Shelf

def Try.lays190_ren : Go.Shelf.Ren := ⟨fun | 190 => 141 | 125 => 113 | 258 => 172 | 128 => 158 | 129 => 159 | 302 => 189 | 303 => 190 | 304 => 191 | 305 => 192 | 306 => 193 | 307 => 194 | 308 => 195 | 309 => 196 | 310 => 197 | 333 => 200 | 329 => 175 | 330 => 176 | 334 => 201 | 335 => 202 | 336 => 133 | 344 => 203 | n => n, fun | 31 => 24 | 9 => 9 | 3 => 3 | 46 => 143 | 0 => 0 | 51 => 185 | 53 => 187 | 4 => 4 | 183 => 178 | 182 => 177 | 131 => 125 | 5 => 5 | 218 => 199 | 222 => 203 | 228 => 216 | 229 => 217 | n => n, fun | n => n⟩
theorem Try.lays190 : Go.Proofs.Lays.n190 Try.prog Try.lays190_ren := {
  mixed := by kernel_rfl
  f125 := Try.func113.trans (congrArg some (by kernel_rfl))
  f128 := Try.func158.trans (congrArg some (by kernel_rfl))
  f129 := Try.func159.trans (congrArg some (by kernel_rfl))
  f190 := Try.func141.trans (congrArg some (by kernel_rfl))
  f258 := Try.func172.trans (congrArg some (by kernel_rfl))
  f302 := Try.func189.trans (congrArg some (by kernel_rfl))
  f303 := Try.func190.trans (congrArg some (by kernel_rfl))
  f304 := Try.func191.trans (congrArg some (by kernel_rfl))
  f305 := Try.func192.trans (congrArg some (by kernel_rfl))
  f306 := Try.func193.trans (congrArg some (by kernel_rfl))
  f307 := Try.func194.trans (congrArg some (by kernel_rfl))
  f308 := Try.func195.trans (congrArg some (by kernel_rfl))
  f309 := Try.func196.trans (congrArg some (by kernel_rfl))
  f310 := Try.func197.trans (congrArg some (by kernel_rfl))
  f329 := Try.func175.trans (congrArg some (by kernel_rfl))
  f330 := Try.func176.trans (congrArg some (by kernel_rfl))
  f333 := Try.func200.trans (congrArg some (by kernel_rfl))
  f334 := Try.func201.trans (congrArg some (by kernel_rfl))
  f335 := Try.func202.trans (congrArg some (by kernel_rfl))
  f336 := Try.func133.trans (congrArg some (by kernel_rfl))
  f344 := Try.func203.trans (congrArg some (by kernel_rfl))
  t0 := Try.underlying0
  a0 := Try.isAgg0
  z0 := Try.sizeOf0
  v0 := Try.zeroValue0
  t3 := Try.underlying3
  a3 := Try.isAgg3
  z3 := Try.sizeOf3
  v3 := Try.zeroValue3
  t4 := Try.underlying4
  a4 := Try.isAgg4
  z4 := Try.sizeOf4
  v4 := Try.zeroValue4
  t5 := Try.underlying5
  a5 := Try.isAgg5
  z5 := Try.sizeOf5
  v5 := Try.zeroValue5
  t9 := Try.underlying9
  a9 := Try.isAgg9
  z9 := Try.sizeOf9
  v9 := Try.zeroValue9
  t31 := Try.underlying24
  a31 := Try.isAgg24
  z31 := Try.sizeOf24
  v31 := Try.zeroValue24
  t46 := Try.underlying143
  a46 := Try.isAgg143
  z46 := Try.sizeOf143
  v46 := Try.zeroValue143
  t51 := Try.underlying185
  a51 := Try.isAgg185
  z51 := Try.sizeOf185
  v51 := Try.zeroValue185
  t53 := Try.underlying187
  a53 := Try.isAgg187
  z53 := Try.sizeOf187
  v53 := Try.zeroValue187
  t131 := Try.underlying125
  a131 := Try.isAgg125
  z131 := Try.sizeOf125
  v131 := Try.zeroValue125
  t182 := Try.underlying177
  a182 := Try.isAgg177
  z182 := Try.sizeOf177
  v182 := Try.zeroValue177
  t183 := Try.underlying178
  a183 := Try.isAgg178
  z183 := Try.sizeOf178
  v183 := Try.zeroValue178
  t218 := Try.underlying199
  a218 := Try.isAgg199
  z218 := Try.sizeOf199
  v218 := Try.zeroValue199
  t222 := Try.underlying203
  a222 := Try.isAgg203
  z222 := Try.sizeOf203
  v222 := Try.zeroValue203
  t228 := Try.underlying216
  a228 := Try.isAgg216
  z228 := Try.sizeOf216
  v228 := Try.zeroValue216
  t229 := Try.underlying217
  a229 := Try.isAgg217
  z229 := Try.sizeOf217
  v229 := Try.zeroValue217 }
open Go.Sort Go.RowKit in
theorem Try.slices_Sort_string (blk off cap : Nat) (ss : List (List UInt8)) (w : World) (hH : Holds encStr w blk off ss.toArray) (hblk : blk < w.heap.size) (hsz : ss.length < 4611686018427387904) :
    Calls Try.prog 141 #[.slice (some ⟨blk, off, none⟩) ss.length cap] w fun e w' =>
      e = .returned (.tuple #[]) ∧ ∃ n os, w' = grow (putRow encStr (Sort.ahead w n) blk off (ss.mergeSort fun x y => decide (x ≤ y)).toArray) os := Any.slices_Sort_string Try.lays190 blk off cap ss w hH hblk hsz
open Go.RowKit Go.Sort in
theorem Try.slices_Sort_string_none (p : Option Addr) (cap : Nat) (w : World) :
    Calls Try.prog 141 #[.slice p 0 cap] w fun e w' => e = .returned (.tuple #[]) ∧ w' = w := Any.slices_Sort_string_none Try.lays190 p cap w
end Go.Proofs
