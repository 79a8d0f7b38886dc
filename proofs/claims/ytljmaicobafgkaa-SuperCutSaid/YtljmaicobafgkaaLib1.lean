/- Contracts of the library that this seat calls: laid at its numbers. -/
import Derived.Shelf.Strings.Builder1
import Derived.Shelf.Strings.Builder2
import Derived.Shelf.Small.Bits
import Derived.Shelf.Small.Wraps
import Derived.Shelf.Strings.BuilderF
import Derived.Shelf.Strings.BuilderK
import Derived.Shelf.Strings.Builder2Cap
import Derived.Shelf.Strconv.Itoa0
import Derived.Shelf.Sort.Plain
import Derived.Shelf.Strings.Prefix
import Derived.Shelf.Bits.Mul64
import Derived.Shelf.Strings.Repeat
import Derived.Shelf.Strings.BuilderCap
import Derived.Ground.Names2Prog
import Derived.Shelf.Slices.SearchI
import Derived.Shelf.Slices.In.SortNone
import Derived.Test.YtljmaicobafgkaaBase
namespace Go.Proofs.Ytljmaicobafgkaa
open Go.Shelf
def sh_lays189_ren : Go.Shelf.Ren := ⟨fun | 189 => 180 | 125 => 188 | 257 => 187 | 128 => 206 | 129 => 207 | 294 => 197 | 295 => 198 | 296 => 199 | 297 => 200 | 298 => 201 | 299 => 202 | 216 => 203 | 300 => 204 | 301 => 205 | 328 => 213 | 329 => 214 | 330 => 215 | 331 => 216 | 332 => 217 | 215 => 218 | 343 => 221 | n => n, fun | 28 => 49 | 3 => 3 | 46 => 201 | 0 => 0 | 51 => 203 | 53 => 78 | 4 => 4 | 183 => 284 | 182 => 283 | 131 => 289 | 5 => 5 | 9 => 9 | 218 => 298 | 222 => 253 | 228 => 306 | 229 => 307 | n => n, fun | n => n⟩
theorem sh_lays189 : Go.Proofs.Lays.n189 Try.prog sh_lays189_ren := {
  mixed := by kernel_rfl
  f125 := Try.func188.trans (congrArg some (by kernel_rfl))
  f128 := Try.func206.trans (congrArg some (by kernel_rfl))
  f129 := Try.func207.trans (congrArg some (by kernel_rfl))
  f189 := Try.func180.trans (congrArg some (by kernel_rfl))
  f215 := Try.func218.trans (congrArg some (by kernel_rfl))
  f216 := Try.func203.trans (congrArg some (by kernel_rfl))
  f257 := Try.func187.trans (congrArg some (by kernel_rfl))
  f294 := Try.func197.trans (congrArg some (by kernel_rfl))
  f295 := Try.func198.trans (congrArg some (by kernel_rfl))
  f296 := Try.func199.trans (congrArg some (by kernel_rfl))
  f297 := Try.func200.trans (congrArg some (by kernel_rfl))
  f298 := Try.func201.trans (congrArg some (by kernel_rfl))
  f299 := Try.func202.trans (congrArg some (by kernel_rfl))
  f300 := Try.func204.trans (congrArg some (by kernel_rfl))
  f301 := Try.func205.trans (congrArg some (by kernel_rfl))
  f328 := Try.func213.trans (congrArg some (by kernel_rfl))
  f329 := Try.func214.trans (congrArg some (by kernel_rfl))
  f330 := Try.func215.trans (congrArg some (by kernel_rfl))
  f331 := Try.func216.trans (congrArg some (by kernel_rfl))
  f332 := Try.func217.trans (congrArg some (by kernel_rfl))
  f343 := Try.func221.trans (congrArg some (by kernel_rfl))
  t0 := Try.underlying0
  a0 := Try.isAgg0
  z0 := Try.sizeOf0
  v0 := Try.zeroValue0
  t3 := Try.underlying3
  a3 := Try.isAgg3
  z3 := Try.sizeOf3
  v3 := Try.zeroValue3
  t4 := Try.underlying4
  a4 := Try.isAgg4
  z4 := Try.sizeOf4
  v4 := Try.zeroValue4
  t5 := Try.underlying5
  a5 := Try.isAgg5
  z5 := Try.sizeOf5
  v5 := Try.zeroValue5
  t9 := Try.underlying9
  a9 := Try.isAgg9
  z9 := Try.sizeOf9
  v9 := Try.zeroValue9
  t28 := Try.underlying49
  a28 := Try.isAgg49
  z28 := Try.sizeOf49
  v28 := Try.zeroValue49
  t46 := Try.underlying201
  a46 := Try.isAgg201
  z46 := Try.sizeOf201
  v46 := Try.zeroValue201
  t51 := Try.underlying203
  a51 := Try.isAgg203
  z51 := Try.sizeOf203
  v51 := Try.zeroValue203
  t53 := Try.underlying78
  a53 := Try.isAgg78
  z53 := Try.sizeOf78
  v53 := Try.zeroValue78
  t131 := Try.underlying289
  a131 := Try.isAgg289
  z131 := Try.sizeOf289
  v131 := Try.zeroValue289
  t182 := Try.underlying283
  a182 := Try.isAgg283
  z182 := Try.sizeOf283
  v182 := Try.zeroValue283
  t183 := Try.underlying284
  a183 := Try.isAgg284
  z183 := Try.sizeOf284
  v183 := Try.zeroValue284
  t218 := Try.underlying298
  a218 := Try.isAgg298
  z218 := Try.sizeOf298
  v218 := Try.zeroValue298
  t222 := Try.underlying253
  a222 := Try.isAgg253
  z222 := Try.sizeOf253
  v222 := Try.zeroValue253
  t228 := Try.underlying306
  a228 := Try.isAgg306
  z228 := Try.sizeOf306
  v228 := Try.zeroValue306
  t229 := Try.underlying307
  a229 := Try.isAgg307
  z229 := Try.sizeOf307
  v229 := Try.zeroValue307 }
open Go.Sort Go.RowKit in
theorem sh_slices_Sort_int (blk off cap : Nat) (zs : List Int) (w : World) (hH : Holds (Value.int .i64) w blk off zs.toArray) (hblk : blk < w.heap.size) (hsz : zs.length < 4611686018427387904) :
    Calls Try.prog 180 #[.slice (some ⟨blk, off, none⟩) zs.length cap] w fun e w' =>
      e = .returned (.tuple #[]) ∧ ∃ n os, w' = grow (putRow (Value.int .i64) (Sort.ahead w n) blk off (zs.mergeSort fun x y => decide (x ≤ y)).toArray) os := Any.slices_Sort_int sh_lays189 blk off cap zs w hH hblk hsz
open Go.RowKit Go.Sort in
/-- .. and plain. (LAID: no walk: one application.) -/
theorem sh_slices_Sort_int_none (p : Option Addr) (cap : Nat) (w : World) :
    Calls Try.prog 180 #[.slice p 0 cap] w fun e w' => e = .returned (.tuple #[]) ∧ w' = w := Any.slices_Sort_int_none sh_lays189 p cap w

def sh_lays105_ren : Go.Shelf.Ren := ⟨fun | 105 => 186 | 212 => 191 | 99 => 192 | 165 => 193 | 166 => 194 | 170 => 195 | 169 => 196 | 263 => 208 | 264 => 209 | 206 => 210 | 240 => 211 | 241 => 212 | 276 => 219 | 277 => 220 | n => n, fun | 9 => 9 | 3 => 3 | 4 => 4 | 20 => 20 | 0 => 0 | 46 => 201 | 109 => 272 | 5 => 5 | 72 => 277 | 76 => 280 | 51 => 203 | 146 => 293 | 53 => 78 | 148 => 295 | 70 => 275 | 37 => 77 | 75 => 279 | 127 => 297 | 164 => 303 | 80 => 52 | n => n, fun | n => n⟩
theorem sh_lays105 : Go.Proofs.Lays.n105 Try.prog sh_lays105_ren := {
  mixed := by kernel_rfl
  f99 := Try.func192.trans (congrArg some (by kernel_rfl))
  f105 := Try.func186.trans (congrArg some (by kernel_rfl))
  f165 := Try.func193.trans (congrArg some (by kernel_rfl))
  f166 := Try.func194.trans (congrArg some (by kernel_rfl))
  f169 := Try.func196.trans (congrArg some (by kernel_rfl))
  f170 := Try.func195.trans (congrArg some (by kernel_rfl))
  f206 := Try.func210.trans (congrArg some (by kernel_rfl))
  f212 := Try.func191.trans (congrArg some (by kernel_rfl))
  f240 := Try.func211.trans (congrArg some (by kernel_rfl))
  f241 := Try.func212.trans (congrArg some (by kernel_rfl))
  f263 := Try.func208.trans (congrArg some (by kernel_rfl))
  f264 := Try.func209.trans (congrArg some (by kernel_rfl))
  f276 := Try.func219.trans (congrArg some (by kernel_rfl))
  f277 := Try.func220.trans (congrArg some (by kernel_rfl))
  t0 := Try.underlying0
  a0 := Try.isAgg0
  z0 := Try.sizeOf0
  v0 := Try.zeroValue0
  t3 := Try.underlying3
  a3 := Try.isAgg3
  z3 := Try.sizeOf3
  v3 := Try.zeroValue3
  t4 := Try.underlying4
  a4 := Try.isAgg4
  z4 := Try.sizeOf4
  v4 := Try.zeroValue4
  t5 := Try.underlying5
  a5 := Try.isAgg5
  z5 := Try.sizeOf5
  v5 := Try.zeroValue5
  t9 := Try.underlying9
  a9 := Try.isAgg9
  z9 := Try.sizeOf9
  v9 := Try.zeroValue9
  t20 := Try.underlying20
  a20 := Try.isAgg20
  z20 := Try.sizeOf20
  v20 := Try.zeroValue20
  t37 := Try.underlying77
  a37 := Try.isAgg77
  z37 := Try.sizeOf77
  v37 := Try.zeroValue77
  t46 := Try.underlying201
  a46 := Try.isAgg201
  z46 := Try.sizeOf201
  v46 := Try.zeroValue201
  t51 := Try.underlying203
  a51 := Try.isAgg203
  z51 := Try.sizeOf203
  v51 := Try.zeroValue203
  t53 := Try.underlying78
  a53 := Try.isAgg78
  z53 := Try.sizeOf78
  v53 := Try.zeroValue78
  t70 := Try.underlying275
  a70 := Try.isAgg275
  z70 := Try.sizeOf275
  v70 := Try.zeroValue275
  t72 := Try.underlying277
  a72 := Try.isAgg277
  z72 := Try.sizeOf277
  v72 := Try.zeroValue277
  t75 := Try.underlying279
  a75 := Try.isAgg279
  z75 := Try.sizeOf279
  v75 := Try.zeroValue279
  t76 := Try.underlying280
  a76 := Try.isAgg280
  z76 := Try.sizeOf280
  v76 := Try.zeroValue280
  t109 := Try.underlying272
  a109 := Try.isAgg272
  z109 := Try.sizeOf272
  v109 := Try.zeroValue272
  t127 := Try.underlying297
  a127 := Try.isAgg297
  z127 := Try.sizeOf297
  v127 := Try.zeroValue297
  t146 := Try.underlying293
  a146 := Try.isAgg293
  z146 := Try.sizeOf293
  v146 := Try.zeroValue293
  t148 := Try.underlying295
  a148 := Try.isAgg295
  z148 := Try.sizeOf295
  v148 := Try.zeroValue295
  t164 := Try.underlying303
  a164 := Try.isAgg303
  z164 := Try.sizeOf303
  v164 := Try.zeroValue303 }
theorem sh_Builder_Extra_105 : Builder.Extra Try.prog sh_lays105_ren := {
  sizeBuilder := by kernel_rfl
  liesBuilder := by kernel_rfl
  t5 := Try.underlying5
  a5 := Try.isAgg5
  z5 := Try.sizeOf5
  v5 := Try.zeroValue5
  infoByte := by kernel_rfl
  cellsByte := by kernel_rfl
  sizeByte := by kernel_rfl
  neB5 := by decide }
open Go.RowKit Go.Lib in
/-- **strings.Repeat: count ≥ 0, the result within one allocation: count copies of s.** (LAID: no walk: one application.) -/
theorem sh_strings_Repeat (s : ByteArray) (c : Nat) (w : World) (hc : c ≤ 9223372036854775807) (hlen : s.size * c ≤ 140737488355328) :
    Calls Try.prog 186 #[.string s, .int .i64 c] w fun e w' => e = .returned (.string ⟨(Lib.repeatL s.data.toList c).toArray⟩) ∧ Below w.heap.size w w' := Any.strings_Repeat sh_lays105 sh_Builder_Extra_105 s c w hc hlen
end Go.Proofs.Ytljmaicobafgkaa
