/-
  The library functions' contracts at this program, laid by the kit's own programs (lay-shelf, lay-plain). No condition.
-/
import Derived.Shelf.Strings.OnBuilder
import Derived.Test.YtjhiaobcbbnhnaaProg
namespace Go.Proofs
open Go.Shelf
def Try.lays156_ren : Go.Shelf.Ren := ⟨fun | 156 => 181 | 165 => 198 | 166 => 199 | 169 => 200 | 240 => 206 | 241 => 207 | 276 => 209 | 277 => 210 | n => n, fun | 31 => 185 | 9 => 9 | 3 => 3 | 4 => 4 | 0 => 0 | 20 => 20 | 72 => 236 | 76 => 240 | 70 => 234 | 37 => 33 | 75 => 239 | 127 => 249 | 164 => 253 | 5 => 5 | 80 => 242 | n => n, fun | n => n⟩
theorem Try.lays156 : Go.Proofs.Lays.n156 Try.prog Try.lays156_ren := {
  mixed := by kernel_rfl
  f156 := Try.func181.trans (congrArg some (by kernel_rfl))
  f165 := Try.func198.trans (congrArg some (by kernel_rfl))
  f166 := Try.func199.trans (congrArg some (by kernel_rfl))
  f169 := Try.func200.trans (congrArg some (by kernel_rfl))
  f240 := Try.func206.trans (congrArg some (by kernel_rfl))
  f241 := Try.func207.trans (congrArg some (by kernel_rfl))
  f276 := Try.func209.trans (congrArg some (by kernel_rfl))
  f277 := Try.func210.trans (congrArg some (by kernel_rfl))
  t0 := Try.underlying0
  a0 := Try.isAgg0
  z0 := Try.sizeOf0
  v0 := Try.zeroValue0
  t3 := Try.underlying3
  a3 := Try.isAgg3
  z3 := Try.sizeOf3
  v3 := Try.zeroValue3
  t4 := Try.underlying4
  a4 := Try.isAgg4
  z4 := Try.sizeOf4
  v4 := Try.zeroValue4
  t9 := Try.underlying9
  a9 := Try.isAgg9
  z9 := Try.sizeOf9
  v9 := Try.zeroValue9
  t20 := Try.underlying20
  a20 := Try.isAgg20
  z20 := Try.sizeOf20
  v20 := Try.zeroValue20
  t31 := Try.underlying185
  a31 := Try.isAgg185
  z31 := Try.sizeOf185
  v31 := Try.zeroValue185
  t37 := Try.underlying33
  a37 := Try.isAgg33
  z37 := Try.sizeOf33
  v37 := Try.zeroValue33
  t70 := Try.underlying234
  a70 := Try.isAgg234
  z70 := Try.sizeOf234
  v70 := Try.zeroValue234
  t72 := Try.underlying236
  a72 := Try.isAgg236
  z72 := Try.sizeOf236
  v72 := Try.zeroValue236
  t75 := Try.underlying239
  a75 := Try.isAgg239
  z75 := Try.sizeOf239
  v75 := Try.zeroValue239
  t76 := Try.underlying240
  a76 := Try.isAgg240
  z76 := Try.sizeOf240
  v76 := Try.zeroValue240
  t127 := Try.underlying249
  a127 := Try.isAgg249
  z127 := Try.sizeOf249
  v127 := Try.zeroValue249
  t164 := Try.underlying253
  a164 := Try.isAgg253
  z164 := Try.sizeOf253
  v164 := Try.zeroValue253 }
theorem Try.Builder_Extra_156 : Builder.Extra Try.prog Try.lays156_ren := {
  sizeBuilder := by kernel_rfl
  liesBuilder := by kernel_rfl
  t5 := Try.underlying5
  a5 := Try.isAgg5
  z5 := Try.sizeOf5
  v5 := Try.zeroValue5
  infoByte := by kernel_rfl
  cellsByte := by kernel_rfl
  sizeByte := by kernel_rfl
  neB5 := by decide }
open Go.RowKit in
theorem Try.strings_Join_none (a : Option Addr) (c : Nat) (sep : ByteArray) (w : World) :
    Calls Try.prog 181 #[.slice a 0 c, .string sep] w fun e w' => e = .returned (.string ⟨#[]⟩) ∧ w' = w := Any.strings_Join_none Try.lays156 Try.Builder_Extra_156 a c sep w
open Go.RowKit in
theorem Try.strings_Join (bk o c : Nat) (xs : List ByteArray) (sep : ByteArray) (w : World) (hcells : ∀ (j : Nat) x, xs[j]? = some x → w.cell? ⟨bk, o + j, none⟩ = some (.string x)) (hbk : bk < w.heap.size) (hN : xs.length ≤ 140737488355328) (hcap : xs.length ≤ c) (hlen : (Lib.join (xs.map (·.data.toList)) sep.data.toList).length ≤ 140737488355328) :
    Calls Try.prog 181 #[.slice (some ⟨bk, o, none⟩) xs.length c, .string sep] w fun e w' => e = .returned (.string ⟨(Lib.join (xs.map (·.data.toList)) sep.data.toList).toArray⟩) ∧ Below w.heap.size w w' := Any.strings_Join Try.lays156 Try.Builder_Extra_156 bk o c xs sep w hcells hbk hN hcap hlen
end Go.Proofs
