/-
  What the law leans on, part 2. No condition.
-/
import Derived.Shelf.Strconv.Itoa3
import Derived.Shelf.Strings.OnBuilder
import Derived.Shelf.Strconv.AtoiAll
import Derived.Shelf.Strings.SplitShaped
import Derived.Test.YtibghpfojnhfaaaDoorProg
import Derived.Lib.Split
import Derived.Lib.AtoiAllCases
import Derived.WalkKit
import Derived.BigCall
import Derived.Lib.LaidTab
import Derived.LaidSub
import Derived.LaidMore
import Derived.Lay
import Derived.MakeChecks
import Derived.Handed
import Derived.Stop.LaidErr
import Derived.Shelf.Vars
import Derived.LaidLaws
import Derived.Test.YtibghpfojnhfaaaDoorRows
import Derived.Test.YtibghpfojnhfaaaDoorFnSigTextB1
/-
  The library functions' contracts at this program, laid by the kit's own programs (lay-shelf, lay-plain). No condition.
-/
namespace Go.Proofs
open Go.Shelf
def Tryd.lays169_ren : Go.Shelf.Ren := ⟨fun | 169 => 27 | n => n, fun | 70 => 48 | 9 => 9 | 0 => 0 | 72 => 50 | 37 => 30 | 127 => 72 | 3 => 3 | 5 => 5 | n => n, fun | n => n⟩
theorem Tryd.lays169 : Go.Proofs.Lays.n169 Tryd.prog Tryd.lays169_ren := {
  mixed := by kernel_rfl
  f169 := Tryd.func27.trans (congrArg some (by kernel_rfl))
  t0 := Tryd.underlying0
  a0 := Tryd.isAgg0
  z0 := Tryd.sizeOf0
  v0 := Tryd.zeroValue0
  t3 := Tryd.underlying3
  a3 := Tryd.isAgg3
  z3 := Tryd.sizeOf3
  v3 := Tryd.zeroValue3
  t9 := Tryd.underlying9
  a9 := Tryd.isAgg9
  z9 := Tryd.sizeOf9
  v9 := Tryd.zeroValue9
  t37 := Tryd.underlying30
  a37 := Tryd.isAgg30
  z37 := Tryd.sizeOf30
  v37 := Tryd.zeroValue30
  t70 := Tryd.underlying48
  a70 := Tryd.isAgg48
  z70 := Tryd.sizeOf48
  v70 := Tryd.zeroValue48
  t72 := Tryd.underlying50
  a72 := Tryd.isAgg50
  z72 := Tryd.sizeOf50
  v72 := Tryd.zeroValue50
  t127 := Tryd.underlying72
  a127 := Tryd.isAgg72
  z127 := Tryd.sizeOf72
  v127 := Tryd.zeroValue72 }
theorem Tryd.Builder_Extra_169 : Builder.Extra Tryd.prog Tryd.lays169_ren := {
  sizeBuilder := by kernel_rfl
  liesBuilder := by kernel_rfl
  t5 := Tryd.underlying5
  a5 := Tryd.isAgg5
  z5 := Tryd.sizeOf5
  v5 := Tryd.zeroValue5
  infoByte := by kernel_rfl
  cellsByte := by kernel_rfl
  sizeByte := by kernel_rfl
  neB5 := by decide }
open Go.RowKit in
theorem Tryd.Builder_String_any (B b : Nat) (l : List UInt8) (w : World) (h : Lib.IsBuilder 50 5 B b (Lib.byteCells l) w) (hBw : B ≤ w.heap.size) :
    Calls Tryd.prog 27 #[.pointer (some ⟨b, 0, none⟩)] w fun e w' => e = .returned (.string ⟨l.toArray⟩) ∧ Below B w w' := Any.Builder_String_any Tryd.lays169 Tryd.Builder_Extra_169 B b l w h hBw
def Tryd.laysM171_ren : Go.Shelf.Ren := ⟨fun | 171 => 47 | 243 => 62 | 246 => 73 | 283 => 81 | 284 => 82 | 285 => 83 | 286 => 84 | 129 => 93 | 317 => 92 | 318 => 94 | 319 => 95 | 320 => 96 | 337 => 99 | 338 => 100 | n => n, fun | 3 => 3 | 9 => 9 | 2 => 2 | 4 => 4 | 171 => 107 | 0 => 0 | 53 => 99 | 37 => 30 | 5 => 5 | 173 => 110 | 212 => 117 | 51 => 118 | 20 => 20 | 213 => 119 | 46 => 102 | 232 => 128 | 233 => 129 | n => n, fun | 17 => 3 | 18 => 6 | 19 => 7 | n => n⟩
theorem Tryd.laysM171 : Go.Proofs.LaysM.n171 Tryd.prog Tryd.laysM171_ren := {
  mixed := by kernel_rfl
  f129 := Tryd.func93.trans (congrArg some (by kernel_rfl))
  f171 := Tryd.func47.trans (congrArg some (by kernel_rfl))
  f243 := Tryd.func62.trans (congrArg some (by kernel_rfl))
  f246 := Tryd.func73.trans (congrArg some (by kernel_rfl))
  f283 := Tryd.func81.trans (congrArg some (by kernel_rfl))
  f284 := Tryd.func82.trans (congrArg some (by kernel_rfl))
  f285 := Tryd.func83.trans (congrArg some (by kernel_rfl))
  f286 := Tryd.func84.trans (congrArg some (by kernel_rfl))
  f317 := Tryd.func92.trans (congrArg some (by kernel_rfl))
  f318 := Tryd.func94.trans (congrArg some (by kernel_rfl))
  f319 := Tryd.func95.trans (congrArg some (by kernel_rfl))
  f320 := Tryd.func96.trans (congrArg some (by kernel_rfl))
  f337 := Tryd.func99.trans (congrArg some (by kernel_rfl))
  f338 := Tryd.func100.trans (congrArg some (by kernel_rfl))
  t0 := Tryd.underlying0
  a0 := Tryd.isAgg0
  z0 := Tryd.sizeOf0
  v0 := Tryd.zeroValue0
  t2 := Tryd.underlying2
  a2 := Tryd.isAgg2
  z2 := Tryd.sizeOf2
  v2 := Tryd.zeroValue2
  t3 := Tryd.underlying3
  a3 := Tryd.isAgg3
  z3 := Tryd.sizeOf3
  v3 := Tryd.zeroValue3
  t4 := Tryd.underlying4
  a4 := Tryd.isAgg4
  z4 := Tryd.sizeOf4
  v4 := Tryd.zeroValue4
  t5 := Tryd.underlying5
  a5 := Tryd.isAgg5
  z5 := Tryd.sizeOf5
  v5 := Tryd.zeroValue5
  t9 := Tryd.underlying9
  a9 := Tryd.isAgg9
  z9 := Tryd.sizeOf9
  v9 := Tryd.zeroValue9
  t20 := Tryd.underlying20
  a20 := Tryd.isAgg20
  z20 := Tryd.sizeOf20
  v20 := Tryd.zeroValue20
  t37 := Tryd.underlying30
  a37 := Tryd.isAgg30
  z37 := Tryd.sizeOf30
  v37 := Tryd.zeroValue30
  t46 := Tryd.underlying102
  a46 := Tryd.isAgg102
  z46 := Tryd.sizeOf102
  v46 := Tryd.zeroValue102
  t51 := Tryd.underlying118
  a51 := Tryd.isAgg118
  z51 := Tryd.sizeOf118
  v51 := Tryd.zeroValue118
  t53 := Tryd.underlying99
  a53 := Tryd.isAgg99
  z53 := Tryd.sizeOf99
  v53 := Tryd.zeroValue99
  t171 := Tryd.underlying107
  a171 := Tryd.isAgg107
  z171 := Tryd.sizeOf107
  v171 := Tryd.zeroValue107
  t173 := Tryd.underlying110
  a173 := Tryd.isAgg110
  z173 := Tryd.sizeOf110
  v173 := Tryd.zeroValue110
  t212 := Tryd.underlying117
  a212 := Tryd.isAgg117
  z212 := Tryd.sizeOf117
  v212 := Tryd.zeroValue117
  t213 := Tryd.underlying119
  a213 := Tryd.isAgg119
  z213 := Tryd.sizeOf119
  t232 := Tryd.underlying128
  a232 := Tryd.isAgg128
  z232 := Tryd.sizeOf128
  v232 := Tryd.zeroValue128
  t233 := Tryd.underlying129
  a233 := Tryd.isAgg129
  z233 := Tryd.sizeOf129
  v233 := Tryd.zeroValue129
  g17 := by kernel_rfl
  g18 := by kernel_rfl
  g19 := by kernel_rfl
  i0 := by kernel_rfl
  i2 := by kernel_rfl
  i3 := by kernel_rfl
  i4 := by kernel_rfl
  i5 := by kernel_rfl
  i9 := by kernel_rfl
  i20 := by kernel_rfl
  i37 := by kernel_rfl
  i46 := by kernel_rfl
  i51 := by kernel_rfl
  i53 := by kernel_rfl
  i171 := by kernel_rfl
  i173 := by kernel_rfl
  i212 := by kernel_rfl
  i232 := by kernel_rfl
  i233 := by kernel_rfl
  m17 := by kernel_rfl
  m18 := by kernel_rfl
  m19 := by kernel_rfl }
open Go.RowKit Go.Sort Go.Lib in
theorem Tryd.strconv_Itoa (n : Int) (h0 : -9223372036854775808 ≤ n) (h1 : n ≤ 9223372036854775807) (w : World) (htab : Lib.TabIs Tryd.prog w "internal/strconv.uint64pow10" .u64 Lib.pow10Tab) :
    Calls Tryd.prog 47 #[.int .i64 n] w fun e w' => e = .returned (.string ⟨(Lib.itoa n).toArray⟩) ∧ ∃ k os, w' = grow (w.drewN k) os := Any.strconv_Itoa Tryd.laysM171 n h0 h1 w htab
def Tryd.laysC172_ren : Go.Shelf.Ren := ⟨fun | 172 => 40 | 244 => 58 | 245 => 59 | 247 => 68 | 279 => 69 | 280 => 70 | 281 => 71 | 282 => 72 | 287 => 78 | 316 => 79 | 171 => 47 | 205 => 80 | 321 => 90 | 322 => 91 | 243 => 62 | 246 => 73 | 283 => 81 | 284 => 82 | 285 => 83 | 286 => 84 | 129 => 93 | 317 => 92 | 318 => 94 | 319 => 95 | 320 => 96 | 337 => 99 | 338 => 100 | n => n, fun | 9 => 9 | 3 => 3 | 75 => 52 | 76 => 53 | 4 => 4 | 5 => 5 | 167 => 88 | 37 => 30 | 0 => 0 | 85 => 89 | 2 => 2 | 168 => 91 | 53 => 99 | 175 => 100 | 46 => 102 | 210 => 105 | 127 => 72 | 145 => 115 | 143 => 113 | 21 => 21 | 171 => 107 | 173 => 110 | 212 => 117 | 51 => 118 | 20 => 20 | 213 => 119 | 232 => 128 | 233 => 129 | 80 => 55 | n => n, fun | 15 => 0 | 16 => 1 | 17 => 3 | 18 => 6 | 19 => 7 | n => n⟩
theorem Tryd.laysC172 : Go.Proofs.LaysC.n172 Tryd.prog Tryd.laysC172_ren := {
  mixed := by kernel_rfl
  f129 := Tryd.func93.trans (congrArg some (by kernel_rfl))
  f171 := Tryd.func47.trans (congrArg some (by kernel_rfl))
  f172 := Tryd.func40.trans (congrArg some (by kernel_rfl))
  f205 := Tryd.func80.trans (congrArg some (by kernel_rfl))
  f243 := Tryd.func62.trans (congrArg some (by kernel_rfl))
  f244 := Tryd.func58.trans (congrArg some (by kernel_rfl))
  f245 := Tryd.func59.trans (congrArg some (by kernel_rfl))
  f246 := Tryd.func73.trans (congrArg some (by kernel_rfl))
  f247 := Tryd.func68.trans (congrArg some (by kernel_rfl))
  f279 := Tryd.func69.trans (congrArg some (by kernel_rfl))
  f280 := Tryd.func70.trans (congrArg some (by kernel_rfl))
  f281 := Tryd.func71.trans (congrArg some (by kernel_rfl))
  f282 := Tryd.func72.trans (congrArg some (by kernel_rfl))
  f283 := Tryd.func81.trans (congrArg some (by kernel_rfl))
  f284 := Tryd.func82.trans (congrArg some (by kernel_rfl))
  f285 := Tryd.func83.trans (congrArg some (by kernel_rfl))
  f286 := Tryd.func84.trans (congrArg some (by kernel_rfl))
  f287 := Tryd.func78.trans (congrArg some (by kernel_rfl))
  f316 := Tryd.func79.trans (congrArg some (by kernel_rfl))
  f317 := Tryd.func92.trans (congrArg some (by kernel_rfl))
  f318 := Tryd.func94.trans (congrArg some (by kernel_rfl))
  f319 := Tryd.func95.trans (congrArg some (by kernel_rfl))
  f320 := Tryd.func96.trans (congrArg some (by kernel_rfl))
  f321 := Tryd.func90.trans (congrArg some (by kernel_rfl))
  f322 := Tryd.func91.trans (congrArg some (by kernel_rfl))
  f337 := Tryd.func99.trans (congrArg some (by kernel_rfl))
  f338 := Tryd.func100.trans (congrArg some (by kernel_rfl))
  t0 := Tryd.underlying0
  a0 := Tryd.isAgg0
  z0 := Tryd.sizeOf0
  v0 := Tryd.zeroValue0
  t2 := Tryd.underlying2
  a2 := Tryd.isAgg2
  z2 := Tryd.sizeOf2
  v2 := Tryd.zeroValue2
  t3 := Tryd.underlying3
  a3 := Tryd.isAgg3
  z3 := Tryd.sizeOf3
  v3 := Tryd.zeroValue3
  t4 := Tryd.underlying4
  a4 := Tryd.isAgg4
  z4 := Tryd.sizeOf4
  v4 := Tryd.zeroValue4
  t5 := Tryd.underlying5
  a5 := Tryd.isAgg5
  z5 := Tryd.sizeOf5
  v5 := Tryd.zeroValue5
  t9 := Tryd.underlying9
  a9 := Tryd.isAgg9
  z9 := Tryd.sizeOf9
  v9 := Tryd.zeroValue9
  t20 := Tryd.underlying20
  a20 := Tryd.isAgg20
  z20 := Tryd.sizeOf20
  v20 := Tryd.zeroValue20
  t21 := Tryd.underlying21
  a21 := Tryd.isAgg21
  z21 := Tryd.sizeOf21
  v21 := Tryd.zeroValue21
  t37 := Tryd.underlying30
  a37 := Tryd.isAgg30
  z37 := Tryd.sizeOf30
  v37 := Tryd.zeroValue30
  t46 := Tryd.underlying102
  a46 := Tryd.isAgg102
  z46 := Tryd.sizeOf102
  v46 := Tryd.zeroValue102
  t51 := Tryd.underlying118
  a51 := Tryd.isAgg118
  z51 := Tryd.sizeOf118
  v51 := Tryd.zeroValue118
  t53 := Tryd.underlying99
  a53 := Tryd.isAgg99
  z53 := Tryd.sizeOf99
  v53 := Tryd.zeroValue99
  t75 := Tryd.underlying52
  a75 := Tryd.isAgg52
  z75 := Tryd.sizeOf52
  v75 := Tryd.zeroValue52
  t76 := Tryd.underlying53
  a76 := Tryd.isAgg53
  z76 := Tryd.sizeOf53
  v76 := Tryd.zeroValue53
  t85 := Tryd.underlying89
  a85 := Tryd.isAgg89
  z85 := Tryd.sizeOf89
  v85 := Tryd.zeroValue89
  t127 := Tryd.underlying72
  a127 := Tryd.isAgg72
  z127 := Tryd.sizeOf72
  v127 := Tryd.zeroValue72
  t143 := Tryd.underlying113
  a143 := Tryd.isAgg113
  z143 := Tryd.sizeOf113
  v143 := Tryd.zeroValue113
  t145 := Tryd.underlying115
  a145 := Tryd.isAgg115
  z145 := Tryd.sizeOf115
  v145 := Tryd.zeroValue115
  t167 := Tryd.underlying88
  a167 := Tryd.isAgg88
  z167 := Tryd.sizeOf88
  v167 := Tryd.zeroValue88
  t168 := Tryd.underlying91
  a168 := Tryd.isAgg91
  z168 := Tryd.sizeOf91
  v168 := Tryd.zeroValue91
  t171 := Tryd.underlying107
  a171 := Tryd.isAgg107
  z171 := Tryd.sizeOf107
  v171 := Tryd.zeroValue107
  t173 := Tryd.underlying110
  a173 := Tryd.isAgg110
  z173 := Tryd.sizeOf110
  v173 := Tryd.zeroValue110
  t175 := Tryd.underlying100
  a175 := Tryd.isAgg100
  z175 := Tryd.sizeOf100
  v175 := Tryd.zeroValue100
  t210 := Tryd.underlying105
  a210 := Tryd.isAgg105
  z210 := Tryd.sizeOf105
  v210 := Tryd.zeroValue105
  t212 := Tryd.underlying117
  a212 := Tryd.isAgg117
  z212 := Tryd.sizeOf117
  v212 := Tryd.zeroValue117
  t213 := Tryd.underlying119
  a213 := Tryd.isAgg119
  z213 := Tryd.sizeOf119
  t232 := Tryd.underlying128
  a232 := Tryd.isAgg128
  z232 := Tryd.sizeOf128
  v232 := Tryd.zeroValue128
  t233 := Tryd.underlying129
  a233 := Tryd.isAgg129
  z233 := Tryd.sizeOf129
  v233 := Tryd.zeroValue129
  g15 := by kernel_rfl
  g16 := by kernel_rfl
  g17 := by kernel_rfl
  g18 := by kernel_rfl
  g19 := by kernel_rfl
  t80 := Tryd.underlying55
  a80 := Tryd.isAgg55
  z80 := Tryd.sizeOf55
  v80 := Tryd.zeroValue55
  i0 := by kernel_rfl
  i2 := by kernel_rfl
  i3 := by kernel_rfl
  i4 := by kernel_rfl
  i5 := by kernel_rfl
  i9 := by kernel_rfl
  i20 := by kernel_rfl
  i21 := by kernel_rfl
  i37 := by kernel_rfl
  i46 := by kernel_rfl
  i51 := by kernel_rfl
  i53 := by kernel_rfl
  i75 := by kernel_rfl
  i76 := by kernel_rfl
  i80 := by kernel_rfl
  i85 := by kernel_rfl
  i127 := by kernel_rfl
  i143 := by kernel_rfl
  i145 := by kernel_rfl
  i167 := by kernel_rfl
  i168 := by kernel_rfl
  i171 := by kernel_rfl
  i173 := by kernel_rfl
  i175 := by kernel_rfl
  i210 := by kernel_rfl
  i212 := by kernel_rfl
  i232 := by kernel_rfl
  i233 := by kernel_rfl
  m15 := by kernel_rfl
  m16 := by kernel_rfl
  m17 := by kernel_rfl
  m18 := by kernel_rfl
  m19 := by kernel_rfl
  c0 := by kernel_rfl
  c2 := by kernel_rfl
  c3 := by kernel_rfl
  c4 := by kernel_rfl
  c5 := by kernel_rfl
  c9 := by kernel_rfl
  c20 := by kernel_rfl
  c21 := by kernel_rfl
  c37 := by kernel_rfl
  c46 := by kernel_rfl
  c51 := by kernel_rfl
  c53 := by kernel_rfl
  c75 := by kernel_rfl
  c76 := by kernel_rfl
  c80 := by kernel_rfl
  c85 := by kernel_rfl
  c127 := by kernel_rfl
  c143 := by kernel_rfl
  c145 := by kernel_rfl
  c167 := by kernel_rfl
  c168 := by kernel_rfl
  c171 := by kernel_rfl
  c173 := by kernel_rfl
  c175 := by kernel_rfl
  c210 := by kernel_rfl
  c212 := by kernel_rfl
  c213 := by kernel_rfl
  c232 := by kernel_rfl
  c233 := by kernel_rfl }
open Go.RowKit in
theorem Tryd.strconv_Atoi_ok (s : ByteArray) (hmax : s.size ≤ 9223372036854775806) (v : Int) (h : Lib.atoiAll s.data.toList = .ok v) (w : World) :
    Calls Tryd.prog 40 #[.string s] w fun e w' => e = .returned (.tuple #[.int .i64 v, .nilIface]) ∧ (w' = w ∨ ∃ t, w' = Lib.bytesWorld w 5 t) := Any.strconv_Atoi_ok Tryd.laysC172 s hmax v h w
open Go.RowKit in
theorem Tryd.strconv_Atoi_syntax (s : ByteArray) (hlim : s.size ≤ 281474976710656) (h1 : ∀ v, Lib.atoiAll s.data.toList ≠ .ok v) (h2 : Lib.atoiAll s.data.toList ≠ .range) (ev : Value) (w : World) (hv : w.cell? ⟨0, 0, none⟩ = some ev) (hev : ev = .nilIface ∨ ∃ te pe, ev = .iface te pe) :
    Calls Tryd.prog 40 #[.string s] w fun e w' => ∃ N, e = .returned (.tuple #[.int .i64 (0), .iface 91 (.pointer (some ⟨N, 0, none⟩))]) ∧ w.heap.size ≤ N ∧ w'.heap[N]? = some (.cells #[.string ⟨#[65, 116, 111, 105]⟩, .string s, ev] 105 (0, 0)) ∧ Below w.heap.size w w' := by
  cases q : Lib.atoiAll s.data.toList with
  | ok v => exact absurd q (h1 v)
  | range => exact absurd q h2
  | _ => exact Any.strconv_Atoi_syntax Tryd.laysC172 s hlim q ev w hv hev
open Go.RowKit in
theorem Tryd.strconv_Atoi_range (s : ByteArray) (hlim : s.size ≤ 281474976710656) (h : Lib.atoiAll s.data.toList = .range) (ev : Value) (w : World) (hv : w.cell? ⟨1, 0, none⟩ = some ev) (hev : ev = .nilIface ∨ ∃ te pe, ev = .iface te pe) :
    Calls Tryd.prog 40 #[.string s] w fun e w' => ∃ N, e = .returned (.tuple #[.int .i64 (Lib.atoiSat s.data.toList), .iface 91 (.pointer (some ⟨N, 0, none⟩))]) ∧ w.heap.size ≤ N ∧ w'.heap[N]? = some (.cells #[.string ⟨#[65, 116, 111, 105]⟩, .string s, ev] 105 (0, 0)) ∧ Below w.heap.size w w' := Any.strconv_Atoi_range Tryd.laysC172 s hlim h ev w hv hev
def Tryd.lays146_ren : Go.Shelf.Ren := ⟨fun | 146 => 39 | 221 => 57 | 268 => 65 | 138 => 66 | 143 => 67 | 195 => 74 | 197 => 75 | 218 => 76 | 219 => 77 | 260 => 85 | 217 => 86 | 225 => 87 | 224 => 88 | 267 => 89 | 266 => 97 | 314 => 98 | n => n, fun | 9 => 9 | 31 => 36 | 3 => 3 | 4 => 4 | 0 => 0 | 105 => 96 | 21 => 21 | 5 => 5 | 46 => 102 | 119 => 121 | 139 => 124 | 138 => 123 | 146 => 125 | 51 => 118 | n => n, fun | 1 => 2 | 3 => 4 | 4 => 5 | n => n⟩
theorem Tryd.lays146 : Go.Proofs.Lays.n146 Tryd.prog Tryd.lays146_ren := {
  mixed := by kernel_rfl
  f138 := Tryd.func66.trans (congrArg some (by kernel_rfl))
  f143 := Tryd.func67.trans (congrArg some (by kernel_rfl))
  f146 := Tryd.func39.trans (congrArg some (by kernel_rfl))
  f195 := Tryd.func74.trans (congrArg some (by kernel_rfl))
  f197 := Tryd.func75.trans (congrArg some (by kernel_rfl))
  f217 := Tryd.func86.trans (congrArg some (by kernel_rfl))
  f218 := Tryd.func76.trans (congrArg some (by kernel_rfl))
  f219 := Tryd.func77.trans (congrArg some (by kernel_rfl))
  f221 := Tryd.func57.trans (congrArg some (by kernel_rfl))
  f224 := Tryd.func88.trans (congrArg some (by kernel_rfl))
  f225 := Tryd.func87.trans (congrArg some (by kernel_rfl))
  f260 := Tryd.func85.trans (congrArg some (by kernel_rfl))
  f266 := Tryd.func97.trans (congrArg some (by kernel_rfl))
  f267 := Tryd.func89.trans (congrArg some (by kernel_rfl))
  f268 := Tryd.func65.trans (congrArg some (by kernel_rfl))
  f314 := Tryd.func98.trans (congrArg some (by kernel_rfl))
  t0 := Tryd.underlying0
  a0 := Tryd.isAgg0
  z0 := Tryd.sizeOf0
  v0 := Tryd.zeroValue0
  t3 := Tryd.underlying3
  a3 := Tryd.isAgg3
  z3 := Tryd.sizeOf3
  v3 := Tryd.zeroValue3
  t4 := Tryd.underlying4
  a4 := Tryd.isAgg4
  z4 := Tryd.sizeOf4
  v4 := Tryd.zeroValue4
  t5 := Tryd.underlying5
  a5 := Tryd.isAgg5
  z5 := Tryd.sizeOf5
  v5 := Tryd.zeroValue5
  t9 := Tryd.underlying9
  a9 := Tryd.isAgg9
  z9 := Tryd.sizeOf9
  v9 := Tryd.zeroValue9
  t21 := Tryd.underlying21
  a21 := Tryd.isAgg21
  z21 := Tryd.sizeOf21
  v21 := Tryd.zeroValue21
  t31 := Tryd.underlying36
  a31 := Tryd.isAgg36
  z31 := Tryd.sizeOf36
  v31 := Tryd.zeroValue36
  t46 := Tryd.underlying102
  a46 := Tryd.isAgg102
  z46 := Tryd.sizeOf102
  v46 := Tryd.zeroValue102
  t51 := Tryd.underlying118
  a51 := Tryd.isAgg118
  z51 := Tryd.sizeOf118
  v51 := Tryd.zeroValue118
  t105 := Tryd.underlying96
  a105 := Tryd.isAgg96
  z105 := Tryd.sizeOf96
  v105 := Tryd.zeroValue96
  t119 := Tryd.underlying121
  a119 := Tryd.isAgg121
  z119 := Tryd.sizeOf121
  t138 := Tryd.underlying123
  a138 := Tryd.isAgg123
  z138 := Tryd.sizeOf123
  v138 := Tryd.zeroValue123
  t139 := Tryd.underlying124
  a139 := Tryd.isAgg124
  z139 := Tryd.sizeOf124
  v139 := Tryd.zeroValue124
  t146 := Tryd.underlying125
  a146 := Tryd.isAgg125
  z146 := Tryd.sizeOf125
  v146 := Tryd.zeroValue125
  g1 := by kernel_rfl
  g3 := by kernel_rfl
  g4 := by kernel_rfl }
open Go.RowKit Go.Lib in
theorem Tryd.strings_Split (s sep : ByteArray) (m : Int) (w : World) (hs : s.size < 4294967281) (hm : w.cell? ⟨2, 0, none⟩ = some (.int .i64 m)) (h1 : 1 ≤ sep.size) :
    Calls Tryd.prog 39 #[.string s, .string sep] w fun e w' =>
      e = .returned (.slice (some ⟨w.heap.size, 0, none⟩) (Lib.countB s sep + 1) (Lib.countB s sep + 1)) ∧ w' = w.alloc (.cells ((Lib.splitB sep 0 (Lib.countB s sep) s).map Value.string).toArray 9) := Any.strings_Split Tryd.lays146 (by kernel_rfl) s sep m w hs hm h1
def Tryd.lays166_ren : Go.Shelf.Ren := ⟨fun | 166 => 25 | 240 => 46 | 276 => 61 | n => n, fun | 0 => 0 | 3 => 3 | 4 => 4 | 5 => 5 | 9 => 9 | 20 => 20 | 37 => 30 | 70 => 48 | 72 => 50 | 75 => 52 | 80 => 55 | 164 => 82 | n => n, fun | n => n⟩
theorem Tryd.lays166 : Go.Proofs.Lays.n166 Tryd.prog Tryd.lays166_ren := {
  mixed := by kernel_rfl
  f166 := Tryd.func25.trans (congrArg some (by kernel_rfl))
  f240 := Tryd.func46.trans (congrArg some (by kernel_rfl))
  f276 := Tryd.func61.trans (congrArg some (by kernel_rfl))
  t0 := Tryd.underlying0
  a0 := Tryd.isAgg0
  z0 := Tryd.sizeOf0
  v0 := Tryd.zeroValue0
  t3 := Tryd.underlying3
  a3 := Tryd.isAgg3
  z3 := Tryd.sizeOf3
  v3 := Tryd.zeroValue3
  t4 := Tryd.underlying4
  a4 := Tryd.isAgg4
  z4 := Tryd.sizeOf4
  v4 := Tryd.zeroValue4
  t9 := Tryd.underlying9
  a9 := Tryd.isAgg9
  z9 := Tryd.sizeOf9
  v9 := Tryd.zeroValue9
  t20 := Tryd.underlying20
  a20 := Tryd.isAgg20
  z20 := Tryd.sizeOf20
  v20 := Tryd.zeroValue20
  t37 := Tryd.underlying30
  a37 := Tryd.isAgg30
  z37 := Tryd.sizeOf30
  v37 := Tryd.zeroValue30
  t70 := Tryd.underlying48
  a70 := Tryd.isAgg48
  z70 := Tryd.sizeOf48
  v70 := Tryd.zeroValue48
  t72 := Tryd.underlying50
  a72 := Tryd.isAgg50
  z72 := Tryd.sizeOf50
  v72 := Tryd.zeroValue50
  t75 := Tryd.underlying52
  a75 := Tryd.isAgg52
  z75 := Tryd.sizeOf52
  v75 := Tryd.zeroValue52
  t164 := Tryd.underlying82
  a164 := Tryd.isAgg82
  z164 := Tryd.sizeOf82
  v164 := Tryd.zeroValue82 }
theorem Tryd.Builder_Extra_166 : Builder.Extra Tryd.prog Tryd.lays166_ren := {
  sizeBuilder := by kernel_rfl
  liesBuilder := by kernel_rfl
  t5 := Tryd.underlying5
  a5 := Tryd.isAgg5
  z5 := Tryd.sizeOf5
  v5 := Tryd.zeroValue5
  infoByte := by kernel_rfl
  cellsByte := by kernel_rfl
  sizeByte := by kernel_rfl
  neB5 := by decide }
open Go.RowKit in
theorem Tryd.Builder_WriteString (B b : Nat) (bs : List Value) (s : ByteArray) (w : World) (h : Lib.IsBuilder 50 5 B b bs w) (hlen : bs.length + s.size ≤ 140737488355328) (hBw : B ≤ w.heap.size) :
    Calls Tryd.prog 25 #[.pointer (some ⟨b, 0, none⟩), .string s] w fun e w' => e = .returned (.tuple #[.int .i64 s.size, .nilIface]) ∧ (Lib.BuilderAt 50 5 B b (.pointer (some ⟨b, 0, none⟩)) (bs ++ Lib.strCells s) w' ∧ Below B w w') := Any.Builder_WriteString Tryd.lays166 Tryd.Builder_Extra_166 B b bs s w h hlen hBw
end Go.Proofs

/-
  The library's contracts: joined texts. No condition.
-/
set_option linter.unusedVariables false
set_option linter.unusedSimpArgs false
namespace Pl
open Go
end Pl
namespace Cg
open Go Go.Proofs Pl
theorem Ext.ofBelow {w w' : World} (h : Go.RowKit.Below w.heap.size w w') : Ext w w' := ⟨h.os, h.tape, h.output, h.size, h.block⟩
end Cg

/-
  What is left to show of each function's code, printed by a program: Same. No condition.
-/
set_option maxRecDepth 100000
set_option linter.unusedVariables false
namespace Cg
open Go Go.Proofs
end Cg

/-
  What is left to show of each function's code, printed by a program: Cnf. No condition.
-/
set_option maxRecDepth 100000
set_option linter.unusedVariables false
namespace Cg
open Go Go.Proofs
theorem vc_slEqual (l m : List Int) : (condP ((↑l.length : Int) != (↑m.length : Int)) (false = decide (l = m))
 ((∃ x : Nat,
 (x ≤ l.length ∧ l.length = m.length ∧ (l = m ↔ List.drop x l = List.drop x m)) ∧ (Is (ints l) (ints l) ∧ Is (ints m) (ints m) ∧ (↑l.length : Int) = (↑l.length : Int) ∧ (0 : Int) = (↑x : Int) ∧ True) ∧ True) ∧ ∀ (x : Nat),
 x ≤ l.length ∧ l.length = m.length ∧ (l = m ↔ List.drop x l = List.drop x m) →
 condP (decide ((↑x : Int) < (↑l.length : Int)))
 (((0 : Int) ≤ (↑x : Int) ∧ (↑x : Int) < (↑l.length : Int)) ∧ x < l.length ∧ ((0 : Int) ≤ (↑x : Int) ∧ (↑x : Int) < (↑m.length : Int)) ∧ x < m.length ∧ condP (l.getD x (0 : Int) != m.getD x (0 : Int)) (false = decide (l = m))
 (Exists fun (x' : Nat) =>
 (x' ≤ l.length ∧ l.length = m.length ∧ (l = m ↔ List.drop x' l = List.drop x' m)) ∧ l.length - x' < l.length - x ∧ (Is (ints l) (ints l) ∧ Is (ints m) (ints m) ∧ (↑l.length : Int) = (↑l.length : Int) ∧ IntKind.i64.wrap ((↑x : Int) + (1 : Int)) = (↑x' : Int) ∧ True) ∧ True))
 (true = decide (l = m)))) = Goal Tryd.prog [] (A_slEqual l m) K_slEqual.1 K_slEqual.2 ((l, m)) := by kernel_rfl

end Cg

/-
  The codes' contracts: clause sets. No condition.
-/
set_option linter.unusedVariables false
set_option linter.unusedSimpArgs false
set_option maxRecDepth 100000
namespace Cg
open Go Go.Proofs

theorem k_slEqual : SoundC Tryd.prog K_slEqual.1 K_slEqual.2 := sound_of hm CtxOK.nil (fun (l, m) => A_slEqual l m) (by kernel_rfl) fun (l, m) hl => cast (vc_slEqual l m) (by
  replace hl : Sz l := hl
  simp [-List.getD_eq_getElem?_getD, and_assoc]
  refine ⟨fun h e => h (by rw [e]), fun h => ⟨⟨0, by simp; omega⟩, fun k hk hlm he => ⟨fun hlt => ⟨hlt, by omega, (eq_step 0 hlt hlm he).1, fun h => ⟨k + 1, hlt, hlm, (eq_step 0 hlt hlm he).2 h, by omega, wrap_succ hlt hl⟩⟩, fun hge => ?_⟩⟩⟩
  rw [drop_end (by omega), drop_end (l := m) (by omega)] at he
  exact he.2 rfl)
end Cg

/-
  The codes' contracts: atoms, formulas, explanations, cases: sizes, copies, equality. No condition.
-/
set_option linter.unusedVariables false
set_option linter.unusedSimpArgs false
set_option maxRecDepth 100000
set_option maxHeartbeats 1000000
namespace Cg
open Go Go.Proofs Pl
section
variable {α : Type} {f : α → Nat}
theorem SmTrs.mem {l : List (Tree α)} (h : SmTrs f l) {t : Tree α} (ht : t ∈ l) : SmTr f t := by
  have := costTr_mem (f := f) ht
  have h1 : l.length + costTrs f l ≤ 1048576 := h
  show costTr f t ≤ 1048576
  omega
theorem SmTrs.len {l : List (Tree α)} (h : SmTrs f l) : l.length ≤ 1048576 := by
  have h1 : l.length + costTrs f l ≤ 1048576 := h
  omega
theorem SmTr.kids {v : α} {ks : List (Tree α)} (h : SmTr f (.mk v ks)) : SmTrs f ks := by
  have h1 : costTr f (.mk v ks) ≤ 1048576 := h
  rw [costTr_eq] at h1
  simp only [Tree.val, Tree.kids] at h1
  show ks.length + costTrs f ks ≤ 1048576
  omega
theorem SmTr.here {v : α} {ks : List (Tree α)} (h : SmTr f (.mk v ks)) : f v ≤ 1048576 := by
  have h1 : costTr f (.mk v ks) ≤ 1048576 := h
  rw [costTr_eq] at h1
  simp only [Tree.val, Tree.kids] at h1
  omega
end
theorem SmA.parts {x : Atm} (h : SmA x) : SmT (.mk x.2.1.1 x.2.1.2) ∧ SmT (.mk x.2.2.1.1 x.2.2.1.2) ∧ SmTs x.2.2.2.1 ∧ x.2.2.2.2.1.length ≤ 1048576 := by
  have h1 : costA x ≤ 1048576 := h
  unfold costA at h1
  refine ⟨?_, ?_, ?_, by omega⟩
  · show costT _ ≤ _; omega
  · show costT _ ≤ _; omega
  · show _ + _ ≤ _; omega

end Cg

/-
  The codes' contracts: valid atoms. No condition.
-/
set_option linter.unusedVariables false
set_option linter.unusedSimpArgs false
set_option maxRecDepth 100000
set_option maxHeartbeats 1000000
namespace Pl
open Go Cg
theorem textBs_map : ∀ l : List Tm, textBs l = l.map textB
  | [] => rfl
  | t :: ts => by simp only [textBs, List.map_cons, textBs_map ts]
theorem interL_len (sep : List UInt8) (h1 : sep.length = 1) : ∀ ts : List (List UInt8), (interL sep ts).length ≤ sumN List.length ts + ts.length - 1
  | [] => by simp [interL]
  | [x] => by simp [interL, sumN]
  | x :: y :: r => by
    have := interL_len sep h1 (y :: r)
    simp only [interL, List.length_append, sumN, List.length_cons] at this ⊢
    omega
theorem textB_mk (v : ByteArray) (ks : List Tm) : textB (.mk v ks) = if ks = [] then bl' v else spellB (bl' v) (textBs ks) ++ [41] := by
  rw [textB]
  cases ks with
  | nil => rfl
  | cons k r => simp [spellB, textBs]
mutual
theorem textB_len : ∀ t : Tm, (textB t).length ≤ 2 * costT t
  | .mk v ks => by
    have h := textBs_len ks
    have hl := interL_len [44] rfl (textBs ks)
    have hm : (textBs ks).length = ks.length := by rw [textBs_map]; simp
    rw [textB_mk]
    rw [costT]
    have e : (bl' v).length = v.size := rfl
    by_cases h0 : ks = []
    · rw [if_pos h0]; omega
    · rw [if_neg h0]
      have hp : 0 < ks.length := by cases ks with
        | nil => exact absurd rfl h0
        | cons _ _ => simp
      have hq : (textBs ks).isEmpty = false := by cases hh : textBs ks with
        | nil => rw [hh] at hm; simp at hm; omega
        | cons _ _ => rfl
      unfold spellB
      rw [hq]
      simp only [Bool.false_eq_true, if_false, List.length_append, List.length_singleton]
      omega
theorem textBs_len : ∀ l : List Tm, sumN List.length (textBs l) ≤ 2 * costTs l
  | [] => by simp [textBs, sumN]
  | t :: ts => by
    have h1 := textB_len t
    have h2 := textBs_len ts
    simp only [textBs, sumN, costTs]
    omega
end
@[simp] theorem mkB_list (l : List UInt8) : (mkB l).data.toList = l := rfl
@[simp] theorem mkB_size (l : List UInt8) : (mkB l).size = l.length := rfl
end Pl
namespace Cg
open Go Go.Proofs Pl
end Cg

/-
  What is left to show of each function's code, printed by a program: Lit. No condition.
-/
set_option maxRecDepth 100000
set_option linter.unusedVariables false
namespace Cg
open Go Go.Proofs
end Cg

/-
  The codes' contracts: lists of literals: sizes, copies, equality. No condition.
-/
set_option linter.unusedVariables false
set_option linter.unusedSimpArgs false
set_option maxRecDepth 100000
set_option maxHeartbeats 1000000
namespace Cg
open Go Go.Proofs Pl
theorem SmLs.mem {l : List Ltr} (h : SmLs l) {x : Ltr} (hx : x ∈ l) : SmA x.1 := by
  have h1 : l.length + sumN costL l ≤ 1048576 := h
  have h2 := sumN_mem costL hx
  have h3 : costL x = costA x.1 := rfl
  show costA x.1 ≤ 1048576
  omega
theorem SmLs.len {l : List Ltr} (h : SmLs l) : l.length ≤ 1048576 := by
  have h1 : l.length + sumN costL l ≤ 1048576 := h
  omega
end Cg

/-
  The codes' contracts: texts. No condition.
-/
set_option linter.unusedVariables false
set_option linter.unusedSimpArgs false
set_option maxRecDepth 100000
namespace Pl
open Go Cg
theorem blmk (l : List UInt8) : bl' (mkB l) = l := rfl
theorem exB (b : ByteArray) : ∃ l, b = mkB l := ⟨bl' b, rfl⟩
theorem bapp (a b : List UInt8) : mkB a ++ mkB b = mkB (a ++ b) := by
  apply ByteArray.ext
  rw [ByteArray.data_append]
  apply Array.toList_inj.1
  rw [Array.toList_append]
  rfl
theorem lit0 : ByteArray.mk #[] = mkB [] := rfl
theorem lit1 (a : UInt8) : ByteArray.mk #[a] = mkB [a] := rfl
theorem lit2 (a b : UInt8) : ByteArray.mk #[a, b] = mkB [a, b] := rfl
theorem lit3 (a b c : UInt8) : ByteArray.mk #[a, b, c] = mkB [a, b, c] := rfl
theorem lit4 (a b c d : UInt8) : ByteArray.mk #[a, b, c, d] = mkB [a, b, c, d] := rfl
theorem dec_eq (n : Int) : dec n = mkB (itoa n) := rfl
theorem textT_eq (t : Tm) : textT t = mkB (textB t) := rfl
theorem byteS_eq (x : Int) : byteS x = mkB [UInt8.ofNat x.toNat] := rfl
theorem mkB_inj {a b : List UInt8} : mkB a = mkB b ↔ a = b := ⟨fun h => by
  have : (mkB a).data.toList = (mkB b).data.toList := by rw [h]
  exact this, fun h => by rw [h]⟩
theorem tx_no {ok : Bool} {l : List UInt8} (h : ok = false) : tx ok l = mkB [] := by unfold tx; rw [if_neg (by rw [h]; decide)]; rfl
theorem tx_yes {ok : Bool} {l : List UInt8} (h : ok = true) : tx ok l = mkB l := by unfold tx; rw [if_pos h]
theorem catB_step {α : Type} (d : α) (f : α → List UInt8) {l : List α} {k : Nat} (h : k < l.length) : catB f (l.take (k + 1)) = catB f (l.take k) ++ f (l.getD k d) := by
  rw [Pl.take_getD d h]
  simp [catB]
theorem catB_len {α : Type} (f : α → List UInt8) (c : Nat) : ∀ {l : List α}, (∀ x ∈ l, (f x).length ≤ c) → (catB f l).length ≤ l.length * c
  | [], _ => Nat.zero_le _
  | x :: xs, h => by
    have h1 := h x List.mem_cons_self
    have h2 := catB_len f c (l := xs) fun y hy => h y (List.mem_cons_of_mem _ hy)
    have e : catB f (x :: xs) = f x ++ catB f xs := rfl
    rw [e, List.length_append, List.length_cons, Nat.succ_mul]; omega
theorem catB_take {α : Type} (f : α → List UInt8) (c : Nat) {l : List α} (h : ∀ x ∈ l, (f x).length ≤ c) (k : Nat) : (catB f (l.take k)).length ≤ l.length * c := by
  have h1 := catB_len f c (l := l.take k) fun x hx => h x (List.mem_of_mem_take hx)
  have h2 : (l.take k).length * c ≤ l.length * c := Nat.mul_le_mul_right _ (by simp; omega)
  omega
theorem digits_len : ∀ (k u : Nat), u < 10 ^ (k + 1) → (Go.Lib.decDigits u).length ≤ k + 1
  | 0, u, h => by rw [Go.Lib.decDigits, dif_pos (by simpa using h)]; simp
  | k + 1, u, h => by
    rw [Go.Lib.decDigits]
    split
    · simp
    · have := digits_len k (u / 10) (by rw [Nat.pow_succ] at h; omega)
      simp; omega
theorem itoa_len {n : Int} (h : In64 n) : (itoa n).length ≤ 21 := by
  obtain ⟨h1, h2⟩ := h
  unfold itoa Go.Lib.itoa
  split
  · have := digits_len 19 n.natAbs (by omega)
    simp only [List.length_cons]; omega
  · have := digits_len 19 n.toNat (by omega)
    omega
theorem itoa_pos {n : Int} : itoa n ≠ [] := by
  unfold itoa Go.Lib.itoa
  split
  · simp
  · rw [Go.Lib.decDigits]
    split <;> simp
theorem in64_sort {n : Int} (h : isSort n = true) : In64 n := by
  rw [isSort_iff] at h
  exact ⟨by omega, by omega⟩
theorem catB_all {α : Type} (f : α → List UInt8) {l : List α} {k : Nat} (h : l.length ≤ k) : catB f (l.take k) = catB f l := by rw [List.take_of_length_le h]
theorem sym_facts {x : Sym} (h : symOk x = true) : (bl' x.1).length ≤ 2 ∧ x.2.1.length ≤ 2 ∧ In64 x.2.2 ∧ ∀ n ∈ x.2.1, In64 n := by
  simp only [symOk, nameOk, Bool.and_eq_true, decide_eq_true_eq, List.all_eq_true] at h
  exact ⟨h.1.1.1.1.2, h.1.1.2, in64_sort h.1.2, fun n hn => in64_sort (h.2 n hn)⟩
theorem itoaC_len {l : List Int} (h1 : l.length ≤ 2) (h2 : ∀ n ∈ l, In64 n) (k : Nat) : (catB itoa (l.take k)).length ≤ 42 := by
  have := catB_take itoa 21 (fun n hn => itoa_len (h2 n hn)) k
  omega
theorem argsB_len {l : List Int} (h1 : l.length ≤ 2) (h2 : ∀ n ∈ l, In64 n) : (argsB l).length ≤ 42 := by
  unfold argsB
  split
  · simp
  · have := itoaC_len h1 h2 l.length
    rwa [List.take_length] at this
theorem symB_len {x : Sym} (h : symOk x = true) : (symB x).length ≤ 67 := by
  obtain ⟨h1, h2, h3, h4⟩ := sym_facts h
  have := itoa_len h3
  have := argsB_len h2 h4
  unfold symB
  simp only [List.length_append, List.length_singleton]
  omega
theorem catB_itoa_nil {l : List Int} : catB itoa l = [] ↔ l = [] := by
  cases l with
  | nil => simp [catB]
  | cons n r =>
    have := @itoa_pos n
    simp [catB, this]
theorem args_nil {l : List Int} (h : catB itoa l = []) : argsB l = [45] := if_pos (catB_itoa_nil.1 h)
theorem args_cons {l : List Int} (h : ¬ catB itoa l = []) : argsB l = catB itoa l := if_neg fun e => h (catB_itoa_nil.2 e)
theorem sig_facts {m : Sig} (h : sigOk m = true) : m.length ≤ 7 ∧ ∀ r ∈ m, symOk r = true := by
  simp only [sigOk, Bool.and_eq_true, decide_eq_true_eq] at h
  exact ⟨h.2, sigL_mem h.1⟩
theorem sigB_len {m : Sig} (h : sigOk m = true) (k : Nat) : (sigB (m.take k)).length ≤ 476 := by
  obtain ⟨h1, h2⟩ := sig_facts h
  have := catB_take lineS 68 (l := m) (fun r hr => by have := symB_len (h2 r hr); unfold lineS; simp; omega) k
  unfold sigB
  omega
end Pl
namespace Cg
open Go Go.Proofs Pl
theorem Ext.grow (w : World) (k : Nat) (os : Array Obj) : Ext w (Go.Sort.grow (w.drewN k) os) := ⟨rfl, rfl, rfl, by show _ ≤ (w.heap ++ os).size; simp, fun b hb => by show (w.heap ++ os)[b]? = _; rw [Array.getElem?_append_left hb]⟩
theorem tab_pow {S : Nat → Prop} {w : World} (h : Gl S w) : Go.Lib.TabIs Tryd.prog w "internal/strconv.uint64pow10" .u64 Go.Lib.pow10Tab := by
  obtain ⟨h1, c, T, fr, h2, h3⟩ := h _ List.mem_cons_self
  unfold Go.Lib.TabIs World.var?
  rw [show Tryd.prog.globalNamed "internal/strconv.uint64pow10" = some 3 by kernel_rfl]
  have h2 : w.heap[(3 : Nat)]? = some (.cells c T fr) := h2
  have h3 : c = ((List.range 20).map fun i => Value.int .u64 ((10 ^ i : Nat) : Int)).toArray := h3
  simp only [Option.bind_some, h2, h3]
  unfold Go.Lib.pow10Tab
  rw [List.map_map]
  rfl
theorem k_Itoa : SoundC Tryd.prog K_Itoa.1 K_Itoa.2 := ⟨callable_of (by kernel_rfl), fun x hx S w vals hin hgl hrel => by
  obtain ⟨y0, r0, rfl, ha, hc⟩ := hrel
  cases hc
  have ha : y0 = .int .i64 x := ha
  subst ha
  exact (Tryd.strconv_Itoa x (Int.le_trans (by decide) hx.1) hx.2 w (tab_pow hgl)).mono fun e w' ⟨he, k, os, hw⟩ => by
    subst hw
    exact ⟨_, S, he, Ext.grow w k os, fun _ h => h, fun _ h => .inl h, fun b hb => Nat.lt_of_lt_of_le (hin b hb) (Ext.grow w k os).size, rfl⟩⟩
theorem digit_eq {m : Nat} (h : m < 10) : UInt8.ofNat (IntKind.u8.wrap (IntKind.i64.wrap (48 + (m : Int)))).toNat = UInt8.ofNat (48 + m) := by
  rw [wrap_small (by omega) (by omega)]
  congr 1
  have : IntKind.u8.wrap (48 + (m : Int)) = 48 + (m : Int) := by
    show (48 + (m : Int)) % 256 = _
    omega
  rw [this]; omega
theorem dec_step {m : Nat} (h : 9 < m) : itoa (m : Int) = itoa ((m / 10 : Nat) : Int) ++ [UInt8.ofNat (48 + m % 10)] := by
  unfold itoa Go.Lib.itoa
  rw [if_neg (by omega), if_neg (by omega)]
  show Go.Lib.decDigits m = Go.Lib.decDigits (m / 10) ++ _
  rw [Go.Lib.decDigits, dif_neg (by omega)]
theorem dec_last {m : Nat} (h : m < 10) : itoa (m : Int) = [UInt8.ofNat (48 + m)] := by
  unfold itoa Go.Lib.itoa
  rw [if_neg (by omega)]
  show Go.Lib.decDigits m = _
  rw [Go.Lib.decDigits, dif_pos h]
set_option maxHeartbeats 8000000 in
theorem g_l16Dec (n : Nat) (x : Int) (h1 : In64 x) (h2 : (if x < 0 then 1 else 0) < n + 1) : GoalW Tryd.prog [K_l16Dec n] (A_l16Dec x) (K_l16Dec (n + 1)).1 (K_l16Dec (n + 1)).2 x := GoalW.of (vc_l16Dec n x) (by
  simp (maxSteps := 2000000) [-List.getD_eq_getElem?_getD, -List.mem_cons, -Bool.forall_bool, -Bool.exists_bool, and_assoc, peta, tl_inj, ex_1, ex_2, ex_3, ex_4, ex_5, ex_6, ex_7, ex_8, ex_9, ey_2, ey_3, ey_4, ey_5, ey_6, ey_7, ey_8, ey_9]
  obtain ⟨b1, b2⟩ := h1
  refine ⟨fun hn => by omega, fun hn => ⟨fun h0 => ?_, fun h0 => ⟨⟨x.toNat, ⟨by omega, by omega⟩, h0, ?_, by omega⟩, fun a b ha _ he => ⟨fun h9 => ?_, fun h9 => ?_⟩⟩⟩⟩
  · have e : IntKind.i64.wrap (-x) = -x := wrap_small (by omega) (by omega)
    have i1 := itoa_len (n := -x) ⟨by omega, by omega⟩
    rw [e]
    rw [if_pos h0] at h2
    refine ⟨⟨by omega, by omega⟩, by rw [if_neg (by omega)]; omega, ?_, ?_⟩
    · show 1 + ((itoa (-x)).length : Int) ≤ _
      omega
    · rw [lit1, dec_eq, bapp]
      unfold dec itoa Go.Lib.itoa
      rw [if_pos h0, if_neg (by omega), show (-x).toNat = x.natAbs by omega]
      rfl
  · rw [lit0, dec_eq, dec_eq, bapp, List.append_nil, Int.toNat_of_nonneg h0]
  · have i1 := itoa_len (n := x) ⟨b1, b2⟩
    have hz : (dec x).size = (dec (a : Int)).size + b.size := by rw [he]; simp
    have hz : (itoa x).length = (itoa (a : Int)).length + b.size := hz
    rw [show ((a : Int)).tmod 10 = ((a % 10 : Nat) : Int) from rfl, digit_eq (Nat.mod_lt _ (by omega))]
    refine ⟨?_, a / 10, ⟨by omega, by have := ha.2; omega⟩, h0, ?_, by omega, ?_⟩
    · show (1 : Int) + b.size ≤ _
      omega
    · rw [he, dec_eq, dec_step (by omega), lit1, ← bapp, ByteArray.append_assoc]; rfl
    · rw [wrap_small (by have := ha.2; omega) (by have := ha.2; omega)]; rfl
  · have i1 := itoa_len (n := x) ⟨b1, b2⟩
    have hz : (dec x).size = (dec (a : Int)).size + b.size := by rw [he]; simp
    have hz : (itoa x).length = (itoa (a : Int)).length + b.size := hz
    rw [digit_eq (by omega)]
    refine ⟨?_, ?_⟩
    · show (1 : Int) + b.size ≤ _
      omega
    · rw [he, dec_eq, dec_last (by omega), lit1])
theorem k_l16Dec (n : Nat) : SoundC Tryd.prog (K_l16Dec n).1 (K_l16Dec n).2 := by
  induction n with
  | zero => exact sound_of hm CtxOK.nil (fun _ => []) (by kernel_rfl) fun x h => absurd h.2 (Nat.not_lt_zero _)
  | succ n ih => exact sound_ofW hm (CtxOK.nil.and (K := K_l16Dec n) ih) (fun (x : Int) => A_l16Dec x) (by kernel_rfl) fun (x : Int) hb => g_l16Dec n x hb.1 hb.2
theorem k_dec : SoundC Tryd.prog K_dec.1 K_dec.2 := SoundC.fam (fun (x : Int) => if x < 0 then 1 else 0) fun n => k_l16Dec n
set_option maxHeartbeats 8000000 in
theorem g_l4Line (x : Pl.Sym) (h1 : symOk x = true) : GoalW Tryd.prog [K_dec] (A_l4Line x) K_l4Line.1 K_l4Line.2 (x) := GoalW.of (vc_l4Line x) (by
  simp only [lit0, lit1, lit2, lit3, lit4, dec_eq, textT_eq, byteS_eq, bapp, mkB_size, mkB_inj]
  simp (maxSteps := 2000000) [-List.getD_eq_getElem?_getD, -List.mem_cons, -Bool.forall_bool, -Bool.exists_bool, and_assoc, peta, tl_inj, ex_1, ex_2, ex_3, ex_4, ex_5, ex_6, ex_7, ex_8, ex_9, ey_2, ey_3, ey_4, ey_5, ey_6, ey_7, ey_8, ey_9]
  obtain ⟨f1, f2, f3, f4⟩ := sym_facts h1
  have i3 := itoa_len f3
  have c3 := fun k => itoaC_len f2 f4 k
  obtain ⟨nm, ar, so⟩ := x
  obtain ⟨nb, rfl⟩ := exB nm
  dsimp only at *
  simp only [blmk, mkB_size, mkB_inj, bapp] at *
  refine ⟨⟨0, by omega, rfl, rfl⟩, fun k hk => ⟨fun hlt => ?_, fun hge => ⟨fun he => ?_, fun he => ?_⟩⟩⟩
  · have c4 := c3 k
    have i4 := f4 _ (getD_mem 0 hlt)
    have i5 := itoa_len i4
    exact ⟨hlt, i4, by omega, k + 1, hlt, by omega, (catB_step 0 itoa hlt).symm, wrap_small (by omega) (by omega)⟩
  · rw [catB_all _ hge] at he
    refine ⟨by omega, by omega, by omega, f3, by omega, by omega, ?_⟩
    simp only [lineS, symB, args_nil he, blmk, List.append_assoc]
  · have c4 := c3 k
    rw [catB_all _ hge] at he
    refine ⟨by omega, by omega, by omega, f3, by omega, by omega, ?_⟩
    rw [catB_all _ hge]
    simp only [lineS, symB, args_cons he, blmk, List.append_assoc])
theorem k_l4Line : SoundC Tryd.prog K_l4Line.1 K_l4Line.2 := sound_ofW hm (CtxOK.nil.and k_dec) (fun (x : Pl.Sym) => A_l4Line x) (by kernel_rfl) fun (x : Pl.Sym) hb => g_l4Line x hb
set_option maxHeartbeats 8000000 in
theorem g_sSigText (x : Pl.Sig) (h1 : SmG x) : GoalW Tryd.prog [K_sSigOk, K_l4Line] (A_sSigText x) K_sSigText.1 K_sSigText.2 (x) := GoalW.of (vc_sSigText x) (by
  simp only [lit0, lit1, lit2, lit3, lit4, dec_eq, textT_eq, byteS_eq, bapp, mkB_size, mkB_inj]
  simp (maxSteps := 2000000) [-List.getD_eq_getElem?_getD, -List.mem_cons, -Bool.forall_bool, -Bool.exists_bool, and_assoc, peta, tl_inj, ex_1, ex_2, ex_3, ex_4, ex_5, ex_6, ex_7, ex_8, ex_9, ey_2, ey_3, ey_4, ey_5, ey_6, ey_7, ey_8, ey_9]
  refine ⟨⟨0, by omega, .inr rfl, rfl, rfl⟩, fun k hk hr => ⟨fun hlt => ⟨h1, fun h2 => ?_, fun h2 => ?_⟩, fun hge => ?_⟩⟩
  · obtain ⟨f1, f2⟩ := sig_facts h2
    have f3 := f2 _ (getD_mem dY hlt)
    have f4 := symB_len f3
    have f5 := sigB_len h2 k
    refine ⟨hlt, f3, ?_, k + 1, hlt, .inl h2, by omega, (catB_step dY lineS hlt).symm, wrap_small (by omega) (by omega)⟩
    unfold lineS; simp only [List.length_append, List.length_singleton]; omega
  · rcases hr with hr | hr
    · rw [hr] at h2; cases h2
    · subst hr; exact (tx_no h2).symm
  · rcases hr with hr | hr
    · rw [tx_yes hr, mkB_inj]; exact catB_all _ hge
    · have : x = [] := List.length_eq_zero_iff.1 (by omega)
      subst this; subst hr; rfl)
theorem k_sSigText : SoundC Tryd.prog K_sSigText.1 K_sSigText.2 := sound_ofW hm ((CtxOK.nil.and k_l4Line).and k_sSigOk) (fun (x : Pl.Sig) => A_sSigText x) (by kernel_rfl) fun (x : Pl.Sig) hb => g_sSigText x hb
set_option maxHeartbeats 8000000 in
theorem g_symtext (x : Pl.Sym) (h1 : symOk x = true) : GoalW Tryd.prog [K_Itoa] (A_symtext x) K_symtext.1 K_symtext.2 (x) := GoalW.of (vc_symtext x) (by
  simp only [lit0, lit1, lit2, lit3, lit4, dec_eq, textT_eq, byteS_eq, bapp, mkB_size, mkB_inj]
  simp (maxSteps := 2000000) [-List.getD_eq_getElem?_getD, -List.mem_cons, -Bool.forall_bool, -Bool.exists_bool, and_assoc, peta, tl_inj, ex_1, ex_2, ex_3, ex_4, ex_5, ex_6, ex_7, ex_8, ex_9, ey_2, ey_3, ey_4, ey_5, ey_6, ey_7, ey_8, ey_9]
  obtain ⟨f1, f2, f3, f4⟩ := sym_facts h1
  have i3 := itoa_len f3
  have c3 := fun k => itoaC_len f2 f4 k
  obtain ⟨nm, ar, so⟩ := x
  obtain ⟨nb, rfl⟩ := exB nm
  dsimp only at *
  simp only [blmk, mkB_size, mkB_inj, bapp] at *
  refine ⟨⟨0, by omega, rfl, rfl⟩, fun k hk => ⟨fun hlt => ?_, fun hge => ⟨fun he => ?_, fun he => ?_⟩⟩⟩
  · have c4 := c3 k
    have i4 := f4 _ (getD_mem 0 hlt)
    have i5 := itoa_len i4
    exact ⟨hlt, i4, by omega, k + 1, hlt, by omega, (catB_step 0 itoa hlt).symm, wrap_small (by omega) (by omega)⟩
  · rw [catB_all _ hge] at he
    refine ⟨by omega, by omega, by omega, f3, by omega, ?_⟩
    simp only [symB, args_nil he, blmk, List.append_assoc]
  · have c4 := c3 k
    rw [catB_all _ hge] at he
    refine ⟨by omega, by omega, by omega, f3, by omega, ?_⟩
    rw [catB_all _ hge]
    simp only [symB, args_cons he, blmk, List.append_assoc])
theorem k_symtext : SoundC Tryd.prog K_symtext.1 K_symtext.2 := sound_ofW hm (CtxOK.nil.and k_Itoa) (fun (x : Pl.Sym) => A_symtext x) (by kernel_rfl) fun (x : Pl.Sym) hb => g_symtext x hb
end Cg

/-
  A text is one thing's: no two right atoms have one text. No condition.
-/
set_option linter.unusedVariables false
set_option linter.unusedSimpArgs false
namespace Pl
open Go Cg
/-- Does a list open with a byte of a kind? -/
def opens (p : UInt8 → Bool) : List UInt8 → Bool
  | [] => false
  | c :: _ => p c
def dig (c : UInt8) : Bool := decide (48 ≤ c.toNat) && decide (c.toNat ≤ 57)
theorem split_all {p : UInt8 → Bool} : ∀ {a b r s : List UInt8}, a.all p = true → b.all p = true → opens p r = false → opens p s = false → a ++ r = b ++ s → a = b ∧ r = s
  | [], [], r, s, _, _, _, _, h => ⟨rfl, h⟩
  | [], y :: b, r, s, _, hb, hr, _, h => by
    simp only [List.nil_append, List.cons_append] at h
    subst h
    simp only [List.all_cons, Bool.and_eq_true] at hb
    simp [opens, hb.1] at hr
  | x :: a, [], r, s, ha, _, _, hs, h => by
    simp only [List.nil_append, List.cons_append] at h
    subst h
    simp only [List.all_cons, Bool.and_eq_true] at ha
    simp [opens, ha.1] at hs
  | x :: a, y :: b, r, s, ha, hb, hr, hs, h => by
    simp only [List.cons_append, List.cons.injEq] at h
    simp only [List.all_cons, Bool.and_eq_true] at ha hb
    obtain ⟨h1, h2⟩ := split_all ha.2 hb.2 hr hs h.2
    exact ⟨by rw [h.1, h1], h2⟩
theorem dig_of (d : Nat) (h : d < 10) : dig (UInt8.ofNat (48 + d)) = true := by
  have : d = 0 ∨ d = 1 ∨ d = 2 ∨ d = 3 ∨ d = 4 ∨ d = 5 ∨ d = 6 ∨ d = 7 ∨ d = 8 ∨ d = 9 := by omega
  rcases this with e | e | e | e | e | e | e | e | e | e <;> subst e <;> rfl
theorem dec_dig : ∀ (u : Nat), (Go.Lib.decDigits u).all dig = true := fun u => by
  induction u using Nat.strongRecOn with
  | ind u ih =>
    rw [Go.Lib.decDigits]
    split
    · rename_i h
      rw [List.all_cons, dig_of u h]; rfl
    · rename_i h
      rw [List.all_append, ih (u / 10) (by omega)]
      rw [List.all_cons, dig_of (u % 10) (Nat.mod_lt _ (by omega))]; rfl
def val (l : List UInt8) : Nat := l.foldl (fun a c => a * 10 + (c.toNat - 48)) 0
theorem val_dec (u : Nat) : val (Go.Lib.decDigits u) = u := by
  induction u using Nat.strongRecOn with
  | ind u ih =>
    rw [Go.Lib.decDigits]
    split
    · rename_i h
      show 0 * 10 + ((UInt8.ofNat (48 + u)).toNat - 48) = u
      have : (UInt8.ofNat (48 + u)).toNat = 48 + u := by rw [UInt8.toNat_ofNat']; omega
      rw [this]; omega
    · rename_i h
      unfold val
      rw [List.foldl_append]
      show (val (Go.Lib.decDigits (u / 10))) * 10 + ((UInt8.ofNat (48 + u % 10)).toNat - 48) = u
      have : (UInt8.ofNat (48 + u % 10)).toNat = 48 + u % 10 := by rw [UInt8.toNat_ofNat']; omega
      rw [ih (u / 10) (by omega), this]; omega
theorem dec_ne (u : Nat) : Go.Lib.decDigits u ≠ [] := by
  rw [Go.Lib.decDigits]
  split <;> simp
theorem dec_open (u : Nat) (r : List UInt8) : opens dig (Go.Lib.decDigits u ++ r) = true := by
  have h := dec_dig u
  cases e : Go.Lib.decDigits u with
  | nil => exact absurd e (dec_ne u)
  | cons c l => rw [e] at h; simp only [List.all_cons, Bool.and_eq_true] at h; exact h.1
theorem itoa_split {n m : Int} {r s : List UInt8} (hr : opens dig r = false) (hs : opens dig s = false) (h : itoa n ++ r = itoa m ++ s) : n = m ∧ r = s := by
  unfold itoa Go.Lib.itoa at h
  by_cases h1 : n < 0 <;> by_cases h2 : m < 0
  · rw [if_pos h1, if_pos h2] at h
    simp only [List.cons_append, List.cons.injEq, true_and] at h
    obtain ⟨e1, e2⟩ := split_all (dec_dig _) (dec_dig _) hr hs h
    have := congrArg val e1
    rw [val_dec, val_dec] at this
    exact ⟨by omega, e2⟩
  · rw [if_pos h1, if_neg h2] at h
    have := dec_open m.toNat s
    rw [← h] at this
    simp [opens, dig] at this
  · rw [if_neg h1, if_pos h2] at h
    have := dec_open n.toNat r
    rw [h] at this
    simp [opens, dig] at this
  · rw [if_neg h1, if_neg h2] at h
    obtain ⟨e1, e2⟩ := split_all (dec_dig _) (dec_dig _) hr hs h
    have := congrArg val e1
    rw [val_dec, val_dec] at this
    exact ⟨by omega, e2⟩
mutual
/-- Is every word of a term a name? -/
def named : Tm → Bool
  | .mk v ks => nameOk v && nameds ks
def nameds : List Tm → Bool
  | [] => true
  | t :: ts => named t && nameds ts
end
/-- What may stand behind a term. -/
def tail (r : List UInt8) : Bool := !opens lower r && !opens (fun c => decide (c = 40)) r
theorem tail_lower {r : List UInt8} (h : tail r = true) : opens lower r = false := by simp only [tail, Bool.and_eq_true, Bool.not_eq_true'] at h; exact h.1
theorem tail_open {r s : List UInt8} (h : tail r = true) : r ≠ 40 :: s := fun e => by subst e; cases h
theorem textB_open (v : ByteArray) (ks : List Tm) (r : List UInt8) : textB (.mk v ks) ++ r = bl' v ++ (if ks = [] then r else 40 :: (interL [44] (textBs ks) ++ 41 :: r)) := by
  rw [textB]
  cases ks with
  | nil => simp
  | cons k ks => simp
theorem name_lower {v : ByteArray} (h : nameOk v = true) : (bl' v).all lower = true := by
  simp only [nameOk, Bool.and_eq_true] at h; exact h.2
mutual
theorem text_split : ∀ (t u : Tm) (r s : List UInt8), named t = true → named u = true → tail r = true → tail s = true → textB t ++ r = textB u ++ s → t = u ∧ r = s
  | .mk v ks, .mk v' ks', r, s, ht, hu, hr, hs, h => by
    simp only [named, Bool.and_eq_true] at ht hu
    rw [textB_open, textB_open] at h
    have o : ∀ (ks : List Tm) (r : List UInt8), tail r = true → opens lower (if ks = [] then r else 40 :: (interL [44] (textBs ks) ++ 41 :: r)) = false := fun ks r hr => by
      split
      · exact tail_lower hr
      · rfl
    obtain ⟨e1, e2⟩ := split_all (name_lower ht.1) (name_lower hu.1) (o ks r hr) (o ks' s hs) h
    have e1 : v = v' := mkB_inj.2 e1
    subst e1
    by_cases h1 : ks = [] <;> by_cases h2 : ks' = []
    · rw [if_pos h1, if_pos h2] at e2; exact ⟨by rw [h1, h2], e2⟩
    · rw [if_pos h1, if_neg h2] at e2; exact absurd e2 (tail_open hr)
    · rw [if_neg h1, if_pos h2] at e2; exact absurd e2.symm (tail_open hs)
    · rw [if_neg h1, if_neg h2] at e2
      simp only [List.cons.injEq, true_and] at e2
      obtain ⟨e3, e4⟩ := texts_split ks ks' r s h1 h2 ht.2 hu.2 e2
      exact ⟨by rw [e3], e4⟩
theorem texts_split : ∀ (ts us : List Tm) (r s : List UInt8), ts ≠ [] → us ≠ [] → nameds ts = true → nameds us = true → interL [44] (textBs ts) ++ 41 :: r = interL [44] (textBs us) ++ 41 :: s → ts = us ∧ r = s
  | [], _, _, _, h, _, _, _, _ => absurd rfl h
  | [t], us, r, s, _, hu, h1, h2, h => by
    simp only [nameds, Bool.and_eq_true, Bool.and_true] at h1
    cases us with
    | nil => exact absurd rfl hu
    | cons u us =>
      simp only [nameds, Bool.and_eq_true] at h2
      cases us with
      | nil =>
        obtain ⟨e1, e2⟩ := text_split t u (41 :: r) (41 :: s) h1 h2.1 rfl rfl h
        simp only [List.cons.injEq, true_and] at e2
        exact ⟨by rw [e1], e2⟩
      | cons u2 us =>
        simp only [textBs, interL, List.append_assoc] at h
        obtain ⟨e1, e2⟩ := text_split t u (41 :: r) _ h1 h2.1 rfl rfl h
        simp at e2
  | t :: t2 :: ts, us, r, s, _, hu, h1, h2, h => by
    rw [nameds, Bool.and_eq_true] at h1
    cases us with
    | nil => exact absurd rfl hu
    | cons u us =>
      rw [nameds, Bool.and_eq_true] at h2
      cases us with
      | nil =>
        simp only [textBs, interL, List.append_assoc] at h
        obtain ⟨e1, e2⟩ := text_split t u _ (41 :: s) h1.1 h2.1 rfl rfl h
        simp at e2
      | cons u2 us =>
        have h' : textB t ++ (44 :: (interL [44] (textBs (t2 :: ts)) ++ 41 :: r)) = textB u ++ (44 :: (interL [44] (textBs (u2 :: us)) ++ 41 :: s)) := by
          simpa [textBs, interL] using h
        obtain ⟨e1, e2⟩ := text_split t u _ _ h1.1 h2.1 rfl rfl h'
        simp only [List.cons.injEq, true_and] at e2
        obtain ⟨e3, e4⟩ := texts_split (t2 :: ts) (u2 :: us) r s (by simp) (by simp) h1.2 h2.2 e2
        exact ⟨by rw [e1, e3], e4⟩
end
theorem name_split {v u : ByteArray} {r s : List UInt8} (hv : nameOk v = true) (hu : nameOk u = true) (hr : opens lower r = false) (hs : opens lower s = false) (h : bl' v ++ r = bl' u ++ s) : v = u ∧ r = s := by
  obtain ⟨e1, e2⟩ := split_all (name_lower hv) (name_lower hu) hr hs h
  exact ⟨mkB_inj.2 e1, e2⟩
theorem args_split {l k : List Int} {r s : List UInt8} (hl : l.length ≤ 2 ∧ l.all isSort = true) (hk : k.length ≤ 2 ∧ k.all isSort = true) (h : argsB l ++ (32 :: r) = argsB k ++ (32 :: s)) : l = k ∧ r = s := by
  have tri : ∀ {l : List Int}, l.length ≤ 2 → l.all isSort = true → l = [] ∨ l = [0] ∨ l = [1] ∨ l = [0, 0] ∨ l = [0, 1] ∨ l = [1, 0] ∨ l = [1, 1] := fun {l} h1 h2 => by
    match l, h1, h2 with
    | [], _, _ => exact .inl rfl
    | [a], _, h2 =>
      simp only [List.all_cons, List.all_nil, Bool.and_true, isSort_iff] at h2
      rcases h2 with e | e <;> subst e <;> simp
    | [a, b], _, h2 =>
      simp only [List.all_cons, List.all_nil, Bool.and_true, Bool.and_eq_true, isSort_iff] at h2
      rcases h2 with ⟨e | e, f | f⟩ <;> subst e <;> subst f <;> simp
    | a :: b :: c :: d, h1, _ => simp at h1
  have i0 : itoa 0 = [48] := dec_last (m := 0) (by omega)
  have i1 : itoa 1 = [49] := dec_last (m := 1) (by omega)
  rcases tri hl.1 hl.2 with e | e | e | e | e | e | e <;> rcases tri hk.1 hk.2 with f | f | f | f | f | f | f <;> subst e <;> subst f <;> simp [argsB, catB, i0, i1] at h ⊢ <;> exact h
theorem sym_split {x y : Sym} {r s : List UInt8} (hx : symOk x = true) (hy : symOk y = true) (h : lineS x ++ r = lineS y ++ s) : x = y ∧ r = s := by
  simp only [symOk, Bool.and_eq_true, decide_eq_true_eq] at hx hy
  have e : bl' x.1 ++ (32 :: (argsB x.2.1 ++ (32 :: (itoa x.2.2 ++ (10 :: r))))) = bl' y.1 ++ (32 :: (argsB y.2.1 ++ (32 :: (itoa y.2.2 ++ (10 :: s))))) := by simpa [lineS, symB] using h
  obtain ⟨e1, e2⟩ := name_split hx.1.1.1 hy.1.1.1 rfl rfl e
  simp only [List.cons.injEq, true_and] at e2
  obtain ⟨e3, e4⟩ := args_split ⟨hx.1.1.2, hx.2⟩ ⟨hy.1.1.2, hy.2⟩ e2
  obtain ⟨e5, e6⟩ := itoa_split rfl rfl e4
  simp only [List.cons.injEq, true_and] at e6
  exact ⟨Prod.ext e1 (Prod.ext e3 e5), e6⟩
theorem syms_inj : ∀ {m n : Sig}, (∀ x ∈ m, symOk x = true) → (∀ x ∈ n, symOk x = true) → sigB m = sigB n → m = n
  | [], [], _, _, _ => rfl
  | x :: m, [], _, _, h => by simp [sigB, catB, lineS] at h
  | [], y :: n, _, _, h => by simp [sigB, catB, lineS] at h
  | x :: m, y :: n, hm, hn, h => by
    have e : lineS x ++ sigB m = lineS y ++ sigB n := h
    obtain ⟨e1, e2⟩ := sym_split (hm x List.mem_cons_self) (hn y List.mem_cons_self) e
    rw [e1, syms_inj (fun z hz => hm z (List.mem_cons_of_mem _ hz)) (fun z hz => hn z (List.mem_cons_of_mem _ hz)) e2]
theorem sigB_inj {m n : Sig} (hm : sigOk m = true) (hn : sigOk n = true) (h : sigB m = sigB n) : m = n := syms_inj (sig_facts hm).2 (sig_facts hn).2 h
/-- What a reader hands back: the right thing with the text, if there is one. -/
noncomputable def rd {α : Type} (R : α → Bool) (T : α → List UInt8) (z : α) (s : List UInt8) : α × Bool := by
  classical exact if h : ∃ a, R a = true ∧ T a = s then (Classical.choose h, true) else (z, false)
section
variable {α : Type} {R : α → Bool} {T : α → List UInt8} {z : α} {s : List UInt8}
theorem rd_yes (inj : ∀ {a b : α}, R a = true → R b = true → T a = T b → a = b) {a : α} (h1 : R a = true) (h2 : T a = s) : rd R T z s = (a, true) := by
  unfold rd
  have h : ∃ a, R a = true ∧ T a = s := ⟨a, h1, h2⟩
  rw [dif_pos h]
  have q := Classical.choose_spec h
  rw [inj q.1 h1 (q.2.trans h2.symm)]
theorem rd_no (h : ∀ a, R a = true → ¬ T a = s) : rd R T z s = (z, false) := by
  unfold rd
  rw [dif_neg fun ⟨a, h1, h2⟩ => h a h1 h2]
theorem rd_ok (h : (rd R T z s).2 = true) : R (rd R T z s).1 = true ∧ T (rd R T z s).1 = s := by
  by_cases he : ∃ a, R a = true ∧ T a = s
  · have q := Classical.choose_spec he
    unfold rd
    rw [dif_pos he]
    exact q
  · unfold rd at h
    rw [dif_neg he] at h
    cases h
end
end Pl

/-
  Plain laws: texts that are read: pieces, numerals. No condition.
-/
set_option linter.unusedVariables false
set_option linter.unusedSimpArgs false
namespace Pl
open Go Cg
theorem take_snoc {α : Type} (d : α) {l : List α} {i : Nat} (h : i < l.length) : l.take (i + 1) = l.take i ++ [l.getD i d] := by
  rw [List.take_add_one]
  simp [h]
theorem cutL_ne (c : UInt8) : ∀ l : List UInt8, cutL c l ≠ []
  | [] => by simp [cutL]
  | x :: r => by
    unfold cutL
    split
    · simp
    · split <;> simp
theorem cutL_cons {c x : UInt8} (h : x ≠ c) (r : List UInt8) : ∃ p ps, cutL c r = p :: ps ∧ cutL c (x :: r) = (x :: p) :: ps := by
  cases hr : cutL c r with
  | nil => exact absurd hr (cutL_ne c r)
  | cons p ps => exact ⟨p, ps, rfl, by rw [cutL, if_neg h, hr]⟩
theorem cutL_no {c : UInt8} : ∀ {a : List UInt8}, (∀ x ∈ a, x ≠ c) → cutL c a = [a]
  | [], _ => rfl
  | x :: a, h => by
    obtain ⟨p, ps, e1, e2⟩ := cutL_cons (h x List.mem_cons_self) a
    rw [cutL_no fun y hy => h y (List.mem_cons_of_mem _ hy)] at e1
    cases e1
    exact e2
theorem cutL_app {c : UInt8} : ∀ {a : List UInt8} (b : List UInt8), (∀ x ∈ a, x ≠ c) → cutL c (a ++ c :: b) = a :: cutL c b
  | [], b, _ => by simp [cutL]
  | x :: a, b, h => by
    obtain ⟨p, ps, e1, e2⟩ := cutL_cons (h x List.mem_cons_self) (a ++ c :: b)
    rw [cutL_app b fun y hy => h y (List.mem_cons_of_mem _ hy)] at e1
    cases e1
    exact e2
theorem cutL_len (c : UInt8) : ∀ l : List UInt8, (cutL c l).length ≤ l.length + 1
  | [] => by simp [cutL]
  | x :: r => by
    have ih := cutL_len c r
    by_cases h : x = c
    · rw [cutL, if_pos h]; simp only [List.length_cons]; omega
    · obtain ⟨p, ps, e1, e2⟩ := cutL_cons h r
      rw [e2]; rw [e1] at ih; simp only [List.length_cons] at ih ⊢; omega
/-- No piece is longer than the text. -/
theorem cutL_le (c : UInt8) : ∀ (l : List UInt8), ∀ p ∈ cutL c l, p.length ≤ l.length
  | [], p, h => by simp [cutL] at h; subst h; simp
  | x :: r, p, h => by
    by_cases hx : x = c
    · rw [cutL, if_pos hx] at h
      rcases List.mem_cons.1 h with rfl | h
      · simp
      · have := cutL_le c r p h; simp only [List.length_cons]; omega
    · obtain ⟨q, qs, e1, e2⟩ := cutL_cons hx r
      rw [e2] at h
      rcases List.mem_cons.1 h with rfl | h
      · have := cutL_le c r q (by rw [e1]; exact List.mem_cons_self); simp only [List.length_cons]; omega
      · have := cutL_le c r p (by rw [e1]; exact List.mem_cons_of_mem _ h); simp only [List.length_cons]; omega
theorem cut_le {c : UInt8} {s p : ByteArray} (h : p ∈ cut c s) : p.size ≤ s.size := by
  obtain ⟨q, hq, rfl⟩ := List.mem_map.1 h
  exact cutL_le c _ q hq
theorem cut_len (c : UInt8) (s : ByteArray) : (cut c s).length ≤ s.size + 1 := by
  unfold cut; rw [List.length_map]; exact cutL_len c (bl' s)
theorem cut_ne (c : UInt8) (s : ByteArray) : 0 < (cut c s).length := by
  unfold cut; rw [List.length_map]
  exact List.length_pos_iff.2 (cutL_ne c _)
/-- A text is its pieces. -/
theorem cutL_flat (c : UInt8) : ∀ l : List UInt8, l = (cutL c l).dropLast.flatMap (· ++ [c]) ++ (cutL c l).getLastD []
  | [] => rfl
  | x :: r => by
    have ih := cutL_flat c r
    by_cases hx : x = c
    · rw [cutL, if_pos hx]
      cases hr : cutL c r with
      | nil => exact absurd hr (cutL_ne c r)
      | cons p ps =>
        rw [hr] at ih
        rw [List.dropLast_cons_of_ne_nil (by simp), List.flatMap_cons]
        have : ([] :: p :: ps).getLastD [] = (p :: ps).getLastD ([] : List UInt8) := by simp [List.getLastD]
        rw [this, hx]
        simp only [List.nil_append, List.cons_append, List.append_assoc, List.singleton_append, List.cons.injEq, true_and]
        exact ih
    · obtain ⟨p, ps, e1, e2⟩ := cutL_cons hx r
      rw [e2]
      rw [e1] at ih
      cases ps with
      | nil => rw [ih]; simp
      | cons q qs =>
        rw [List.dropLast_cons_of_ne_nil (by simp), List.flatMap_cons]
        rw [List.dropLast_cons_of_ne_nil (by simp), List.flatMap_cons] at ih
        have g : ∀ a : List UInt8, (a :: q :: qs).getLastD [] = (q :: qs).getLastD ([] : List UInt8) := fun a => by simp [List.getLastD]
        rw [g] at ih ⊢
        conv => lhs; rw [ih]
        simp
theorem vl_val (l : List UInt8) : vl l = val l := rfl
theorem vl_snoc (l : List UInt8) (c : UInt8) : vl (l ++ [c]) = vl l * 10 + (c.toNat - 48) := by unfold vl; rw [List.foldl_append]; rfl
theorem vl_lt' : ∀ (l : List UInt8) (a : Nat), l.all isDig = true → l.foldl (fun a c => a * 10 + (c.toNat - 48)) a + 1 ≤ (a + 1) * 10 ^ l.length
  | [], a, _ => by simp
  | c :: r, a, h => by
    simp only [List.all_cons, Bool.and_eq_true] at h
    have hc := h.1
    simp only [isDig, Bool.and_eq_true, decide_eq_true_eq] at hc
    have ih := vl_lt' r (a * 10 + (c.toNat - 48)) h.2
    rw [List.foldl_cons, List.length_cons, Nat.pow_succ]
    refine Nat.le_trans ih ?_
    rw [Nat.mul_comm (10 ^ r.length) 10, ← Nat.mul_assoc]
    exact Nat.mul_le_mul_right _ (by omega)
theorem vl_lt (l : List UInt8) (h : l.all isDig = true) : vl l < 10 ^ l.length := by
  have := vl_lt' l 0 h
  unfold vl
  omega
/-- A number's digits are few. -/
theorem dec_len : ∀ (k u : Nat), 0 < k → u < 10 ^ k → (Go.Lib.decDigits u).length ≤ k
  | 0, u, h, _ => absurd h (Nat.lt_irrefl _)
  | k + 1, u, _, h => by
    rw [Go.Lib.decDigits]
    split
    · simp
    · rename_i hu
      have hk : 0 < k := by
        cases k with
        | zero => simp at h; omega
        | succ k => exact Nat.succ_pos k
      have := dec_len k (u / 10) hk (by rw [Nat.pow_succ] at h; omega)
      simp only [List.length_append, List.length_cons, List.length_nil]; omega
/-- No number but 0 begins with the digit 0. -/
theorem dec_first (u : Nat) : (Go.Lib.decDigits u).getD 0 0 = 48 → u = 0 := by
  induction u using Nat.strongRecOn with
  | ind u ih =>
    rw [Go.Lib.decDigits]
    split
    · rename_i h
      intro e
      have e : UInt8.ofNat (48 + u) = 48 := e
      have := congrArg UInt8.toNat e
      rw [UInt8.toNat_ofNat'] at this
      have h48 : (48 : UInt8).toNat = 48 := rfl
      rw [h48] at this
      omega
    · rename_i h
      intro e
      have hne := dec_ne (u / 10)
      have e' : (Go.Lib.decDigits (u / 10)).getD 0 0 = 48 := by
        cases hd : Go.Lib.decDigits (u / 10) with
        | nil => exact absurd hd hne
        | cons c l => rw [hd] at e; exact e
      have := ih (u / 10) (by omega) e'
      omega
theorem dec_zero : Go.Lib.decDigits 0 = [48] := by rw [Go.Lib.decDigits]; rfl
theorem numD_dec {u : Nat} {neg : Bool} (h : u < 10 ^ 17) (hn : neg = true → u ≠ 0) : numD neg (Go.Lib.decDigits u) = (if neg = true then -(u : Int) else u, true) := by
  unfold numD
  have h1 := dec_len 17 u (by omega) h
  have h2 : (Go.Lib.decDigits u).length ≠ 0 := fun e => dec_ne u (List.length_eq_zero_iff.1 e)
  rw [if_neg, if_pos (by have := dec_dig u; exact this)]
  · rw [vl_val, val_dec]
  · rintro (h' | h' | ⟨h3, h4⟩)
    · exact h2 h'
    · omega
    · have hz := dec_first u h3
      subst hz
      rcases h4 with h4 | h4
      · rw [dec_zero] at h4; simp at h4
      · exact hn h4 rfl
theorem dec_head (u : Nat) : (Go.Lib.decDigits u).getD 0 0 ≠ 45 := fun e => by
  have h := dec_open u []
  rw [List.append_nil] at h
  cases hd : Go.Lib.decDigits u with
  | nil => exact dec_ne u hd
  | cons c l => rw [hd] at e h; have e : c = 45 := e; subst e; cases h
theorem numL_itoa {n : Int} (h1 : -100000000000000000 < n) (h2 : n < 100000000000000000) : numL (itoa n) = (n, true) := by
  unfold itoa Go.Lib.itoa numL
  by_cases h : n < 0
  · rw [if_pos h, if_pos ⟨by simp, rfl⟩]
    show numD true (Go.Lib.decDigits n.natAbs) = _
    rw [numD_dec (by have : (10 : Nat) ^ 17 = 100000000000000000 := by decide
                     rw [this]; omega) (fun _ => by omega), if_pos rfl]
    refine Prod.ext ?_ rfl
    show -((n.natAbs : Nat) : Int) = n
    omega
  · rw [if_neg h, if_neg fun e => dec_head _ e.2]
    rw [numD_dec (by have : (10 : Nat) ^ 17 = 100000000000000000 := by decide
                     rw [this]; omega) (fun e => by cases e), if_neg (by simp)]
    refine Prod.ext ?_ rfl
    show ((n.toNat : Nat) : Int) = n
    omega
theorem parse_digs : ∀ (l : List UInt8) (acc : Nat), l.all isDig = true → l.foldl (fun a c => a * 10 + (c.toNat - 48)) acc < 9223372036854775809 → Go.Lib.parseUint10 acc l = .ok (l.foldl (fun a c => a * 10 + (c.toNat - 48)) acc)
  | [], acc, _, _ => rfl
  | c :: r, acc, h, hb => by
    simp only [List.all_cons, Bool.and_eq_true] at h
    have hc := h.1
    simp only [isDig, Bool.and_eq_true, decide_eq_true_eq] at hc
    have mono : ∀ (l : List UInt8) (a : Nat), a ≤ l.foldl (fun a c => a * 10 + (c.toNat - 48)) a := fun l => by
      induction l with
      | nil => intro a; exact Nat.le_refl _
      | cons x l ih => intro a; exact Nat.le_trans (show a ≤ a * 10 + (x.toNat - 48) by omega) (ih _)
    have hm := mono r (acc * 10 + (c.toNat - 48))
    rw [List.foldl_cons] at hb
    rw [Go.Lib.parseUint10, if_pos hc, if_neg (by omega), if_neg (by omega), parse_digs r _ h.2 hb]
    rfl
theorem atoiL_itoa {n : Int} (h1 : -9223372036854775808 ≤ n) (h2 : n ≤ 9223372036854775807) : atoiL (itoa n) = n := by
  have mag : ∀ u : Nat, u < 9223372036854775809 → Go.Lib.parseMag (Go.Lib.decDigits u) = .ok u := fun u hu => by
    unfold Go.Lib.parseMag
    have hv : (Go.Lib.decDigits u).foldl (fun a c => a * 10 + (c.toNat - 48)) 0 = u := val_dec u
    rw [if_neg (dec_ne u), parse_digs _ 0 (dec_dig u) (by rw [hv]; exact hu), hv]
  unfold atoiL itoa Go.Lib.itoa
  by_cases h : n < 0
  · rw [if_pos h]
    have : Go.Lib.atoiAll (45 :: Go.Lib.decDigits n.natAbs) = .ok n := by
      unfold Go.Lib.atoiAll
      have h45 : (45 : UInt8).toNat = 45 := rfl
      simp only [h45, or_true, if_true, mag n.natAbs (by omega)]
      rw [if_neg (by simp), if_neg (by omega)]
      refine congrArg Go.Lib.NumEnd.ok ?_
      omega
    rw [this]
  · rw [if_neg h]
    have h' : Go.Lib.atoiAll (Go.Lib.decDigits n.toNat) = .ok n := by
      cases hd : Go.Lib.decDigits n.toNat with
      | nil => exact absurd hd (dec_ne _)
      | cons c l =>
        have ho := dec_open n.toNat []
        rw [List.append_nil, hd] at ho
        simp only [opens, dig, Bool.and_eq_true, decide_eq_true_eq] at ho
        unfold Go.Lib.atoiAll
        have e1 : ¬ c.toNat = 43 := by omega
        have e2 : ¬ c.toNat = 45 := by omega
        simp only [e1, e2, or_self, if_false]
        rw [← hd, mag n.toNat (by omega)]
        simp only [not_false_eq_true, true_and, false_and, if_false]
        rw [if_neg (by omega)]
        refine congrArg Go.Lib.NumEnd.ok ?_
        omega
    rw [h']
end Pl

/-
  The codes' contracts: texts that are read: the library's functions, pieces, numerals. No condition.
-/
set_option linter.unusedVariables false
set_option linter.unusedSimpArgs false
set_option maxRecDepth 100000
namespace Pl
open Go Cg
theorem split_cut (c : UInt8) : ∀ l : List UInt8, Go.Lib.splitK [c] 0 (Go.Lib.count l [c]) l = cutL c l
  | [] => by
    have h : Go.Lib.index [] [c] = -1 := rfl
    rw [Go.Lib.count_miss h]; rfl
  | x :: r => by
    have ih := split_cut c r
    by_cases hx : x = c
    · subst hx
      have h : Go.Lib.index (x :: r) [x] = ((0 : Nat) : Int) := by
        unfold Go.Lib.index
        rw [if_pos (by simp)]; rfl
      rw [Go.Lib.count_hit (by simp) h, Nat.add_comm, Go.Lib.splitK, if_neg (by rw [h]; decide), h]
      rw [cutL, if_pos rfl, ← ih]
      rfl
    · obtain ⟨p, ps, e1, e2⟩ := cutL_cons hx r
      rw [e2]
      have hp : [c].isPrefixOf (x :: r) = false := by simp [List.isPrefixOf, Ne.symm hx]
      rcases Go.Lib.index_spec r [c] with ⟨h1, _⟩ | ⟨i, h1, hi, _, _⟩
      · have h : Go.Lib.index (x :: r) [c] = -1 := by unfold Go.Lib.index; rw [hp, h1]; rfl
        rw [Go.Lib.count_miss h]
        rw [Go.Lib.count_miss h1, e1] at ih
        cases ih
        rfl
      · have h : Go.Lib.index (x :: r) [c] = ((i + 1 : Nat) : Int) := by
          unfold Go.Lib.index
          rw [hp, h1]
          have : ((i : Int) == -1) = false := by rw [beq_eq_false_iff_ne]; omega
          simp [this]
        have hc := Go.Lib.count_hit (sub := [c]) (by simp) h
        have hr := Go.Lib.count_hit (sub := [c]) (by simp) h1
        have hd : (x :: r).drop (i + 1 + [c].length) = r.drop (i + [c].length) := by
          rw [show i + 1 + [c].length = (i + [c].length) + 1 by omega, List.drop_succ_cons]
        rw [hd] at hc
        have m1 : ¬ (Go.Lib.index (x :: r) [c] == -1) = true := by rw [h]; simp only [beq_iff_eq]; omega
        have m2 : ¬ (Go.Lib.index r [c] == -1) = true := by rw [h1]; simp only [beq_iff_eq]; omega
        rw [hr, e1, Nat.add_comm 1, Go.Lib.splitK, if_neg m2, h1] at ih
        rw [hc, Nat.add_comm 1, Go.Lib.splitK, if_neg m1, h]
        simp only [Int.toNat_natCast, Nat.add_zero] at ih ⊢
        rw [hd, List.take_succ_cons]
        rw [List.cons.injEq] at ih ⊢
        exact ⟨by rw [ih.1], ih.2⟩
theorem count_cut (c : UInt8) : ∀ l : List UInt8, (cutL c l).length = Go.Lib.count l [c] + 1
  | [] => by
    have h : Go.Lib.index [] [c] = -1 := rfl
    rw [Go.Lib.count_miss h]; rfl
  | x :: r => by
    have ih := count_cut c r
    by_cases hx : x = c
    · subst hx
      have h : Go.Lib.index (x :: r) [x] = ((0 : Nat) : Int) := by
        unfold Go.Lib.index
        rw [if_pos (by simp)]; rfl
      rw [Go.Lib.count_hit (by simp) h, cutL, if_pos rfl, List.length_cons, ih]
      show Go.Lib.count r [x] + 1 + 1 = 1 + Go.Lib.count ((x :: r).drop 1) [x] + 1
      rw [List.drop_succ_cons, List.drop_zero]; omega
    · obtain ⟨p, ps, e1, e2⟩ := cutL_cons hx r
      rw [e2]
      rw [e1] at ih
      have hp : [c].isPrefixOf (x :: r) = false := by simp [List.isPrefixOf, Ne.symm hx]
      rcases Go.Lib.index_spec r [c] with ⟨h1, _⟩ | ⟨i, h1, hi, _, _⟩
      · have h : Go.Lib.index (x :: r) [c] = -1 := by unfold Go.Lib.index; rw [hp, h1]; rfl
        rw [Go.Lib.count_miss h]
        rw [Go.Lib.count_miss h1] at ih
        simpa using ih
      · have h : Go.Lib.index (x :: r) [c] = ((i + 1 : Nat) : Int) := by
          unfold Go.Lib.index
          rw [hp, h1]
          have : ((i : Int) == -1) = false := by rw [beq_eq_false_iff_ne]; omega
          simp [this]
        have hc := Go.Lib.count_hit (sub := [c]) (by simp) h
        have hr := Go.Lib.count_hit (sub := [c]) (by simp) h1
        have hd : (x :: r).drop (i + 1 + [c].length) = r.drop (i + [c].length) := by
          rw [show i + 1 + [c].length = (i + [c].length) + 1 by omega, List.drop_succ_cons]
        rw [hd] at hc
        rw [hc, ← hr]
        exact ih
theorem bl_mk (l : List UInt8) : bl' (mkB l) = l := rfl
theorem splitB_cut (c : UInt8) (s : ByteArray) : Go.Lib.splitB (mkB [c]) 0 (Go.Lib.countB s (mkB [c])) s = cut c s := by
  have h := Go.Lib.splitB_data (mkB [c]) 0 (Go.Lib.countB s (mkB [c])) s
  have h2 : Go.Lib.splitK (mkB [c]).data.toList 0 (Go.Lib.countB s (mkB [c])) s.data.toList = cutL c (bl' s) := split_cut c (bl' s)
  rw [h2] at h
  unfold cut
  rw [← h, List.map_map]
  have e : (mkB ∘ fun (x : ByteArray) => x.data.toList) = id := by funext x; rfl
  rw [e, List.map_id]
end Pl
namespace Cg
open Go Go.Proofs Pl
theorem gl_max {S : Nat → Prop} {w : World} (h : Gl S w) : ∃ m, w.cell? ⟨2, 0, none⟩ = some (.int .i64 m) := by
  obtain ⟨h1, c, T, fr, h2, m, h3⟩ := h _ (List.mem_cons_of_mem _ List.mem_cons_self)
  have h2 : w.heap[(2 : Nat)]? = some (.cells c T fr) := h2
  exact ⟨m, by simp only [World.cell?, h2, h3]; rfl⟩
theorem gl_syn {S : Nat → Prop} {w : World} (h : Gl S w) : ∃ ev, w.cell? ⟨0, 0, none⟩ = some ev ∧ (ev = .nilIface ∨ ∃ te pe, ev = .iface te pe) := by
  obtain ⟨h1, c, T, fr, h2, m, h3, h4⟩ := h _ (List.mem_cons_of_mem _ (List.mem_cons_of_mem _ List.mem_cons_self))
  have h2 : w.heap[(0 : Nat)]? = some (.cells c T fr) := h2
  exact ⟨m, by simp only [World.cell?, h2, h3]; rfl, h4⟩
theorem gl_rng {S : Nat → Prop} {w : World} (h : Gl S w) : ∃ ev, w.cell? ⟨1, 0, none⟩ = some ev ∧ (ev = .nilIface ∨ ∃ te pe, ev = .iface te pe) := by
  obtain ⟨h1, c, T, fr, h2, m, h3, h4⟩ := h _ (List.mem_cons_of_mem _ (List.mem_cons_of_mem _ (List.mem_cons_of_mem _ List.mem_cons_self)))
  have h2 : w.heap[(1 : Nat)]? = some (.cells c T fr) := h2
  exact ⟨m, by simp only [World.cell?, h2, h3]; rfl, h4⟩
theorem k_Split : SoundC Tryd.prog K_Split.1 K_Split.2 := ⟨callable_of (by kernel_rfl), fun x hx S w vals hin hgl hrel => by
  obtain ⟨s, c⟩ := x
  replace hx : s.size ≤ 4294967280 := hx
  obtain ⟨y0, r0, rfl, ha, y1, r1, rfl, hb, hc⟩ := hrel
  cases hc
  have ha : y0 = .string s := ha
  have hb : y1 = .string (mkB [c]) := hb
  subst ha; subst hb
  obtain ⟨m, hm⟩ := gl_max hgl
  refine (Tryd.strings_Split s (mkB [c]) m w (by omega) hm (Nat.le_refl 1)).mono fun e w' ⟨he, hw⟩ => ?_
  rw [splitB_cut] at hw
  have hlen : Go.Lib.countB s (mkB [c]) + 1 = (cut c s).length := by
    have h1 := Go.Lib.splitB_length_le (mkB [c]) 0 (Go.Lib.countB s (mkB [c])) s
    rw [splitB_cut] at h1
    have h2 := count_cut c (bl' s)
    have h3 : Go.Lib.countB s (mkB [c]) = Go.Lib.count (bl' s) [c] := rfl
    unfold cut
    rw [List.length_map, h2, h3]
  rw [hlen] at he
  subst hw
  generalize hC : ((cut c s).map Value.string).toArray = C

  have hnew : (w.heap.push (Obj.cells C 9))[w.heap.size]? = some (Obj.cells C 9) := by rw [Array.getElem?_push, if_pos rfl]
  refine ⟨_, fun b => S b ∨ b = w.heap.size, he, Ext.push w _ w.drawn, fun b hb => .inl hb, fun b hb => hb.elim .inl fun e => .inr (by omega), fun b hb => ?_, ?_⟩
  · show b < (w.heap.push _).size
    rw [Array.size_push]
    rcases hb with hb | rfl
    · have := hin b hb; omega
    · omega
  · refine ⟨_, _, rfl, Nat.le_refl _, .inr ⟨_, _, rfl, .inr rfl, _, _, _, hnew, fun i hi j hj => ?_⟩⟩
    have hj0 : j = 0 := by omega
    subst hj0
    refine ⟨.string ((cut c s).getD i ByteArray.empty), ?_, rfl, rfl⟩
    subst hC
    simp [hi, List.getD_eq_getElem?_getD]⟩
theorem k_Atoi : SoundC Tryd.prog K_Atoi.1 K_Atoi.2 := ⟨callable_of (by kernel_rfl), fun s hx S w vals hin hgl hrel => by
  replace hx : s.size ≤ 4294967280 := hx
  obtain ⟨y0, r0, rfl, ha, hc⟩ := hrel
  cases hc
  have ha : y0 = .string s := ha
  subst ha
  have fin : ∀ (n : Int) (v : Value) (w' : World), n = atoi s → Ext w w' → ∃ y S', (Ending.returned (.tuple #[.int .i64 n, v])) = .returned y ∧ After S mu0 w (.tup [i64 (atoi s), .any]) y w' S' := fun n v w' hn he => by
    subst hn
    exact ⟨_, S, rfl, he, fun _ h => h, fun _ h => .inl h, fun b hb => Nat.lt_of_lt_of_le (hin b hb) he.size, [.int .i64 (atoi s), v], rfl, _, _, rfl, rfl, _, _, rfl, trivial, rfl⟩
  cases h : Go.Lib.atoiAll s.data.toList with
  | ok v =>
    refine (Tryd.strconv_Atoi_ok s (by omega) v h w).mono fun e w' ⟨he, hw⟩ => ?_
    subst he
    have hv : v = atoi s := by unfold atoi atoiL bl'; rw [h]
    rcases hw with rfl | ⟨t, rfl⟩
    · exact fin _ _ _ hv (Ext.refl _)
    · exact fin _ _ _ hv (Ext.ofBelow (Go.Lib.bytesWorld_below w _ t))
  | range =>
    obtain ⟨ev, h1, h2⟩ := gl_rng hgl
    refine (Tryd.strconv_Atoi_range s (by omega) h ev w h1 h2).mono fun e w' ⟨N, he, _, _, hw⟩ => ?_
    subst he
    exact fin _ _ _ (by unfold atoi atoiL bl'; rw [h]) (Ext.ofBelow hw)
  | _ =>
    obtain ⟨ev, h1, h2⟩ := gl_syn hgl
    refine (Tryd.strconv_Atoi_syntax s (by omega) (fun v q => by rw [h] at q; cases q) (fun q => by rw [h] at q; cases q) ev w h1 h2).mono fun e w' ⟨N, he, _, _, hw⟩ => ?_
    subst he
    exact fin _ _ _ (by unfold atoi atoiL bl'; rw [h]) (Ext.ofBelow hw)⟩
theorem byte_at (s : ByteArray) (i : Nat) : s.data[i]?.getD 0 = (bl' s).getD i 0 := by
  unfold bl'
  rw [List.getD_eq_getElem?_getD, Array.getElem?_toList]
theorem ext_mk (s : ByteArray) (a b : Nat) : s.extract a b = mkB (((bl' s).drop a).take (b - a)) := by
  apply ByteArray.ext
  apply Array.toList_inj.1
  show (s.extract a b).data.toList = _
  rw [ByteArray.data_extract, Array.toList_extract, List.extract_eq_take_drop]
  rfl
theorem bl_len (s : ByteArray) : (bl' s).length = s.size := rfl
theorem piece_end {c : UInt8} {l : List UInt8} {a : Nat} (h : ∀ k, a ≤ k → k < l.length → l.getD k 0 ≠ c) : cutL c (l.drop a) = [l.drop a] :=
  cutL_no fun x hx => by
    obtain ⟨i, hi, rfl⟩ := List.getElem_of_mem hx
    rw [List.length_drop] at hi
    have := h (a + i) (by omega) (by omega)
    rw [List.getElem_drop]
    rw [List.getD_eq_getElem?_getD, List.getElem?_eq_getElem (by omega)] at this
    exact this
theorem piece_step {c : UInt8} {l : List UInt8} {a i : Nat} (hai : a ≤ i) (hi : i < l.length) (hc : l.getD i 0 = c) (h : ∀ k, a ≤ k → k < i → l.getD k 0 ≠ c) :
    cutL c (l.drop a) = (l.drop a).take (i - a) :: cutL c (l.drop (i + 1)) := by
  have e : l.drop a = (l.drop a).take (i - a) ++ c :: l.drop (i + 1) := by
    have h1 : l.drop i = c :: l.drop (i + 1) := by
      rw [List.drop_eq_getElem_cons hi]
      rw [List.getD_eq_getElem?_getD, List.getElem?_eq_getElem hi] at hc
      rw [show l[i] = c from hc]
    rw [← h1]
    have := (List.take_append_drop (i - a) (l.drop a)).symm
    rw [List.drop_drop, show a + (i - a) = i by omega] at this
    exact this
  conv => lhs; rw [e]
  exact cutL_app _ fun x hx => by
    obtain ⟨k, hk, rfl⟩ := List.getElem_of_mem hx
    rw [List.length_take, List.length_drop] at hk
    have := h (a + k) (by omega) (by omega)
    rw [List.getElem_take, List.getElem_drop]
    rw [List.getD_eq_getElem?_getD, List.getElem?_eq_getElem (by omega)] at this
    exact this
set_option maxHeartbeats 8000000 in
theorem g_l16Cut (s : ByteArray) (c : UInt8) (h1 : SzT s) : GoalW Tryd.prog [] (A_l16Cut s c) K_l16Cut.1 K_l16Cut.2 ((s, c)) := GoalW.of (vc_l16Cut s c) (by
  simp (maxSteps := 2000000) [-List.getD_eq_getElem?_getD, -List.mem_cons, -Bool.forall_bool, -Bool.exists_bool, and_assoc, peta, tl_inj, ex_1, ex_2, ex_3, ex_4, ex_5, ex_6, ex_7, ex_8, ex_9, ey_2, ey_3, ey_4, ey_5, ey_6, ey_7, ey_8, ey_9]
  have hs : s.size ≤ 4294967280 := h1
  have hl := bl_len s
  refine ⟨⟨0, 0, Nat.le_refl _, [], Nat.le_refl _, by omega, fun k h1 h2 => absurd h2 (by omega), fun _ => ⟨by omega, by simp [cut]⟩, fun h => absurd h (by omega), rfl, rfl, rfl, rfl⟩, fun i fr b h2 h3 h4 h5 h6 h7 => ⟨fun hle => ⟨fun he => ?_, fun he => ⟨by omega, fun hc => ?_, fun hc => ?_⟩⟩, fun hgt => h7 hgt⟩⟩
  · have he : i = s.size := by omega
    subst he
    have e := (h6 hle).2
    rw [piece_end fun k k1 k2 => h5 k k1 (by omega) (by omega)] at e
    refine ⟨h2, hle, by omega, s.size + 1, s.size + 1, Nat.le_refl _, b ++ [s.extract fr s.size], by simp; omega, by omega, fun k k1 k2 k3 => by omega, fun h => absurd h (by omega), fun _ => ?_, by omega, by simp, by rw [wrap_small (by omega) (by omega)]; omega, by rw [wrap_small (by omega) (by omega)]; omega, strs_push⟩
    rw [e, ext_mk, List.take_of_length_le (by simp; omega)]
    rfl
  · have hi : i < s.size := by omega
    have hc' : (bl' s).getD i 0 = c := by rw [← byte_at]; exact UInt8.toNat_inj.1 (by omega)
    refine ⟨h2, hle, by omega, i + 1, i + 1, Nat.le_refl _, b ++ [s.extract fr i], by simp; omega, by omega, fun k k1 k2 k3 => by omega, fun h => ⟨h, ?_⟩, fun h => by omega, by omega, by simp, by rw [wrap_small (by omega) (by omega)]; omega, by rw [wrap_small (by omega) (by omega)]; omega, strs_push⟩
    rw [(h6 hle).2, piece_step h2 (by omega) hc' fun k k1 k2 => h5 k k1 k2 (by omega), ext_mk]
    simp
  · have hi : i < s.size := by omega
    have hc' : (bl' s).getD i 0 ≠ c := fun e => hc (by rw [byte_at, e])
    refine ⟨i + 1, fr, by omega, b, h3, by omega, fun k k1 k2 k3 => ?_, fun h => h6 hle, fun h => by omega, by omega, rfl, rfl, by rw [wrap_small (by omega) (by omega)]; omega, .inr rfl⟩
    by_cases hk : k = i
    · rw [hk]; exact hc'
    · exact h5 k k1 (by omega) k3)
theorem k_l16Cut : SoundC Tryd.prog K_l16Cut.1 K_l16Cut.2 := sound_ofW hm CtxOK.nil (fun ((s, c) : ByteArray × UInt8) => A_l16Cut s c) (by kernel_rfl) fun ((s, c) : ByteArray × UInt8) hb => g_l16Cut s c hb
theorem numD_no {neg : Bool} {b : List UInt8} {a : Nat} (ha : a < b.length) (h : isDig (b.getD a 0) = false) : numD neg b = (0, false) := by
  unfold numD
  split
  · rfl
  · rw [if_neg]
    intro hall
    rw [List.all_eq_true] at hall
    have := hall (b.getD a 0) (getD_mem 0 ha)
    rw [h] at this; cases this
theorem num_loop (s : ByteArray) : ∀ (a : Nat) (a_1 : Bool) (b : List UInt8),
    a ≤ b.length → b.length ≤ 17 → num s = numD a_1 b → ¬b = [] → b.length ≤ 17 → (b.getD 0 0 = 48 → b.length ≤ 1 ∧ a_1 = false) → (∀ (x : UInt8), x ∈ List.take a b → isDig x = true) →
    (a < b.length → a < b.length ∧ (((((bl' (mkB b)).getD a 0).toNat : Nat) : Int) < 48 → 0 = (num s).fst ∧ (num s).snd = false) ∧
      ((48 : Int) ≤ ((((bl' (mkB b)).getD a 0).toNat : Nat) : Int) → a < b.length ∧ ((57 : Int) < ((((bl' (mkB b)).getD a 0).toNat : Nat) : Int) → 0 = (num s).fst ∧ (num s).snd = false) ∧
        (((((bl' (mkB b)).getD a 0).toNat : Nat) : Int) ≤ 57 → a < b.length ∧ ∃ a_12 a_13 b_1, a_12 ≤ b_1.length ∧ b_1.length ≤ 17 ∧ num s = numD a_13 b_1 ∧ ¬b_1 = [] ∧ b_1.length ≤ 17 ∧
          (b_1.getD 0 0 = 48 → b_1.length ≤ 1 ∧ a_13 = false) ∧ (∀ (x : UInt8), x ∈ List.take a_12 b_1 → isDig x = true) ∧ b_1.length - a_12 < b.length - a ∧ mkB b = mkB b_1 ∧ a_1 = a_13 ∧
          IntKind.i64.wrap (IntKind.i64.wrap (((vl (List.take a b) : Nat) : Int) * 10) + IntKind.i64.wrap (IntKind.u8.wrap (((((bl' (mkB b)).getD a 0).toNat : Nat) : Int) - 48))) = ((vl (List.take a_12 b_1) : Nat) : Int) ∧
          IntKind.i64.wrap ((a : Int) + 1) = ((a_12 : Nat) : Int)))) ∧
    (b.length ≤ a → (a_1 = true → IntKind.i64.wrap (-((vl (List.take a b) : Nat) : Int)) = (num s).fst ∧ (num s).snd = true) ∧ (a_1 = false → ((vl (List.take a b) : Nat) : Int) = (num s).fst ∧ (num s).snd = true)) := by
  intro a neg b h1 h2 h3 h4 _ h5 h6
  rw [show bl' (mkB b) = b from rfl]
  have no : a < b.length → isDig (b.getD a 0) = false → 0 = (num s).fst ∧ (num s).snd = false := fun ha h => by
    rw [h3, numD_no ha h]; exact ⟨rfl, rfl⟩
  have hlen : (b.take a).length = a := by rw [List.length_take]; omega
  have hv : vl (b.take a) < 10 ^ a := by
    have := vl_lt (b.take a) (List.all_eq_true.2 fun x hx => h6 x hx)
    rwa [hlen] at this
  have hp : (10 : Nat) ^ a ≤ 10 ^ 17 := Nat.pow_le_pow_right (by decide) (by omega)
  have h17 : (10 : Nat) ^ 17 = 100000000000000000 := by decide
  refine ⟨fun ha => ⟨ha, fun h => no ha ?_, fun hlo => ⟨ha, fun h => no ha ?_, fun hhi => ⟨ha, a + 1, neg, b, ha, h2, h3, h4, h2, h5, fun x hx => ?_, by omega, rfl, rfl, ?_, wrap_small (by omega) (by omega)⟩⟩⟩, fun hge => ?_⟩
  · unfold isDig; rw [decide_eq_false (by omega)]; rfl
  · unfold isDig; rw [decide_eq_false (p := (b.getD a 0).toNat ≤ 57) (by omega), Bool.and_false]
  · rw [take_snoc 0 ha, List.mem_append] at hx
    rcases hx with hx | hx
    · exact h6 x hx
    · rw [List.mem_singleton] at hx
      subst hx
      unfold isDig; rw [decide_eq_true (by omega), decide_eq_true (by omega)]; rfl
  · have hu : IntKind.u8.wrap ((((b.getD a 0).toNat : Nat) : Int) - 48) = (((b.getD a 0).toNat : Nat) : Int) - 48 := by
      show ((((b.getD a 0).toNat : Nat) : Int) - 48) % 256 = _
      omega
    rw [hu, wrap_small (x := ((vl (List.take a b) : Nat) : Int) * 10) (by omega) (by omega), wrap_small (x := (((b.getD a 0).toNat : Nat) : Int) - 48) (by omega) (by omega), wrap_small (by omega) (by omega), take_snoc 0 ha, vl_snoc]
    push_cast
    omega
  · have ha : a = b.length := by omega
    subst ha
    rw [List.take_length] at h6 hv ⊢
    have e : numD neg b = (if neg = true then -(vl b : Int) else vl b, true) := by
      unfold numD
      rw [if_neg, if_pos (List.all_eq_true.2 fun x hx => h6 x hx)]
      rintro (h | h | ⟨h, h'⟩)
      · exact h4 (List.length_eq_zero_iff.1 h)
      · omega
      · obtain ⟨q1, q2⟩ := h5 h
        rcases h' with h' | h'
        · omega
        · rw [q2] at h'; cases h'
    rw [h3, e, wrap_small (by omega) (by omega)]
    exact ⟨fun h => by rw [if_pos h]; exact ⟨rfl, rfl⟩, fun h => by rw [if_neg (by rw [h]; simp)]; exact ⟨rfl, rfl⟩⟩
set_option maxHeartbeats 8000000 in
theorem g_l16Num (s : ByteArray) (h1 : SzT s) : GoalW Tryd.prog [] (A_l16Num s) K_l16Num.1 K_l16Num.2 (s) := GoalW.of (vc_l16Num s) (by
  simp (maxSteps := 2000000) [-List.getD_eq_getElem?_getD, -List.mem_cons, -Bool.forall_bool, -Bool.exists_bool, and_assoc, peta, tl_inj, ex_1, ex_2, ex_3, ex_4, ex_5, ex_6, ex_7, ex_8, ex_9, ey_2, ey_3, ey_4, ey_5, ey_6, ey_7, ey_8, ey_9]
  have hs : s.size ≤ 4294967280 := h1
  have hl := bl_len s
  have hd : (bl' s).drop 1 = bl' (s.extract 1 s.size) := by
    rw [ext_mk]
    show _ = List.take (s.size - 1) ((bl' s).drop 1)
    rw [List.take_of_length_le (by simp; omega)]
  have hx : ∀ i, (s.data.extract 1 s.size)[i]?.getD 0 = ((bl' s).drop 1).getD i 0 := fun i => by
    rw [hd, ← byte_at]
    show _ = (s.extract 1 s.size).data[i]?.getD 0
    rw [ByteArray.data_extract]
  simp only [byte_at, hx]
  have i8 : ∀ (x : UInt8) (n : UInt8) (k : Int), k = ((n.toNat : Nat) : Int) → ((((x.toNat : Nat) : Int)) = k ↔ x = n) := fun x n k hk => by
    rw [hk]
    exact ⟨fun h => UInt8.toNat_inj.1 (by omega), fun h => by rw [h]⟩
  simp only [i8 _ 45 45 rfl, i8 _ 48 48 rfl]
  have nlen : ∀ d : List UInt8, ∀ neg, d.length = 0 → numD neg d = (0, false) := fun d neg h => by unfold numD; rw [if_pos (.inl h)]
  have nlong : ∀ d : List UInt8, ∀ neg, 17 < d.length → numD neg d = (0, false) := fun d neg h => by unfold numD; rw [if_pos (.inr (.inl h))]
  have nzero : ∀ d : List UInt8, ∀ neg, d.getD 0 0 = 48 → (1 < d.length ∨ neg = true) → numD neg d = (0, false) := fun d neg h h' => by unfold numD; rw [if_pos (.inr (.inr ⟨h, h'⟩))]
  have fin : ∀ {x : Int × Bool}, num s = x → x = (0, false) → 0 = (num s).fst ∧ (num s).snd = false := fun h1 h2 => by rw [h1, h2]; exact ⟨rfl, rfl⟩
  have yes : 0 < s.size → (bl' s).getD 0 0 = 45 → num s = numD true ((bl' s).drop 1) := fun h h' => by unfold num numL; rw [if_pos ⟨by rw [bl_len]; exact h, h'⟩]
  have not : ¬ (0 < s.size ∧ (bl' s).getD 0 0 = 45) → num s = numD false (bl' s) := fun h => by unfold num numL; rw [if_neg (by rw [bl_len]; exact h)]
  have dl : ((bl' s).drop 1).length = s.size - 1 := by simp; rfl
  have init : ∀ (neg : Bool) (d : List UInt8) (t : ByteArray), num s = numD neg d → t = mkB d → d.length ≠ 0 → d.length ≤ 17 → (d.getD 0 0 = 48 → d.length ≤ 1 ∧ neg = false) →
      ∃ a a_1 b, a ≤ b.length ∧ b.length ≤ 17 ∧ num s = numD a_1 b ∧ ¬b = [] ∧ b.length ≤ 17 ∧ (b.getD 0 0 = 48 → b.length ≤ 1 ∧ a_1 = false) ∧ (∀ (x : UInt8), x ∈ List.take a b → isDig x = true) ∧ t = mkB b ∧ neg = a_1 ∧ (0 : Int) = ((vl (List.take a b) : Nat) : Int) ∧ (0 : Int) = ((a : Nat) : Int) :=
    fun neg d t h1 h2 h3 h4 h5 => ⟨0, neg, d, Nat.zero_le _, h4, h1, fun e => h3 (by rw [e]; rfl), h4, h5, fun x hx => by simp at hx, h2, rfl, rfl, rfl⟩
  have n45 : ∀ h : (bl' s).getD 0 0 = 45, (((((bl' s).getD 0 0).toNat : Nat) : Int) == 45) = true := fun h => by rw [h]; rfl
  have m45 : ¬ (bl' s).getD 0 0 = 45 → (((((bl' s).getD 0 0).toNat : Nat) : Int) == 45) = false := fun h => by
    rw [beq_eq_false_iff_ne]
    exact fun e => h ((i8 _ 45 45 rfl).1 e)
  refine ⟨fun hp => ⟨hp, fun h45 => ⟨by omega, fun hz => fin (yes hp h45) (nlen _ _ (by omega)), fun hz => ⟨fun h17 => fin (yes hp h45) (nlong _ _ (by omega)), fun h17 => ⟨by omega, fun h48 => ⟨fun h1 => fin (yes hp h45) (nzero _ _ h48 (.inl (by omega))), fun h1 => ⟨fun _ => fin (yes hp h45) (nzero _ _ h48 (.inr rfl)), fun hn => absurd h45 hn⟩⟩, fun h48 => ⟨?_, num_loop s⟩⟩⟩⟩, fun h45 => ?_⟩, fun hp => ?_⟩
  · rw [n45 h45]
    exact init true _ _ (yes hp h45) (by rw [hd]; rfl) (by omega) (by omega) fun h => absurd h h48
  · have hnum := not fun e => h45 e.2
    have hne : ¬ s = ByteArray.empty := fun e => by rw [e] at hp; exact absurd hp (by decide)
    refine ⟨fun e => absurd e hne, fun _ => ⟨fun h17 => fin hnum (nlong _ _ (by omega)), fun h17 => ⟨hp, fun h48 => ⟨fun h1 => fin hnum (nzero _ _ h48 (.inl (by omega))), fun h1 => ⟨fun h => absurd h h45, fun _ => ⟨?_, num_loop s⟩⟩⟩, fun h48 => ⟨?_, num_loop s⟩⟩⟩⟩
    · rw [m45 h45]
      exact init false _ _ hnum rfl (by omega) (by omega) fun _ => ⟨by omega, rfl⟩
    · rw [m45 h45]
      exact init false _ _ hnum rfl (by omega) (by omega) fun h => absurd h h48
  · exact ⟨fun _ => fin (not fun e => by rw [hp] at e; exact absurd e.1 (by decide)) (nlen _ _ (by rw [hp]; rfl)), fun h => absurd hp h⟩)
theorem k_l16Num : SoundC Tryd.prog K_l16Num.1 K_l16Num.2 := sound_ofW hm CtxOK.nil (fun (s : ByteArray) => A_l16Num s) (by kernel_rfl) fun (s : ByteArray) hb => g_l16Num s hb
theorem tl_empty (s : ByteArray) : s.toList.isEmpty = decide (s = ByteArray.empty) := by
  have h0 : ByteArray.empty.toList = [] := by rw [ByteArray.toList_eq]; rfl
  rw [Bool.eq_iff_iff, List.isEmpty_iff, decide_eq_true_eq]
  exact ⟨fun h => tl_inj.1 (h.trans h0.symm), fun h => by rw [h, h0]⟩
set_option maxHeartbeats 8000000 in
theorem g_linesOf (s : ByteArray) (h1 : SzT s) : GoalW Tryd.prog [K_Split] ([]) K_linesOf.1 K_linesOf.2 (s) := GoalW.of (vc_linesOf s) (by
  simp (maxSteps := 2000000) [-List.getD_eq_getElem?_getD, -List.mem_cons, -Bool.forall_bool, -Bool.exists_bool, and_assoc, peta, tl_inj, ex_1, ex_2, ex_3, ex_4, ex_5, ex_6, ex_7, ex_8, ex_9, ey_2, ey_3, ey_4, ey_5, ey_6, ey_7, ey_8, ey_9]
  have hs : s.size ≤ 4294967280 := h1
  have hl := cut_len 10 s
  have hp := cut_ne 10 s
  have hw : IntKind.i64.wrap (((cut 10 s).length : Int) - 1) = ((cut 10 s).length : Int) - 1 := wrap_small (by omega) (by omega)
  refine ⟨10, rfl, hs, ?_⟩
  rw [hw]
  have hn : (((cut 10 s).length : Int) - 1).toNat = (cut 10 s).length - 1 := by omega
  rw [hn]
  refine ⟨by omega, by omega, by omega, by omega, by omega, (strs_take (by omega)).2 ?_, ?_⟩
  · unfold linesOf
    rw [List.dropLast_eq_take]
  · have e : (cut 10 s).getD ((cut 10 s).length - 1) ByteArray.empty = (cut 10 s).getLastD ByteArray.empty := by
      rw [List.getD_eq_getElem?_getD, ← List.getLast?_eq_getElem?, List.getLastD_eq_getLast?]
    rw [e]
    unfold linesOf
    rw [tl_empty])
theorem k_linesOf : SoundC Tryd.prog K_linesOf.1 K_linesOf.2 := sound_ofW hm (CtxOK.nil.and k_Split) (fun (s : ByteArray) => []) (by kernel_rfl) fun (s : ByteArray) hb => g_linesOf s hb
end Cg

/-
  What is left to show of each function's code, printed by a program: Mds. No condition.
-/
set_option maxRecDepth 100000
set_option linter.unusedVariables false
namespace Cg
open Go Go.Proofs
theorem vc_of (b : List Int) (p : Int) (l : List ByteArray) : (∃ x : List Int × Int × Int,
 Rd (1099511627776 : Int) x.1 x.2.1 ∧ (((0 : Nat) = (0 : Nat) ∧ (↑l.length : Int) = x.2.2 ∧ True) ∧ (Is (byts b) (byts x.1) ∧ p = x.2.1 ∧ True) ∧ True) ∧ ∀ (y : Int),
 ((1 : Int) ≤ x.2.2 → (0 : Int) ≤ y ∧ y < x.2.2) ∧ (x.2.2 < (1 : Int) → y = (0 : Int)) →
 ((0 : Int) ≤ y ∧ y < (↑l.length : Int)) ∧ y.toNat < l.length ∧ ∃ y_1 : ByteArray, y_1 ∈ l ∧ (l.getD y.toNat ByteArray.empty = y_1 ∧ True) ∧ (Is (byts x.1) (byts b) ∧ x.2.1 + (1 : Int) = p + (1 : Int) ∧ True) ∧ True) = Goal Tryd.prog [K_pick] ([]) K_of.1 K_of.2 ((b, p, l)) := by kernel_rfl

theorem vc_l4Base (k : Int) : (condP (k == (0 : Int))
 (Is
 (AV.lit (5 : Nat) (3 : Nat)
 (rowsCell
 [[st (ByteArray.mk #[(97 : UInt8)]), AV.lit (0 : Nat) (1 : Nat) fun (x x_1 : Nat) => AV.any, i64 (0 : Int)],
 [st (ByteArray.mk #[(98 : UInt8)]), AV.lit (0 : Nat) (1 : Nat) fun (x x_1 : Nat) => AV.any, i64 (0 : Int)],
 [st (ByteArray.mk #[(99 : UInt8)]), AV.lit (0 : Nat) (1 : Nat) fun (x x_1 : Nat) => AV.any, i64 (0 : Int)],
 [st (ByteArray.mk #[(102 : UInt8)]), AV.lit (1 : Nat) (1 : Nat) (rowsCell [[i64 (0 : Int)]]), i64 (0 : Int)],
 [st (ByteArray.mk #[(103 : UInt8)]), AV.lit (2 : Nat) (1 : Nat) (rowsCell [[i64 (0 : Int)], [i64 (0 : Int)]]), i64 (0 : Int)]]))
 (syms (Pl.base k)) ∧ True)
 (condP (k == (1 : Int))
 (Is
 (AV.lit (5 : Nat) (3 : Nat)
 (rowsCell
 [[st (ByteArray.mk #[(97 : UInt8)]), AV.lit (0 : Nat) (1 : Nat) fun (x x_1 : Nat) => AV.any, i64 (0 : Int)],
 [st (ByteArray.mk #[(98 : UInt8)]), AV.lit (0 : Nat) (1 : Nat) fun (x x_1 : Nat) => AV.any, i64 (0 : Int)],
 [st (ByteArray.mk #[(104 : UInt8)]), AV.lit (1 : Nat) (1 : Nat) (rowsCell [[i64 (0 : Int)]]), i64 (1 : Int)],
 [st (ByteArray.mk #[(120 : UInt8)]), AV.lit (0 : Nat) (1 : Nat) fun (x x_1 : Nat) => AV.any, i64 (1 : Int)],
 [st (ByteArray.mk #[(121 : UInt8)]), AV.lit (0 : Nat) (1 : Nat) fun (x x_1 : Nat) => AV.any, i64 (1 : Int)]]))
 (syms (Pl.base k)) ∧ True)
 (condP (k == (2 : Int))
 (Is
 (AV.lit (4 : Nat) (3 : Nat)
 (rowsCell
 [[st (ByteArray.mk #[(107 : UInt8)]), AV.lit (1 : Nat) (1 : Nat) (rowsCell [[i64 (1 : Int)]]), i64 (1 : Int)],
 [st (ByteArray.mk #[(120 : UInt8)]), AV.lit (0 : Nat) (1 : Nat) fun (x x_1 : Nat) => AV.any, i64 (1 : Int)],
 [st (ByteArray.mk #[(121 : UInt8)]), AV.lit (0 : Nat) (1 : Nat) fun (x x_1 : Nat) => AV.any, i64 (1 : Int)],
 [st (ByteArray.mk #[(122 : UInt8)]), AV.lit (0 : Nat) (1 : Nat) fun (x x_1 : Nat) => AV.any, i64 (1 : Int)]]))
 (syms (Pl.base k)) ∧ True)
 (condP (k == (3 : Int))
 (Is
 (AV.lit (5 : Nat) (3 : Nat)
 (rowsCell
 [[st (ByteArray.mk #[(97 : UInt8)]), AV.lit (0 : Nat) (1 : Nat) fun (x x_1 : Nat) => AV.any, i64 (0 : Int)],
 [st (ByteArray.mk #[(117 : UInt8)]), AV.lit (1 : Nat) (1 : Nat) (rowsCell [[i64 (1 : Int)]]), i64 (0 : Int)],
 [st (ByteArray.mk #[(118 : UInt8)]), AV.lit (2 : Nat) (1 : Nat) (rowsCell [[i64 (1 : Int)], [i64 (0 : Int)]]), i64 (1 : Int)],
 [st (ByteArray.mk #[(120 : UInt8)]), AV.lit (0 : Nat) (1 : Nat) fun (x x_1 : Nat) => AV.any, i64 (1 : Int)],
 [st (ByteArray.mk #[(121 : UInt8)]), AV.lit (0 : Nat) (1 : Nat) fun (x x_1 : Nat) => AV.any, i64 (1 : Int)]]))
 (syms (Pl.base k)) ∧ True)
 (Is (AV.lit (0 : Nat) (3 : Nat) (rowsCell [])) (syms (Pl.base k)) ∧ True))))) = Goal Tryd.prog [] ([]) K_l4Base.1 K_l4Base.2 (k) := by kernel_rfl

theorem vc_l4Sig (b : List Int) (p : Int) : (∃ x : List Int × Int × List Int,
 (Rd (1099511627776 : Int) x.1 x.2.1 ∧ x.2.2 ≠ [] ∧ Sz x.2.2) ∧ (((0 : Nat) = (0 : Nat) ∧ Is
 (AV.lit (8 : Nat) (1 : Nat)
 (rowsCell [[i64 (0 : Int)], [i64 (0 : Int)], [i64 (1 : Int)], [i64 (1 : Int)], [i64 (2 : Int)], [i64 (3 : Int)], [i64 (1 : Int)], [i64 (4 : Int)]]))
 (ints x.2.2) ∧ True) ∧ (Is (byts b) (byts x.1) ∧ p = x.2.1 ∧ True) ∧ True) ∧ ∀ (y : Int),
 y ∈ x.2.2 →
 ∃ x_1 : Int,
 (y = x_1 ∧ True) ∧ True ∧ ∃ y : Pl.Sig,
 Pl.SgB (5 : Nat) (2 : Nat) y ∧ ((Is (syms (Pl.base x_1)) (syms y) ∧ True) ∧ True) ∧ (Is (byts x.1) (byts b) ∧ x.2.1 + (1 : Int) = p + (1 : Int) ∧ True) ∧ True) = Goal Tryd.prog [K_num, K_l4Base] ([]) K_l4Sig.1 K_l4Sig.2 ((b, p)) := by kernel_rfl

theorem vc_l4Bent (b : List Int) (p : Int) (s : Pl.Sig) (n k : Nat) : ((∃ x : Nat,
 x ≤ List.length s ∧ ((0 : Nat) = (0 : Nat) ∧ (0 : Nat) = (0 : Nat) ∧ (0 : Nat) = (0 : Nat) ∧ (0 : Nat) = (0 : Nat) ∧ (0 : Int) = (↑x : Int) ∧ True) ∧ (Is (byts b) (byts b) ∧ p = p ∧ True) ∧ (Is (syms s) (syms s) ∧ True) ∧ (Is (AV.lit (0 : Nat) (1 : Nat) fun (x x_1 : Nat) => AV.any) nilA ∧ True) ∧ (((0 : Nat) = (0 : Nat) ∧ (0 : Nat) = (0 : Nat) ∧ x = (0 : Nat)) ∧ True) ∧ (List.take x s).length = (0 : Nat) ∧ True) ∧ ∀ (x : Nat),
 x ≤ List.length s →
 condP (decide ((↑x : Int) < (↑(List.length s) : Int)))
 (((0 : Int) ≤ (↑x : Int) ∧ (↑x : Int) < (↑(List.length s) : Int)) ∧ x < List.length s ∧ ((0 : Nat) = (0 : Nat) ∨ (0 : Nat) < (List.getD s x Pl.dY).2.1.length) ∧ ((0 : Nat) + (List.getD s x Pl.dY).2.1.length) * (8 : Nat) ≤ (70368744177664 : Nat) ∧ x = (List.take x s).length ∧ (0 : Nat) + ((0 : Nat) + (List.getD s x Pl.dY).2.1.length) ≤ (0 : Nat) + (List.getD s x Pl.dY).2.1.length ∧ (x + (1 : Nat)) * (48 : Nat) ≤ (70368744177664 : Nat) ∧ Exists fun (x' : Nat) =>
 x' ≤ List.length s ∧ List.length s - x' < List.length s - x ∧ ((0 : Nat) = (0 : Nat) ∧ (0 : Nat) = (0 : Nat) ∧ (0 : Nat) = (0 : Nat) ∧ (0 : Nat) = (0 : Nat) ∧ IntKind.i64.wrap ((↑x : Int) + (1 : Int)) = (↑x' : Int) ∧ True) ∧ (Is (byts b) (byts b) ∧ p = p ∧ True) ∧ (Is (syms s) (syms s) ∧ True) ∧ (Is (AV.lit (0 : Nat) (1 : Nat) fun (x x_1 : Nat) => AV.any) nilA ∧ True) ∧ (((0 : Nat) = (0 : Nat) ∧ x + (1 : Nat) = x') ∧ True) ∧ IsO
 (AObj.xarr (x + (1 : Nat)) (3 : Nat)
 (joinC x (cY (List.take x s))
 (rowsCell
 [[st (List.getD s x Pl.dY).1, AV.sl ((0 : Nat) + (List.getD s x Pl.dY).2.1.length) (1 : Nat) (cI (List.getD s x Pl.dY).2.1),
 i64 (List.getD s x Pl.dY).2.2]])))
 (xrY (List.take x' s)) ∧ True)
 (condP ((↑x : Int) == (0 : Int))
 (∃ y : Pl.Sig × Int,
 (Pl.SgB (n + (1 : Nat)) (k + (1 : Nat)) y.1 ∧ p ≤ y.2 ∧ y.2 ≤ p + (100 : Int)) ∧ (0 : Nat) + x ≤ (List.take x s).length ∧ ((Is (AV.sl x (3 : Nat) (cY (List.take x s))) (syms y.1) ∧ True) ∧ True) ∧ (Is (byts b) (byts b) ∧ p = y.2 ∧ True) ∧ True)
 (∃ x_1 : List Int × Int × Int,
 Rd (1099511627776 : Int) x_1.1 x_1.2.1 ∧ (((0 : Nat) = (0 : Nat) ∧ (8 : Int) = x_1.2.2 ∧ True) ∧ (Is (byts b) (byts x_1.1) ∧ p = x_1.2.1 ∧ True) ∧ True) ∧ ∀ (y : Int),
 ((1 : Int) ≤ x_1.2.2 → (0 : Int) ≤ y ∧ y < x_1.2.2) ∧ (x_1.2.2 < (1 : Int) → y = (0 : Int)) →
 condP (decide (y > (0 : Int)))
 (∃ y : Pl.Sig × Int,
 (Pl.SgB (n + (1 : Nat)) (k + (1 : Nat)) y.1 ∧ p ≤ y.2 ∧ y.2 ≤ p + (100 : Int)) ∧ (0 : Nat) + x ≤ (List.take x s).length ∧ ((Is (AV.sl x (3 : Nat) (cY (List.take x s))) (syms y.1) ∧ True) ∧ True) ∧ (Is (byts x_1.1) (byts b) ∧ x_1.2.1 + (1 : Int) = y.2 ∧ True) ∧ True)
 (∃ x_2 : List Int × Int × Int,
 Rd (1099511627776 : Int) x_2.1 x_2.2.1 ∧ (((0 : Nat) = (0 : Nat) ∧ (↑x : Int) = x_2.2.2 ∧ True) ∧ (Is (byts x_1.1) (byts x_2.1) ∧ x_1.2.1 + (1 : Int) = x_2.2.1 ∧ True) ∧ True) ∧ ∀ (y : Int),
 ((1 : Int) ≤ x_2.2.2 → (0 : Int) ≤ y ∧ y < x_2.2.2) ∧ (x_2.2.2 < (1 : Int) → y = (0 : Int)) →
 ∃ x_3 : List Int × Int × Int,
 Rd (1099511627776 : Int) x_3.1 x_3.2.1 ∧ (((0 : Nat) = (0 : Nat) ∧ (5 : Int) = x_3.2.2 ∧ True) ∧ (Is (byts x_2.1) (byts x_3.1) ∧ x_2.2.1 + (1 : Int) = x_3.2.1 ∧ True) ∧ True) ∧ ∀ (y_1 : Int),
 ((1 : Int) ≤ x_3.2.2 → (0 : Int) ≤ y_1 ∧ y_1 < x_3.2.2) ∧ (x_3.2.2 < (1 : Int) → y_1 = (0 : Int)) →
 condP (y_1 == (0 : Int))
 ((∃ x_4 : List Int × Int × List ByteArray,
 (Rd (1099511627776 : Int) x_4.1 x_4.2.1 ∧ x_4.2.2 ≠ [] ∧ Sz x_4.2.2) ∧ (((0 : Nat) = (0 : Nat) ∧ Is
 (AV.lit (5 : Nat) (1 : Nat)
 (rowsCell
 [[st (ByteArray.mk #[])], [st (ByteArray.mk #[(65 : UInt8)])], [st (ByteArray.mk #[(97 : UInt8), (98 : UInt8), (99 : UInt8)])],
 [st (ByteArray.mk #[(122 : UInt8), (122 : UInt8)])], [st (ByteArray.mk #[(97 : UInt8)])]]))
 (strs x_4.2.2) ∧ True) ∧ (Is (byts x_3.1) (byts x_4.1) ∧ x_3.2.1 + (1 : Int) = x_4.2.1 ∧ True) ∧ True) ∧ ∀ (y_2 : ByteArray),
 y_2 ∈ x_4.2.2 →
 ((0 : Int) ≤ y ∧ y < (↑x : Int)) ∧ y.toNat < (List.take x s).length ∧ ∃ y_3 : Pl.Sig × Int,
 (Pl.SgB (n + (1 : Nat)) (k + (1 : Nat)) y_3.1 ∧ p ≤ y_3.2 ∧ y_3.2 ≤ p + (100 : Int)) ∧ (0 : Nat) + x ≤ (List.take x s).length ∧ ((Is (AV.sl x (3 : Nat) fun (i j : Nat) => storeC (cY (List.take x s)) y.toNat (0 : Nat) [st y_2] i j)
 (syms y_3.1) ∧ True) ∧ True) ∧ (Is (byts x_4.1) (byts b) ∧ x_4.2.1 + (1 : Int) = y_3.2 ∧ True) ∧ True) ∧ ∃ x_4 : List Int × Int × List ByteArray,
 (Rd (1099511627776 : Int) x_4.1 x_4.2.1 ∧ x_4.2.2 ≠ [] ∧ Sz x_4.2.2) ∧ (((0 : Nat) = (0 : Nat) ∧ Is
 (AV.lit (5 : Nat) (1 : Nat)
 (rowsCell
 [[st (ByteArray.mk #[])], [st (ByteArray.mk #[(65 : UInt8)])], [st (ByteArray.mk #[(97 : UInt8), (98 : UInt8), (99 : UInt8)])],
 [st (ByteArray.mk #[(122 : UInt8), (122 : UInt8)])], [st (ByteArray.mk #[(97 : UInt8)])]]))
 (strs x_4.2.2) ∧ True) ∧ (Is (byts x_3.1) (byts x_4.1) ∧ x_3.2.1 + (1 : Int) = x_4.2.1 ∧ True) ∧ True) ∧ ∀ (y_2 : ByteArray),
 y_2 ∈ x_4.2.2 →
 ((0 : Int) ≤ y ∧ y < (↑x : Int)) ∧ y.toNat < (List.take x s).length ∧ ∃ y_3 : Pl.Sig × Int,
 (Pl.SgB (n + (1 : Nat)) (k + (1 : Nat)) y_3.1 ∧ p ≤ y_3.2 ∧ y_3.2 ≤ p + (100 : Int)) ∧ (0 : Nat) + x ≤ (List.take x s).length ∧ ((Is (AV.sl x (3 : Nat) fun (i j : Nat) => storeC (cY (List.take x s)) y.toNat (0 : Nat) [st y_2] i j)
 (syms y_3.1) ∧ True) ∧ True) ∧ (Is (byts x_4.1) (byts b) ∧ x_4.2.1 + (1 : Int) = y_3.2 ∧ True) ∧ True)
 (condP (y_1 == (1 : Int))
 ((((((0 : Int) ≤ y ∧ y < (↑x : Int)) ∧ (y.toNat < (List.take x s).length ∧ ∃ x_4 : List Int × Int × List Int,
 (Rd (1099511627776 : Int) x_4.1 x_4.2.1 ∧ x_4.2.2 ≠ [] ∧ Sz x_4.2.2) ∧ (((0 : Nat) = (0 : Nat) ∧ Is
 (AV.lit (4 : Nat) (1 : Nat) (rowsCell [[i64 (0 : Int)], [i64 (2 : Int)], [i64 (-1 : Int)], [i64 (1 : Int)]]))
 (ints x_4.2.2) ∧ True) ∧ (Is (byts x_3.1) (byts x_4.1) ∧ x_3.2.1 + (1 : Int) = x_4.2.1 ∧ True) ∧ True) ∧ ∀ (y_2 : Int),
 y_2 ∈ x_4.2.2 →
 ((List.take x s).getD y.toNat Pl.dY).2.1.length = ((List.take x s).getD y.toNat Pl.dY).2.1.length ∧ y.toNat < (List.take x s).length ∧ (1 : Nat) < (3 : Nat) ∧ (((List.take x s).getD y.toNat Pl.dY).2.1.length + (1 : Nat)) * (8 : Nat) ≤ (70368744177664 : Nat) ∧ ((0 : Int) ≤ y ∧ y < (↑x : Int)) ∧ y.toNat < (List.take x s).length ∧ ∃ y_3 : Pl.Sig × Int,
 (Pl.SgB (n + (1 : Nat)) (k + (1 : Nat)) y_3.1 ∧ p ≤ y_3.2 ∧ y_3.2 ≤ p + (100 : Int)) ∧ (0 : Nat) + x ≤ (List.take x s).length ∧ ((Is
 (AV.sl x (3 : Nat) fun (i j : Nat) =>
 storeC (cY (List.take x s)) y.toNat ((1 : Nat))
 [AV.sl (((List.take x s).getD y.toNat Pl.dY).2.1.length + (1 : Nat)) (1 : Nat)
 (joinC ((List.take x s).getD y.toNat Pl.dY).2.1.length
 (cI ((List.take x s).getD y.toNat Pl.dY).2.1) (rowsCell [[i64 y_2]]))]
 i j)
 (syms y_3.1) ∧ True) ∧ True) ∧ (Is (byts x_4.1) (byts b) ∧ x_4.2.1 + (1 : Int) = y_3.2 ∧ True) ∧ True) ∧ ∃ x_4 : List Int × Int × List Int,
 (Rd (1099511627776 : Int) x_4.1 x_4.2.1 ∧ x_4.2.2 ≠ [] ∧ Sz x_4.2.2) ∧ (((0 : Nat) = (0 : Nat) ∧ Is (AV.lit (4 : Nat) (1 : Nat) (rowsCell [[i64 (0 : Int)], [i64 (2 : Int)], [i64 (-1 : Int)], [i64 (1 : Int)]]))
 (ints x_4.2.2) ∧ True) ∧ (Is (byts x_3.1) (byts x_4.1) ∧ x_3.2.1 + (1 : Int) = x_4.2.1 ∧ True) ∧ True) ∧ ∀ (y_2 : Int),
 y_2 ∈ x_4.2.2 →
 y.toNat < (List.take x s).length ∧ ((List.take x s).getD y.toNat Pl.dY).2.1.length = ((List.take x s).getD y.toNat Pl.dY).2.1.length ∧ y.toNat < (List.take x s).length ∧ (1 : Nat) < (3 : Nat) ∧ (((List.take x s).getD y.toNat Pl.dY).2.1.length + (1 : Nat)) * (8 : Nat) ≤ (70368744177664 : Nat) ∧ ((0 : Int) ≤ y ∧ y < (↑x : Int)) ∧ y.toNat < (List.take x s).length ∧ ∃ y_3 : Pl.Sig × Int,
 (Pl.SgB (n + (1 : Nat)) (k + (1 : Nat)) y_3.1 ∧ p ≤ y_3.2 ∧ y_3.2 ≤ p + (100 : Int)) ∧ (0 : Nat) + x ≤ (List.take x s).length ∧ ((Is
 (AV.sl x (3 : Nat) fun (i j : Nat) =>
 storeC (cY (List.take x s)) y.toNat ((1 : Nat))
 [AV.sl (((List.take x s).getD y.toNat Pl.dY).2.1.length + (1 : Nat)) (1 : Nat)
 (joinC ((List.take x s).getD y.toNat Pl.dY).2.1.length
 (cI ((List.take x s).getD y.toNat Pl.dY).2.1) (rowsCell [[i64 y_2]]))]
 i j)
 (syms y_3.1) ∧ True) ∧ True) ∧ (Is (byts x_4.1) (byts b) ∧ x_4.2.1 + (1 : Int) = y_3.2 ∧ True) ∧ True) ∧ ∃ x_4 : List Int × Int × List Int,
 (Rd (1099511627776 : Int) x_4.1 x_4.2.1 ∧ x_4.2.2 ≠ [] ∧ Sz x_4.2.2) ∧ (((0 : Nat) = (0 : Nat) ∧ Is (AV.lit (4 : Nat) (1 : Nat) (rowsCell [[i64 (0 : Int)], [i64 (2 : Int)], [i64 (-1 : Int)], [i64 (1 : Int)]]))
 (ints x_4.2.2) ∧ True) ∧ (Is (byts x_3.1) (byts x_4.1) ∧ x_3.2.1 + (1 : Int) = x_4.2.1 ∧ True) ∧ True) ∧ ∀ (y_2 : Int),
 y_2 ∈ x_4.2.2 →
 ((0 : Int) ≤ y ∧ y < (↑x : Int)) ∧ y.toNat < (List.take x s).length ∧ ((List.take x s).getD y.toNat Pl.dY).2.1.length = ((List.take x s).getD y.toNat Pl.dY).2.1.length ∧ y.toNat < (List.take x s).length ∧ (1 : Nat) < (3 : Nat) ∧ (((List.take x s).getD y.toNat Pl.dY).2.1.length + (1 : Nat)) * (8 : Nat) ≤ (70368744177664 : Nat) ∧ ((0 : Int) ≤ y ∧ y < (↑x : Int)) ∧ y.toNat < (List.take x s).length ∧ ∃ y_3 : Pl.Sig × Int,
 (Pl.SgB (n + (1 : Nat)) (k + (1 : Nat)) y_3.1 ∧ p ≤ y_3.2 ∧ y_3.2 ≤ p + (100 : Int)) ∧ (0 : Nat) + x ≤ (List.take x s).length ∧ ((Is
 (AV.sl x (3 : Nat) fun (i j : Nat) =>
 storeC (cY (List.take x s)) y.toNat ((1 : Nat))
 [AV.sl (((List.take x s).getD y.toNat Pl.dY).2.1.length + (1 : Nat)) (1 : Nat)
 (joinC ((List.take x s).getD y.toNat Pl.dY).2.1.length
 (cI ((List.take x s).getD y.toNat Pl.dY).2.1) (rowsCell [[i64 y_2]]))]
 i j)
 (syms y_3.1) ∧ True) ∧ True) ∧ (Is (byts x_4.1) (byts b) ∧ x_4.2.1 + (1 : Int) = y_3.2 ∧ True) ∧ True) ∧ ∃ x_4 : List Int × Int × List Int,
 (Rd (1099511627776 : Int) x_4.1 x_4.2.1 ∧ x_4.2.2 ≠ [] ∧ Sz x_4.2.2) ∧ (((0 : Nat) = (0 : Nat) ∧ Is (AV.lit (4 : Nat) (1 : Nat) (rowsCell [[i64 (0 : Int)], [i64 (2 : Int)], [i64 (-1 : Int)], [i64 (1 : Int)]]))
 (ints x_4.2.2) ∧ True) ∧ (Is (byts x_3.1) (byts x_4.1) ∧ x_3.2.1 + (1 : Int) = x_4.2.1 ∧ True) ∧ True) ∧ ∀ (y_2 : Int),
 y_2 ∈ x_4.2.2 →
 ((0 : Int) ≤ y ∧ y < (↑x : Int)) ∧ y.toNat < (List.take x s).length ∧ ((List.take x s).getD y.toNat Pl.dY).2.1.length = ((List.take x s).getD y.toNat Pl.dY).2.1.length ∧ y.toNat < (List.take x s).length ∧ (1 : Nat) < (3 : Nat) ∧ (((List.take x s).getD y.toNat Pl.dY).2.1.length + (1 : Nat)) * (8 : Nat) ≤ (70368744177664 : Nat) ∧ ((0 : Int) ≤ y ∧ y < (↑x : Int)) ∧ y.toNat < (List.take x s).length ∧ ∃ y_3 : Pl.Sig × Int,
 (Pl.SgB (n + (1 : Nat)) (k + (1 : Nat)) y_3.1 ∧ p ≤ y_3.2 ∧ y_3.2 ≤ p + (100 : Int)) ∧ (0 : Nat) + x ≤ (List.take x s).length ∧ ((Is
 (AV.sl x (3 : Nat) fun (i j : Nat) =>
 storeC (cY (List.take x s)) y.toNat ((1 : Nat))
 [AV.sl (((List.take x s).getD y.toNat Pl.dY).2.1.length + (1 : Nat)) (1 : Nat)
 (joinC ((List.take x s).getD y.toNat Pl.dY).2.1.length
 (cI ((List.take x s).getD y.toNat Pl.dY).2.1) (rowsCell [[i64 y_2]]))]
 i j)
 (syms y_3.1) ∧ True) ∧ True) ∧ (Is (byts x_4.1) (byts b) ∧ x_4.2.1 + (1 : Int) = y_3.2 ∧ True) ∧ True) ∧ (((((0 : Int) ≤ y ∧ y < (↑x : Int)) ∧ (y.toNat < (List.take x s).length ∧ ∃ x_4 : List Int × Int × List Int,
 (Rd (1099511627776 : Int) x_4.1 x_4.2.1 ∧ x_4.2.2 ≠ [] ∧ Sz x_4.2.2) ∧ (((0 : Nat) = (0 : Nat) ∧ Is
 (AV.lit (4 : Nat) (1 : Nat)
 (rowsCell [[i64 (0 : Int)], [i64 (2 : Int)], [i64 (-1 : Int)], [i64 (1 : Int)]]))
 (ints x_4.2.2) ∧ True) ∧ (Is (byts x_3.1) (byts x_4.1) ∧ x_3.2.1 + (1 : Int) = x_4.2.1 ∧ True) ∧ True) ∧ ∀ (y_2 : Int),
 y_2 ∈ x_4.2.2 →
 ((List.take x s).getD y.toNat Pl.dY).2.1.length = ((List.take x s).getD y.toNat Pl.dY).2.1.length ∧ y.toNat < (List.take x s).length ∧ (1 : Nat) < (3 : Nat) ∧ (((List.take x s).getD y.toNat Pl.dY).2.1.length + (1 : Nat)) * (8 : Nat) ≤ (70368744177664 : Nat) ∧ ((0 : Int) ≤ y ∧ y < (↑x : Int)) ∧ y.toNat < (List.take x s).length ∧ ∃ y_3 : Pl.Sig × Int,
 (Pl.SgB (n + (1 : Nat)) (k + (1 : Nat)) y_3.1 ∧ p ≤ y_3.2 ∧ y_3.2 ≤ p + (100 : Int)) ∧ (0 : Nat) + x ≤ (List.take x s).length ∧ ((Is
 (AV.sl x (3 : Nat) fun (i j : Nat) =>
 storeC (cY (List.take x s)) y.toNat ((1 : Nat))
 [AV.sl (((List.take x s).getD y.toNat Pl.dY).2.1.length + (1 : Nat)) (1 : Nat)
 (joinC ((List.take x s).getD y.toNat Pl.dY).2.1.length
 (cI ((List.take x s).getD y.toNat Pl.dY).2.1) (rowsCell [[i64 y_2]]))]
 i j)
 (syms y_3.1) ∧ True) ∧ True) ∧ (Is (byts x_4.1) (byts b) ∧ x_4.2.1 + (1 : Int) = y_3.2 ∧ True) ∧ True) ∧ ∃ x_4 : List Int × Int × List Int,
 (Rd (1099511627776 : Int) x_4.1 x_4.2.1 ∧ x_4.2.2 ≠ [] ∧ Sz x_4.2.2) ∧ (((0 : Nat) = (0 : Nat) ∧ Is
 (AV.lit (4 : Nat) (1 : Nat) (rowsCell [[i64 (0 : Int)], [i64 (2 : Int)], [i64 (-1 : Int)], [i64 (1 : Int)]]))
 (ints x_4.2.2) ∧ True) ∧ (Is (byts x_3.1) (byts x_4.1) ∧ x_3.2.1 + (1 : Int) = x_4.2.1 ∧ True) ∧ True) ∧ ∀ (y_2 : Int),
 y_2 ∈ x_4.2.2 →
 y.toNat < (List.take x s).length ∧ ((List.take x s).getD y.toNat Pl.dY).2.1.length = ((List.take x s).getD y.toNat Pl.dY).2.1.length ∧ y.toNat < (List.take x s).length ∧ (1 : Nat) < (3 : Nat) ∧ (((List.take x s).getD y.toNat Pl.dY).2.1.length + (1 : Nat)) * (8 : Nat) ≤ (70368744177664 : Nat) ∧ ((0 : Int) ≤ y ∧ y < (↑x : Int)) ∧ y.toNat < (List.take x s).length ∧ ∃ y_3 : Pl.Sig × Int,
 (Pl.SgB (n + (1 : Nat)) (k + (1 : Nat)) y_3.1 ∧ p ≤ y_3.2 ∧ y_3.2 ≤ p + (100 : Int)) ∧ (0 : Nat) + x ≤ (List.take x s).length ∧ ((Is
 (AV.sl x (3 : Nat) fun (i j : Nat) =>
 storeC (cY (List.take x s)) y.toNat ((1 : Nat))
 [AV.sl (((List.take x s).getD y.toNat Pl.dY).2.1.length + (1 : Nat)) (1 : Nat)
 (joinC ((List.take x s).getD y.toNat Pl.dY).2.1.length
 (cI ((List.take x s).getD y.toNat Pl.dY).2.1) (rowsCell [[i64 y_2]]))]
 i j)
 (syms y_3.1) ∧ True) ∧ True) ∧ (Is (byts x_4.1) (byts b) ∧ x_4.2.1 + (1 : Int) = y_3.2 ∧ True) ∧ True) ∧ ∃ x_4 : List Int × Int × List Int,
 (Rd (1099511627776 : Int) x_4.1 x_4.2.1 ∧ x_4.2.2 ≠ [] ∧ Sz x_4.2.2) ∧ (((0 : Nat) = (0 : Nat) ∧ Is (AV.lit (4 : Nat) (1 : Nat) (rowsCell [[i64 (0 : Int)], [i64 (2 : Int)], [i64 (-1 : Int)], [i64 (1 : Int)]]))
 (ints x_4.2.2) ∧ True) ∧ (Is (byts x_3.1) (byts x_4.1) ∧ x_3.2.1 + (1 : Int) = x_4.2.1 ∧ True) ∧ True) ∧ ∀ (y_2 : Int),
 y_2 ∈ x_4.2.2 →
 ((0 : Int) ≤ y ∧ y < (↑x : Int)) ∧ y.toNat < (List.take x s).length ∧ ((List.take x s).getD y.toNat Pl.dY).2.1.length = ((List.take x s).getD y.toNat Pl.dY).2.1.length ∧ y.toNat < (List.take x s).length ∧ (1 : Nat) < (3 : Nat) ∧ (((List.take x s).getD y.toNat Pl.dY).2.1.length + (1 : Nat)) * (8 : Nat) ≤ (70368744177664 : Nat) ∧ ((0 : Int) ≤ y ∧ y < (↑x : Int)) ∧ y.toNat < (List.take x s).length ∧ ∃ y_3 : Pl.Sig × Int,
 (Pl.SgB (n + (1 : Nat)) (k + (1 : Nat)) y_3.1 ∧ p ≤ y_3.2 ∧ y_3.2 ≤ p + (100 : Int)) ∧ (0 : Nat) + x ≤ (List.take x s).length ∧ ((Is
 (AV.sl x (3 : Nat) fun (i j : Nat) =>
 storeC (cY (List.take x s)) y.toNat ((1 : Nat))
 [AV.sl (((List.take x s).getD y.toNat Pl.dY).2.1.length + (1 : Nat)) (1 : Nat)
 (joinC ((List.take x s).getD y.toNat Pl.dY).2.1.length
 (cI ((List.take x s).getD y.toNat Pl.dY).2.1) (rowsCell [[i64 y_2]]))]
 i j)
 (syms y_3.1) ∧ True) ∧ True) ∧ (Is (byts x_4.1) (byts b) ∧ x_4.2.1 + (1 : Int) = y_3.2 ∧ True) ∧ True) ∧ (((0 : Int) ≤ y ∧ y < (↑x : Int)) ∧ ((y.toNat < (List.take x s).length ∧ ∃ x_4 : List Int × Int × List Int,
 (Rd (1099511627776 : Int) x_4.1 x_4.2.1 ∧ x_4.2.2 ≠ [] ∧ Sz x_4.2.2) ∧ (((0 : Nat) = (0 : Nat) ∧ Is
 (AV.lit (4 : Nat) (1 : Nat)
 (rowsCell [[i64 (0 : Int)], [i64 (2 : Int)], [i64 (-1 : Int)], [i64 (1 : Int)]]))
 (ints x_4.2.2) ∧ True) ∧ (Is (byts x_3.1) (byts x_4.1) ∧ x_3.2.1 + (1 : Int) = x_4.2.1 ∧ True) ∧ True) ∧ ∀ (y_2 : Int),
 y_2 ∈ x_4.2.2 →
 ((List.take x s).getD y.toNat Pl.dY).2.1.length = ((List.take x s).getD y.toNat Pl.dY).2.1.length ∧ y.toNat < (List.take x s).length ∧ (1 : Nat) < (3 : Nat) ∧ (((List.take x s).getD y.toNat Pl.dY).2.1.length + (1 : Nat)) * (8 : Nat) ≤ (70368744177664 : Nat) ∧ ((0 : Int) ≤ y ∧ y < (↑x : Int)) ∧ y.toNat < (List.take x s).length ∧ ∃ y_3 : Pl.Sig × Int,
 (Pl.SgB (n + (1 : Nat)) (k + (1 : Nat)) y_3.1 ∧ p ≤ y_3.2 ∧ y_3.2 ≤ p + (100 : Int)) ∧ (0 : Nat) + x ≤ (List.take x s).length ∧ ((Is
 (AV.sl x (3 : Nat) fun (i j : Nat) =>
 storeC (cY (List.take x s)) y.toNat ((1 : Nat))
 [AV.sl (((List.take x s).getD y.toNat Pl.dY).2.1.length + (1 : Nat)) (1 : Nat)
 (joinC ((List.take x s).getD y.toNat Pl.dY).2.1.length
 (cI ((List.take x s).getD y.toNat Pl.dY).2.1) (rowsCell [[i64 y_2]]))]
 i j)
 (syms y_3.1) ∧ True) ∧ True) ∧ (Is (byts x_4.1) (byts b) ∧ x_4.2.1 + (1 : Int) = y_3.2 ∧ True) ∧ True) ∧ ∃ x_4 : List Int × Int × List Int,
 (Rd (1099511627776 : Int) x_4.1 x_4.2.1 ∧ x_4.2.2 ≠ [] ∧ Sz x_4.2.2) ∧ (((0 : Nat) = (0 : Nat) ∧ Is
 (AV.lit (4 : Nat) (1 : Nat)
 (rowsCell [[i64 (0 : Int)], [i64 (2 : Int)], [i64 (-1 : Int)], [i64 (1 : Int)]]))
 (ints x_4.2.2) ∧ True) ∧ (Is (byts x_3.1) (byts x_4.1) ∧ x_3.2.1 + (1 : Int) = x_4.2.1 ∧ True) ∧ True) ∧ ∀ (y_2 : Int),
 y_2 ∈ x_4.2.2 →
 y.toNat < (List.take x s).length ∧ ((List.take x s).getD y.toNat Pl.dY).2.1.length = ((List.take x s).getD y.toNat Pl.dY).2.1.length ∧ y.toNat < (List.take x s).length ∧ (1 : Nat) < (3 : Nat) ∧ (((List.take x s).getD y.toNat Pl.dY).2.1.length + (1 : Nat)) * (8 : Nat) ≤ (70368744177664 : Nat) ∧ ((0 : Int) ≤ y ∧ y < (↑x : Int)) ∧ y.toNat < (List.take x s).length ∧ ∃ y_3 : Pl.Sig × Int,
 (Pl.SgB (n + (1 : Nat)) (k + (1 : Nat)) y_3.1 ∧ p ≤ y_3.2 ∧ y_3.2 ≤ p + (100 : Int)) ∧ (0 : Nat) + x ≤ (List.take x s).length ∧ ((Is
 (AV.sl x (3 : Nat) fun (i j : Nat) =>
 storeC (cY (List.take x s)) y.toNat ((1 : Nat))
 [AV.sl (((List.take x s).getD y.toNat Pl.dY).2.1.length + (1 : Nat)) (1 : Nat)
 (joinC ((List.take x s).getD y.toNat Pl.dY).2.1.length
 (cI ((List.take x s).getD y.toNat Pl.dY).2.1) (rowsCell [[i64 y_2]]))]
 i j)
 (syms y_3.1) ∧ True) ∧ True) ∧ (Is (byts x_4.1) (byts b) ∧ x_4.2.1 + (1 : Int) = y_3.2 ∧ True) ∧ True) ∧ (y.toNat < (List.take x s).length ∧ (∃ x_4 : List Int × Int × List Int,
 (Rd (1099511627776 : Int) x_4.1 x_4.2.1 ∧ x_4.2.2 ≠ [] ∧ Sz x_4.2.2) ∧ (((0 : Nat) = (0 : Nat) ∧ Is
 (AV.lit (4 : Nat) (1 : Nat)
 (rowsCell [[i64 (0 : Int)], [i64 (2 : Int)], [i64 (-1 : Int)], [i64 (1 : Int)]]))
 (ints x_4.2.2) ∧ True) ∧ (Is (byts x_3.1) (byts x_4.1) ∧ x_3.2.1 + (1 : Int) = x_4.2.1 ∧ True) ∧ True) ∧ ∀ (y_2 : Int),
 y_2 ∈ x_4.2.2 →
 ((List.take x s).getD y.toNat Pl.dY).2.1.length = ((List.take x s).getD y.toNat Pl.dY).2.1.length ∧ y.toNat < (List.take x s).length ∧ (1 : Nat) < (3 : Nat) ∧ (((List.take x s).getD y.toNat Pl.dY).2.1.length + (1 : Nat)) * (8 : Nat) ≤ (70368744177664 : Nat) ∧ ((0 : Int) ≤ y ∧ y < (↑x : Int)) ∧ y.toNat < (List.take x s).length ∧ ∃ y_3 : Pl.Sig × Int,
 (Pl.SgB (n + (1 : Nat)) (k + (1 : Nat)) y_3.1 ∧ p ≤ y_3.2 ∧ y_3.2 ≤ p + (100 : Int)) ∧ (0 : Nat) + x ≤ (List.take x s).length ∧ ((Is
 (AV.sl x (3 : Nat) fun (i j : Nat) =>
 storeC (cY (List.take x s)) y.toNat ((1 : Nat))
 [AV.sl (((List.take x s).getD y.toNat Pl.dY).2.1.length + (1 : Nat)) (1 : Nat)
 (joinC ((List.take x s).getD y.toNat Pl.dY).2.1.length
 (cI ((List.take x s).getD y.toNat Pl.dY).2.1) (rowsCell [[i64 y_2]]))]
 i j)
 (syms y_3.1) ∧ True) ∧ True) ∧ (Is (byts x_4.1) (byts b) ∧ x_4.2.1 + (1 : Int) = y_3.2 ∧ True) ∧ True) ∧ ∃ x_4 : List Int × Int × List Int,
 (Rd (1099511627776 : Int) x_4.1 x_4.2.1 ∧ x_4.2.2 ≠ [] ∧ Sz x_4.2.2) ∧ (((0 : Nat) = (0 : Nat) ∧ Is
 (AV.lit (4 : Nat) (1 : Nat)
 (rowsCell [[i64 (0 : Int)], [i64 (2 : Int)], [i64 (-1 : Int)], [i64 (1 : Int)]]))
 (ints x_4.2.2) ∧ True) ∧ (Is (byts x_3.1) (byts x_4.1) ∧ x_3.2.1 + (1 : Int) = x_4.2.1 ∧ True) ∧ True) ∧ ∀ (y_2 : Int),
 y_2 ∈ x_4.2.2 →
 ((List.take x s).getD y.toNat Pl.dY).2.1.length = ((List.take x s).getD y.toNat Pl.dY).2.1.length ∧ y.toNat < (List.take x s).length ∧ (1 : Nat) < (3 : Nat) ∧ (((List.take x s).getD y.toNat Pl.dY).2.1.length + (1 : Nat)) * (8 : Nat) ≤ (70368744177664 : Nat) ∧ ((0 : Int) ≤ y ∧ y < (↑x : Int)) ∧ y.toNat < (List.take x s).length ∧ ∃ y_3 : Pl.Sig × Int,
 (Pl.SgB (n + (1 : Nat)) (k + (1 : Nat)) y_3.1 ∧ p ≤ y_3.2 ∧ y_3.2 ≤ p + (100 : Int)) ∧ (0 : Nat) + x ≤ (List.take x s).length ∧ ((Is
 (AV.sl x (3 : Nat) fun (i j : Nat) =>
 storeC (cY (List.take x s)) y.toNat ((1 : Nat))
 [AV.sl (((List.take x s).getD y.toNat Pl.dY).2.1.length + (1 : Nat)) (1 : Nat)
 (joinC ((List.take x s).getD y.toNat Pl.dY).2.1.length
 (cI ((List.take x s).getD y.toNat Pl.dY).2.1) (rowsCell [[i64 y_2]]))]
 i j)
 (syms y_3.1) ∧ True) ∧ True) ∧ (Is (byts x_4.1) (byts b) ∧ x_4.2.1 + (1 : Int) = y_3.2 ∧ True) ∧ True) ∧ ∃ x_4 : List Int × Int × List Int,
 (Rd (1099511627776 : Int) x_4.1 x_4.2.1 ∧ x_4.2.2 ≠ [] ∧ Sz x_4.2.2) ∧ (((0 : Nat) = (0 : Nat) ∧ Is
 (AV.lit (4 : Nat) (1 : Nat)
 (rowsCell [[i64 (0 : Int)], [i64 (2 : Int)], [i64 (-1 : Int)], [i64 (1 : Int)]]))
 (ints x_4.2.2) ∧ True) ∧ (Is (byts x_3.1) (byts x_4.1) ∧ x_3.2.1 + (1 : Int) = x_4.2.1 ∧ True) ∧ True) ∧ ∀ (y_2 : Int),
 y_2 ∈ x_4.2.2 →
 y.toNat < (List.take x s).length ∧ ((List.take x s).getD y.toNat Pl.dY).2.1.length = ((List.take x s).getD y.toNat Pl.dY).2.1.length ∧ y.toNat < (List.take x s).length ∧ (1 : Nat) < (3 : Nat) ∧ (((List.take x s).getD y.toNat Pl.dY).2.1.length + (1 : Nat)) * (8 : Nat) ≤ (70368744177664 : Nat) ∧ ((0 : Int) ≤ y ∧ y < (↑x : Int)) ∧ y.toNat < (List.take x s).length ∧ ∃ y_3 : Pl.Sig × Int,
 (Pl.SgB (n + (1 : Nat)) (k + (1 : Nat)) y_3.1 ∧ p ≤ y_3.2 ∧ y_3.2 ≤ p + (100 : Int)) ∧ (0 : Nat) + x ≤ (List.take x s).length ∧ ((Is
 (AV.sl x (3 : Nat) fun (i j : Nat) =>
 storeC (cY (List.take x s)) y.toNat ((1 : Nat))
 [AV.sl (((List.take x s).getD y.toNat Pl.dY).2.1.length + (1 : Nat)) (1 : Nat)
 (joinC ((List.take x s).getD y.toNat Pl.dY).2.1.length
 (cI ((List.take x s).getD y.toNat Pl.dY).2.1) (rowsCell [[i64 y_2]]))]
 i j)
 (syms y_3.1) ∧ True) ∧ True) ∧ (Is (byts x_4.1) (byts b) ∧ x_4.2.1 + (1 : Int) = y_3.2 ∧ True) ∧ True) ∧ ∃ x_4 : List Int × Int × List Int,
 (Rd (1099511627776 : Int) x_4.1 x_4.2.1 ∧ x_4.2.2 ≠ [] ∧ Sz x_4.2.2) ∧ (((0 : Nat) = (0 : Nat) ∧ Is (AV.lit (4 : Nat) (1 : Nat) (rowsCell [[i64 (0 : Int)], [i64 (2 : Int)], [i64 (-1 : Int)], [i64 (1 : Int)]]))
 (ints x_4.2.2) ∧ True) ∧ (Is (byts x_3.1) (byts x_4.1) ∧ x_3.2.1 + (1 : Int) = x_4.2.1 ∧ True) ∧ True) ∧ ∀ (y_2 : Int),
 y_2 ∈ x_4.2.2 →
 ((0 : Int) ≤ y ∧ y < (↑x : Int)) ∧ y.toNat < (List.take x s).length ∧ ((List.take x s).getD y.toNat Pl.dY).2.1.length = ((List.take x s).getD y.toNat Pl.dY).2.1.length ∧ y.toNat < (List.take x s).length ∧ (1 : Nat) < (3 : Nat) ∧ (((List.take x s).getD y.toNat Pl.dY).2.1.length + (1 : Nat)) * (8 : Nat) ≤ (70368744177664 : Nat) ∧ ((0 : Int) ≤ y ∧ y < (↑x : Int)) ∧ y.toNat < (List.take x s).length ∧ ∃ y_3 : Pl.Sig × Int,
 (Pl.SgB (n + (1 : Nat)) (k + (1 : Nat)) y_3.1 ∧ p ≤ y_3.2 ∧ y_3.2 ≤ p + (100 : Int)) ∧ (0 : Nat) + x ≤ (List.take x s).length ∧ ((Is
 (AV.sl x (3 : Nat) fun (i j : Nat) =>
 storeC (cY (List.take x s)) y.toNat ((1 : Nat))
 [AV.sl (((List.take x s).getD y.toNat Pl.dY).2.1.length + (1 : Nat)) (1 : Nat)
 (joinC ((List.take x s).getD y.toNat Pl.dY).2.1.length
 (cI ((List.take x s).getD y.toNat Pl.dY).2.1) (rowsCell [[i64 y_2]]))]
 i j)
 (syms y_3.1) ∧ True) ∧ True) ∧ (Is (byts x_4.1) (byts b) ∧ x_4.2.1 + (1 : Int) = y_3.2 ∧ True) ∧ True) ∧ ∃ x_4 : List Int × Int × List Int,
 (Rd (1099511627776 : Int) x_4.1 x_4.2.1 ∧ x_4.2.2 ≠ [] ∧ Sz x_4.2.2) ∧ (((0 : Nat) = (0 : Nat) ∧ Is (AV.lit (4 : Nat) (1 : Nat) (rowsCell [[i64 (0 : Int)], [i64 (2 : Int)], [i64 (-1 : Int)], [i64 (1 : Int)]]))
 (ints x_4.2.2) ∧ True) ∧ (Is (byts x_3.1) (byts x_4.1) ∧ x_3.2.1 + (1 : Int) = x_4.2.1 ∧ True) ∧ True) ∧ ∀ (y_2 : Int),
 y_2 ∈ x_4.2.2 →
 ((0 : Int) ≤ y ∧ y < (↑x : Int)) ∧ y.toNat < (List.take x s).length ∧ ((List.take x s).getD y.toNat Pl.dY).2.1.length = ((List.take x s).getD y.toNat Pl.dY).2.1.length ∧ y.toNat < (List.take x s).length ∧ (1 : Nat) < (3 : Nat) ∧ (((List.take x s).getD y.toNat Pl.dY).2.1.length + (1 : Nat)) * (8 : Nat) ≤ (70368744177664 : Nat) ∧ ((0 : Int) ≤ y ∧ y < (↑x : Int)) ∧ y.toNat < (List.take x s).length ∧ ∃ y_3 : Pl.Sig × Int,
 (Pl.SgB (n + (1 : Nat)) (k + (1 : Nat)) y_3.1 ∧ p ≤ y_3.2 ∧ y_3.2 ≤ p + (100 : Int)) ∧ (0 : Nat) + x ≤ (List.take x s).length ∧ ((Is
 (AV.sl x (3 : Nat) fun (i j : Nat) =>
 storeC (cY (List.take x s)) y.toNat ((1 : Nat))
 [AV.sl (((List.take x s).getD y.toNat Pl.dY).2.1.length + (1 : Nat)) (1 : Nat)
 (joinC ((List.take x s).getD y.toNat Pl.dY).2.1.length
 (cI ((List.take x s).getD y.toNat Pl.dY).2.1) (rowsCell [[i64 y_2]]))]
 i j)
 (syms y_3.1) ∧ True) ∧ True) ∧ (Is (byts x_4.1) (byts b) ∧ x_4.2.1 + (1 : Int) = y_3.2 ∧ True) ∧ True)
 (condP (y_1 == (2 : Int))
 ((∃ x_4 : List Int × Int × List Int,
 (Rd (1099511627776 : Int) x_4.1 x_4.2.1 ∧ x_4.2.2 ≠ [] ∧ Sz x_4.2.2) ∧ (((0 : Nat) = (0 : Nat) ∧ Is (AV.lit (4 : Nat) (1 : Nat) (rowsCell [[i64 (1 : Int)], [i64 (2 : Int)], [i64 (-1 : Int)], [i64 (0 : Int)]]))
 (ints x_4.2.2) ∧ True) ∧ (Is (byts x_3.1) (byts x_4.1) ∧ x_3.2.1 + (1 : Int) = x_4.2.1 ∧ True) ∧ True) ∧ ∀ (y_2 : Int),
 y_2 ∈ x_4.2.2 →
 ((0 : Int) ≤ y ∧ y < (↑x : Int)) ∧ y.toNat < (List.take x s).length ∧ ∃ y_3 : Pl.Sig × Int,
 (Pl.SgB (n + (1 : Nat)) (k + (1 : Nat)) y_3.1 ∧ p ≤ y_3.2 ∧ y_3.2 ≤ p + (100 : Int)) ∧ (0 : Nat) + x ≤ (List.take x s).length ∧ ((Is (AV.sl x (3 : Nat) fun (i j : Nat) => storeC (cY (List.take x s)) y.toNat ((2 : Nat)) [i64 y_2] i j)
 (syms y_3.1) ∧ True) ∧ True) ∧ (Is (byts x_4.1) (byts b) ∧ x_4.2.1 + (1 : Int) = y_3.2 ∧ True) ∧ True) ∧ ∃ x_4 : List Int × Int × List Int,
 (Rd (1099511627776 : Int) x_4.1 x_4.2.1 ∧ x_4.2.2 ≠ [] ∧ Sz x_4.2.2) ∧ (((0 : Nat) = (0 : Nat) ∧ Is (AV.lit (4 : Nat) (1 : Nat) (rowsCell [[i64 (1 : Int)], [i64 (2 : Int)], [i64 (-1 : Int)], [i64 (0 : Int)]]))
 (ints x_4.2.2) ∧ True) ∧ (Is (byts x_3.1) (byts x_4.1) ∧ x_3.2.1 + (1 : Int) = x_4.2.1 ∧ True) ∧ True) ∧ ∀ (y_2 : Int),
 y_2 ∈ x_4.2.2 →
 ((0 : Int) ≤ y ∧ y < (↑x : Int)) ∧ y.toNat < (List.take x s).length ∧ ∃ y_3 : Pl.Sig × Int,
 (Pl.SgB (n + (1 : Nat)) (k + (1 : Nat)) y_3.1 ∧ p ≤ y_3.2 ∧ y_3.2 ≤ p + (100 : Int)) ∧ (0 : Nat) + x ≤ (List.take x s).length ∧ ((Is (AV.sl x (3 : Nat) fun (i j : Nat) => storeC (cY (List.take x s)) y.toNat ((2 : Nat)) [i64 y_2] i j)
 (syms y_3.1) ∧ True) ∧ True) ∧ (Is (byts x_4.1) (byts b) ∧ x_4.2.1 + (1 : Int) = y_3.2 ∧ True) ∧ True)
 (condP (y_1 == (3 : Int))
 (((0 : Int) ≤ y ∧ y < (↑x : Int)) ∧ y.toNat < (List.take x s).length ∧ ((List.take x s).getD y.toNat Pl.dY).2.1.length = ((List.take x s).getD y.toNat Pl.dY).2.1.length ∧ y.toNat < (List.take x s).length ∧ (0 : Nat) + x ≤ (List.take x s).length ∧ (x + (1 : Nat)) * (48 : Nat) ≤ (70368744177664 : Nat) ∧ ∃ y_2 : Pl.Sig × Int,
 (Pl.SgB (n + (1 : Nat)) (k + (1 : Nat)) y_2.1 ∧ p ≤ y_2.2 ∧ y_2.2 ≤ p + (100 : Int)) ∧ (0 : Nat) + (x + (1 : Nat)) ≤ x + (1 : Nat) ∧ ((Is
 (AV.sl (x + (1 : Nat)) (3 : Nat) fun (i j : Nat) =>
 joinC x (cY (List.take x s))
 (rowsCell
 [[st ((List.take x s).getD y.toNat Pl.dY).1, ints ((List.take x s).getD y.toNat Pl.dY).2.1,
 i64 ((List.take x s).getD y.toNat Pl.dY).2.2]])
 i j)
 (syms y_2.1) ∧ True) ∧ True) ∧ (Is (byts x_3.1) (byts b) ∧ x_3.2.1 + (1 : Int) = y_2.2 ∧ True) ∧ True)
 ((∃ x_4 : Pl.Sig × Int,
 (Pl.SgB (n + (1 : Nat)) (k + (1 : Nat)) x_4.1 ∧ p ≤ x_4.2 ∧ x_4.2 ≤ p + (50 : Int) + (↑(List.length x_4.1) : Int)) ∧ ((0 : Nat) = (0 : Nat) ∧ (0 : Nat) = (0 : Nat) ∧ (0 : Nat) = (0 : Nat) ∧ True) ∧ (Is (byts x_3.1) (byts b) ∧ x_3.2.1 + (1 : Int) = x_4.2 ∧ True) ∧ True ∧ (Is (AV.lit (0 : Nat) (1 : Nat) fun (x x_5 : Nat) => AV.any) nilA ∧ True) ∧ (((0 : Nat) = (0 : Nat) ∧ x = List.length x_4.1) ∧ True) ∧ IsO (arY (List.take x s)) (arY x_4.1) ∧ True) ∧ ∀ (x : Pl.Sig × Int),
 Pl.SgB (n + (1 : Nat)) (k + (1 : Nat)) x.1 ∧ p ≤ x.2 ∧ x.2 ≤ p + (50 : Int) + (↑(List.length x.1) : Int) →
 condP (decide ((↑(List.length x.1) : Int) ≤ (7 : Int)))
 ((∃ x_4 : List Int × Int × List ByteArray,
 (Rd (1099511627776 : Int) x_4.1 x_4.2.1 ∧ x_4.2.2 ≠ [] ∧ Sz x_4.2.2) ∧ (((0 : Nat) = (0 : Nat) ∧ Is
 (AV.lit (3 : Nat) (1 : Nat)
 (rowsCell
 [[st (ByteArray.mk #[(97 : UInt8)])], [st (ByteArray.mk #[(98 : UInt8)])],
 [st (ByteArray.mk #[(122 : UInt8)])]]))
 (strs x_4.2.2) ∧ True) ∧ (Is (byts b) (byts x_4.1) ∧ x.2 = x_4.2.1 ∧ True) ∧ True) ∧ ∀ (y : ByteArray),
 y ∈ x_4.2.2 →
 (↑((1 : Nat) + y.size) : Int) ≤ (9223372036854775807 : Int) ∧ (0 : Nat) + List.length x.1 ≤ List.length x.1 ∧ (List.length x.1 + (1 : Nat)) * (48 : Nat) ≤ (70368744177664 : Nat) ∧ Exists fun (x' : Pl.Sig × Int) =>
 (Pl.SgB (n + (1 : Nat)) (k + (1 : Nat)) x'.1 ∧ p ≤ x'.2 ∧ x'.2 ≤ p + (50 : Int) + (↑(List.length x'.1) : Int)) ∧ (15 : Nat) - List.length x'.1 < (15 : Nat) - List.length x.1 ∧ ((0 : Nat) = (0 : Nat) ∧ (0 : Nat) = (0 : Nat) ∧ (0 : Nat) = (0 : Nat) ∧ True) ∧ (Is (byts x_4.1) (byts b) ∧ x_4.2.1 + (1 : Int) = x'.2 ∧ True) ∧ True ∧ (Is (AV.lit (0 : Nat) (1 : Nat) fun (x x_5 : Nat) => AV.any) nilA ∧ True) ∧ (((0 : Nat) = (0 : Nat) ∧ List.length x.1 + (1 : Nat) = List.length x'.1) ∧ True) ∧ IsO
 (AObj.arr (List.length x.1 + (1 : Nat)) (3 : Nat)
 (joinC (List.length x.1) (cY x.1)
 (rowsCell
 [[st (ByteArray.mk #[(122 : UInt8)] ++ y),
 AV.lit (0 : Nat) (1 : Nat) fun (x x_5 : Nat) => AV.any, i64 (0 : Int)]])))
 (arY x'.1) ∧ True) ∧ ∃ x_4 : List Int × Int × List ByteArray,
 (Rd (1099511627776 : Int) x_4.1 x_4.2.1 ∧ x_4.2.2 ≠ [] ∧ Sz x_4.2.2) ∧ (((0 : Nat) = (0 : Nat) ∧ Is
 (AV.lit (3 : Nat) (1 : Nat)
 (rowsCell
 [[st (ByteArray.mk #[(97 : UInt8)])], [st (ByteArray.mk #[(98 : UInt8)])],
 [st (ByteArray.mk #[(122 : UInt8)])]]))
 (strs x_4.2.2) ∧ True) ∧ (Is (byts b) (byts x_4.1) ∧ x.2 = x_4.2.1 ∧ True) ∧ True) ∧ ∀ (y : ByteArray),
 y ∈ x_4.2.2 →
 (↑((1 : Nat) + y.size) : Int) ≤ (9223372036854775807 : Int) ∧ (0 : Nat) + List.length x.1 ≤ List.length x.1 ∧ (List.length x.1 + (1 : Nat)) * (48 : Nat) ≤ (70368744177664 : Nat) ∧ Exists fun (x' : Pl.Sig × Int) =>
 (Pl.SgB (n + (1 : Nat)) (k + (1 : Nat)) x'.1 ∧ p ≤ x'.2 ∧ x'.2 ≤ p + (50 : Int) + (↑(List.length x'.1) : Int)) ∧ (15 : Nat) - List.length x'.1 < (15 : Nat) - List.length x.1 ∧ ((0 : Nat) = (0 : Nat) ∧ (0 : Nat) = (0 : Nat) ∧ (0 : Nat) = (0 : Nat) ∧ True) ∧ (Is (byts x_4.1) (byts b) ∧ x_4.2.1 + (1 : Int) = x'.2 ∧ True) ∧ True ∧ (Is (AV.lit (0 : Nat) (1 : Nat) fun (x x_5 : Nat) => AV.any) nilA ∧ True) ∧ (((0 : Nat) = (0 : Nat) ∧ List.length x.1 + (1 : Nat) = List.length x'.1) ∧ True) ∧ IsO
 (AObj.arr (List.length x.1 + (1 : Nat)) (3 : Nat)
 (joinC (List.length x.1) (cY x.1)
 (rowsCell
 [[st (ByteArray.mk #[(122 : UInt8)] ++ y),
 AV.lit (0 : Nat) (1 : Nat) fun (x x_5 : Nat) => AV.any, i64 (0 : Int)]])))
 (arY x'.1) ∧ True)
 (∃ y : Pl.Sig × Int,
 (Pl.SgB (n + (1 : Nat)) (k + (1 : Nat)) y.1 ∧ p ≤ y.2 ∧ y.2 ≤ p + (100 : Int)) ∧ (0 : Nat) + List.length x.1 ≤ List.length x.1 ∧ ((Is (syms x.1) (syms y.1) ∧ True) ∧ True) ∧ (Is (byts b) (byts b) ∧ x.2 = y.2 ∧ True) ∧ True))))))))) = Goal Tryd.prog [K_pick, K_num, K_of] (A_l4Bent b p s n k) K_l4Bent.1 K_l4Bent.2 ((b, p, s, n, k)) := by kernel_rfl

end Cg

/-
  What is left to show of each function's code, printed by a program: Draw. No condition.
-/
set_option maxRecDepth 100000
set_option linter.unusedVariables false
namespace Cg
open Go Go.Proofs
theorem vc_l16Open (b : List Int) : (condP (decide ((↑b.length : Int) > (2000 : Int)))
 (((0 : Int) ≤ (2000 : Int) ∧ (2000 : Int) ≤ (↑b.length : Int)) ∧ ∃ y : List Int, Rd (0 : Int) y (0 : Int) ∧ ((0 : Nat) = (0 : Nat) ∧ True) ∧ (Is (AV.sl (2000 : Nat) (1 : Nat) (cU b)) (byts y) ∧ (0 : Int) = (0 : Int) ∧ True) ∧ True)
 (∃ y : List Int, Rd (0 : Int) y (0 : Int) ∧ ((0 : Nat) = (0 : Nat) ∧ True) ∧ (Is (byts b) (byts y) ∧ (0 : Int) = (0 : Int) ∧ True) ∧ True)) = Goal Tryd.prog [] ([]) K_l16Open.1 K_l16Open.2 (b) := by kernel_rfl

theorem vc_pick (b : List Int) (p n : Int) : (condP (decide (n < (1 : Int)))
 (∃ y : Int,
 (((1 : Int) ≤ n → (0 : Int) ≤ y ∧ y < n) ∧ (n < (1 : Int) → y = (0 : Int))) ∧ ((0 : Int) = y ∧ True) ∧ (Is (byts b) (byts b) ∧ IntKind.i64.wrap (p + (1 : Int)) = p + (1 : Int) ∧ True) ∧ True)
 (condP ((↑b.length : Int) == (0 : Int))
 (∃ y : Int,
 (((1 : Int) ≤ n → (0 : Int) ≤ y ∧ y < n) ∧ (n < (1 : Int) → y = (0 : Int))) ∧ ((0 : Int) = y ∧ True) ∧ (Is (byts b) (byts b) ∧ IntKind.i64.wrap (p + (1 : Int)) = p + (1 : Int) ∧ True) ∧ True)
 (condP (decide (IntKind.i64.wrap (IntKind.i64.wrap (p + (1 : Int)) - (1 : Int)) < (↑b.length : Int)))
 (((0 : Int) ≤ IntKind.i64.wrap (IntKind.i64.wrap (p + (1 : Int)) - (1 : Int)) ∧ IntKind.i64.wrap (IntKind.i64.wrap (p + (1 : Int)) - (1 : Int)) < (↑b.length : Int)) ∧ (IntKind.i64.wrap (IntKind.i64.wrap (p + (1 : Int)) - (1 : Int))).toNat < b.length ∧ n ≠ (0 : Int) ∧ ∃ y : Int,
 (((1 : Int) ≤ n → (0 : Int) ≤ y ∧ y < n) ∧ (n < (1 : Int) → y = (0 : Int))) ∧ ((IntKind.i64.wrap (b.getD (IntKind.i64.wrap (IntKind.i64.wrap (p + (1 : Int)) - (1 : Int))).toNat (0 : Int))).tmod n = y ∧ True) ∧ (Is (byts b) (byts b) ∧ IntKind.i64.wrap (p + (1 : Int)) = p + (1 : Int) ∧ True) ∧ True)
 ((↑b.length : Int) ≠ (0 : Int) ∧ ((0 : Int) ≤ (IntKind.i64.wrap (IntKind.i64.wrap (p + (1 : Int)) - (1 : Int))).tmod (↑b.length : Int) ∧ (IntKind.i64.wrap (IntKind.i64.wrap (p + (1 : Int)) - (1 : Int))).tmod (↑b.length : Int) < (↑b.length : Int)) ∧ ((IntKind.i64.wrap (IntKind.i64.wrap (p + (1 : Int)) - (1 : Int))).tmod (↑b.length : Int)).toNat < b.length ∧ (↑b.length : Int) ≠ (0 : Int) ∧ ((0 : Int) ≤ (IntKind.i64.wrap (IntKind.i64.wrap (IntKind.i64.wrap (IntKind.i64.wrap (p + (1 : Int)) - (1 : Int)) * (7 : Int)) + (3 : Int))).tmod (↑b.length : Int) ∧ (IntKind.i64.wrap (IntKind.i64.wrap (IntKind.i64.wrap (IntKind.i64.wrap (p + (1 : Int)) - (1 : Int)) * (7 : Int)) + (3 : Int))).tmod (↑b.length : Int) <
 (↑b.length : Int)) ∧ ((IntKind.i64.wrap (IntKind.i64.wrap (IntKind.i64.wrap (IntKind.i64.wrap (p + (1 : Int)) - (1 : Int)) * (7 : Int)) + (3 : Int))).tmod (↑b.length : Int)).toNat < b.length ∧ (↑b.length : Int) ≠ (0 : Int) ∧ (64 : Int) ≠ (0 : Int) ∧ n ≠ (0 : Int) ∧ ∃ y : Int,
 (((1 : Int) ≤ n → (0 : Int) ≤ y ∧ y < n) ∧ (n < (1 : Int) → y = (0 : Int))) ∧ ((IntKind.i64.wrap
 (↑(BitVec.ofInt (64 : Nat)
 (IntKind.i64.wrap
 (IntKind.i64.wrap
 (IntKind.i64.wrap
 (IntKind.i64.wrap
 (IntKind.i64.wrap
 (b.getD ((IntKind.i64.wrap (IntKind.i64.wrap (p + (1 : Int)) - (1 : Int))).tmod (↑b.length : Int)).toNat (0 : Int)) *
 (131 : Int)) +
 IntKind.i64.wrap
 (IntKind.i64.wrap
 (b.getD
 ((IntKind.i64.wrap
 (IntKind.i64.wrap (IntKind.i64.wrap (IntKind.i64.wrap (p + (1 : Int)) - (1 : Int)) * (7 : Int)) +
 (3 : Int))).tmod
 (↑b.length : Int)).toNat
 (0 : Int)) *
 (1117 : Int))) +
 IntKind.i64.wrap (IntKind.i64.wrap (IntKind.i64.wrap (p + (1 : Int)) - (1 : Int)) * (29 : Int))) +
 IntKind.i64.wrap
 (IntKind.i64.wrap ((IntKind.i64.wrap (IntKind.i64.wrap (p + (1 : Int)) - (1 : Int))).tdiv (↑b.length : Int)) * (53 : Int)))) ^^^
 BitVec.ofInt (64 : Nat)
 (IntKind.i64.wrap
 ((IntKind.i64.wrap
 (IntKind.i64.wrap
 (IntKind.i64.wrap
 (IntKind.i64.wrap
 (IntKind.i64.wrap
 (b.getD ((IntKind.i64.wrap (IntKind.i64.wrap (p + (1 : Int)) - (1 : Int))).tmod (↑b.length : Int)).toNat (0 : Int)) *
 (131 : Int)) +
 IntKind.i64.wrap
 (IntKind.i64.wrap
 (b.getD
 ((IntKind.i64.wrap
 (IntKind.i64.wrap (IntKind.i64.wrap (IntKind.i64.wrap (p + (1 : Int)) - (1 : Int)) * (7 : Int)) +
 (3 : Int))).tmod
 (↑b.length : Int)).toNat
 (0 : Int)) *
 (1117 : Int))) +
 IntKind.i64.wrap (IntKind.i64.wrap (IntKind.i64.wrap (p + (1 : Int)) - (1 : Int)) * (29 : Int))) +
 IntKind.i64.wrap
 (IntKind.i64.wrap ((IntKind.i64.wrap (IntKind.i64.wrap (p + (1 : Int)) - (1 : Int))).tdiv (↑b.length : Int)) * (53 : Int)))).tdiv
 (64 : Int)))).toNat :
 Int)).tmod
 n =
 y ∧ True) ∧ (Is (byts b) (byts b) ∧ IntKind.i64.wrap (p + (1 : Int)) = p + (1 : Int) ∧ True) ∧ True)))) = Goal Tryd.prog [] ([]) K_pick.1 K_pick.2 ((b, p, n)) := by kernel_rfl

theorem vc_num (b : List Int) (p : Int) (l : List Int) : (∃ x : List Int × Int × Int,
 Rd (1099511627776 : Int) x.1 x.2.1 ∧ (((0 : Nat) = (0 : Nat) ∧ (↑l.length : Int) = x.2.2 ∧ True) ∧ (Is (byts b) (byts x.1) ∧ p = x.2.1 ∧ True) ∧ True) ∧ ∀ (y : Int),
 ((1 : Int) ≤ x.2.2 → (0 : Int) ≤ y ∧ y < x.2.2) ∧ (x.2.2 < (1 : Int) → y = (0 : Int)) →
 ((0 : Int) ≤ y ∧ y < (↑l.length : Int)) ∧ y.toNat < l.length ∧ ∃ y_1 : Int, y_1 ∈ l ∧ (l.getD y.toNat (0 : Int) = y_1 ∧ True) ∧ (Is (byts x.1) (byts b) ∧ x.2.1 + (1 : Int) = p + (1 : Int) ∧ True) ∧ True) = Goal Tryd.prog [K_pick] ([]) K_num.1 K_num.2 ((b, p, l)) := by kernel_rfl

end Cg

/-
  What is left to show of each function's code, printed by a program: Units. No condition.
-/
set_option maxRecDepth 100000
set_option linter.unusedVariables false
namespace Cg
open Go Go.Proofs
end Cg

/-
  Unit propagation: plain laws. No condition.
-/
set_option linter.unusedVariables false
namespace Pl
open Go Cg

/-- A mark of at most sixty variables. -/
def Mk (x : Int) : Prop := x ≠ 0 ∧ -60 ≤ x ∧ x ≤ 60
theorem Mk.wneg {x : Int} (h : Mk x) : Pl.wneg x = -x := by
  obtain ⟨h1, h2, h3⟩ := h
  unfold Pl.wneg; rw [Cg.wrap_small (by omega) (by omega)]; omega
theorem absW_of {x : Int} (h : Mk x) : absW x = if x < 0 then -x else x := by
  obtain ⟨h1, h2, h3⟩ := h
  unfold absW Pl.wneg
  rw [if_neg (by omega), if_neg (by omega)]
  split
  · rw [Cg.wrap_small (by omega) (by omega)]; omega
  · rfl
theorem take_succ_getD {α : Type} (d : α) {l : List α} {i : Nat} (h : i < l.length) : l.take (i + 1) = l.take i ++ [l.getD i d] := by
  rw [List.take_succ_eq_append_getElem h]; simp [h]
end Pl

/-
  The codes' contracts: unit propagation. No condition.
-/
set_option linter.unusedVariables false
set_option linter.unusedSimpArgs false
set_option maxRecDepth 100000
namespace Cg
open Go Go.Proofs

end Cg

/-
  The codes' contracts: the reader. No condition.
-/
set_option linter.unusedVariables false
set_option linter.unusedSimpArgs false
set_option maxRecDepth 100000
namespace Cg
open Go Go.Proofs

theorem Rd.mono {m m' : Int} {b : List Int} {p : Int} (h : Rd m b p) (hm : m ≤ m') : Rd m' b p := ⟨h.1, h.2.1, h.2.2.1, Int.le_trans h.2.2.2 hm⟩
theorem Rd.add {m m' : Int} {b : List Int} {p p' : Int} (h : Rd m b p) (h1 : p ≤ p') (h2 : p' ≤ m') : Rd m' b p' := ⟨h.1, h.2.1, Int.le_trans h.2.2.1 h1, h2⟩

theorem k_l16Open : SoundC Tryd.prog K_l16Open.1 K_l16Open.2 := sound_of hm CtxOK.nil (fun _ => []) (by kernel_rfl) fun (b : List Int) hb => cast (vc_l16Open b) (by
  obtain ⟨h1, h2⟩ : Sz b ∧ Byt b := hb
  simp [-List.getD_eq_getElem?_getD, and_assoc]
  refine ⟨fun h => ⟨by omega, b.take 2000, ⟨by simp; omega, fun x hx => h2 x (List.mem_of_mem_take hx), Int.le_refl 0, Int.le_refl 0⟩, (byts_take (by omega)).2 rfl⟩, fun h => ⟨by omega, h2, Int.le_refl 0, Int.le_refl 0⟩⟩)

theorem xor_nonneg {E : Int} (h0 : 0 ≤ E) (h1 : E < 281474976710656) : 0 ≤ IntKind.i64.wrap ((BitVec.ofInt 64 E ^^^ BitVec.ofInt 64 (IntKind.i64.wrap (E.tdiv 64))).toNat : Int) := by
  have d1 : 0 ≤ E.tdiv 64 := Int.tdiv_nonneg h0 (by omega)
  have d2 : E.tdiv 64 ≤ E := Int.tdiv_le_self _ h0
  rw [wrap_small (x := E.tdiv 64) (by omega) (by omega)]
  have e : ∀ x : Int, 0 ≤ x → x < 281474976710656 → (BitVec.ofInt 64 x).toNat < 2 ^ 48 := fun x h h' => by
    rw [BitVec.toNat_ofInt]
    have : x % ((2 ^ 64 : Nat) : Int) = x := Int.emod_eq_of_lt h (by omega)
    rw [this]; omega
  have h : (BitVec.ofInt 64 E ^^^ BitVec.ofInt 64 (E.tdiv 64)).toNat < 2 ^ 48 := by
    rw [BitVec.toNat_xor]
    exact Nat.xor_lt_two_pow (e E h0 h1) (e _ d1 (by omega))
  rw [wrap_small (by omega) (by omega)]
  omega

set_option maxHeartbeats 2000000 in
theorem k_pick : SoundC Tryd.prog K_pick.1 K_pick.2 := sound_of hm CtxOK.nil (fun _ => []) (by kernel_rfl) fun (b, p, n) hb => cast (vc_pick b p n) (by
  obtain ⟨h1, h2, h3, h4⟩ : Rd 1099511627776 b p := hb
  rw [wrap_small (x := p + 1) (by omega) (by omega), show p + 1 - 1 = p by omega, wrap_small (x := p) (by omega) (by omega)]
  simp only [condP_iff, decide_eq_true_eq, decide_eq_false_iff_not, beq_iff_eq, beq_eq_false_iff_ne, ne_eq]
  refine ⟨fun h => ⟨0, ⟨fun h' => absurd h' (by omega), fun _ => rfl⟩, by simp⟩, fun h => ⟨fun h' => ⟨0, ⟨fun _ => ⟨by omega, by omega⟩, fun _ => rfl⟩, by simp⟩, fun h' => ?_⟩⟩
  have hL : (0 : Int) < b.length := by
    omega
  have byte : ∀ i, i < b.length → 0 ≤ b.getD i 0 ∧ b.getD i 0 < 256 := fun i hi => h2 _ (getD_mem 0 hi)
  have tm : ∀ x : Int, 0 ≤ x → 0 ≤ x.tmod b.length ∧ x.tmod b.length < b.length := fun x hx => ⟨Int.tmod_nonneg _ hx, Int.tmod_lt_of_pos _ hL⟩
  refine ⟨fun hlt => ?_, fun hge => ?_⟩
  · obtain ⟨b1, b2⟩ := byte p.toNat (by omega)
    refine ⟨⟨by omega, hlt⟩, by omega, by omega, _, ⟨fun _ => ⟨?_, ?_⟩, fun h'' => absurd h'' (by omega)⟩, ⟨rfl, trivial⟩, by simp⟩
    · rw [wrap_small (by omega) (by omega)]; exact Int.tmod_nonneg _ b1
    · exact Int.tmod_lt_of_pos _ (by omega)
  · have e1 : IntKind.i64.wrap (p * 7) = p * 7 := wrap_small (by omega) (by omega)
    have e2 : IntKind.i64.wrap (p * 7 + 3) = p * 7 + 3 := wrap_small (by omega) (by omega)
    simp only [e1, e2]
    obtain ⟨t1, t2⟩ := tm p h3
    obtain ⟨t3, t4⟩ := tm (p * 7 + 3) (by omega)
    obtain ⟨a1, a2⟩ := byte (p.tmod b.length).toNat (by omega)
    obtain ⟨a3, a4⟩ := byte ((p * 7 + 3).tmod b.length).toNat (by omega)
    have d1 : 0 ≤ p.tdiv b.length := Int.tdiv_nonneg h3 (by omega)
    have d2 : p.tdiv b.length ≤ p := Int.tdiv_le_self _ h3
    refine ⟨by omega, ⟨t1, t2⟩, by omega, by omega, ⟨t3, t4⟩, by omega, by omega, by omega, by omega, ?_⟩
    generalize b.getD (p.tmod b.length).toNat 0 = A at a1 a2 ⊢
    generalize b.getD ((p * 7 + 3).tmod b.length).toNat 0 = B at a3 a4 ⊢
    generalize p.tdiv b.length = D at d1 d2 ⊢
    have e3 : IntKind.i64.wrap A = A := wrap_small (by omega) (by omega)
    have e4 : IntKind.i64.wrap (A * 131) = A * 131 := wrap_small (by omega) (by omega)
    have e5 : IntKind.i64.wrap B = B := wrap_small (by omega) (by omega)
    have e6 : IntKind.i64.wrap (B * 1117) = B * 1117 := wrap_small (by omega) (by omega)
    have e7 : IntKind.i64.wrap (A * 131 + B * 1117) = A * 131 + B * 1117 := wrap_small (by omega) (by omega)
    have e8 : IntKind.i64.wrap (p * 29) = p * 29 := wrap_small (by omega) (by omega)
    have e9 : IntKind.i64.wrap (A * 131 + B * 1117 + p * 29) = A * 131 + B * 1117 + p * 29 := wrap_small (by omega) (by omega)
    have e10 : IntKind.i64.wrap D = D := wrap_small (by omega) (by omega)
    have e11 : IntKind.i64.wrap (D * 53) = D * 53 := wrap_small (by omega) (by omega)
    have e12 : IntKind.i64.wrap (A * 131 + B * 1117 + p * 29 + D * 53) = A * 131 + B * 1117 + p * 29 + D * 53 := wrap_small (by omega) (by omega)
    simp only [e3, e4, e5, e6, e7, e8, e9, e10, e11, e12]
    have hE : 0 ≤ A * 131 + B * 1117 + p * 29 + D * 53 ∧ A * 131 + B * 1117 + p * 29 + D * 53 < 281474976710656 := by omega
    generalize A * 131 + B * 1117 + p * 29 + D * 53 = E at hE
    refine ⟨_, ⟨fun _ => ⟨Int.tmod_nonneg _ (xor_nonneg hE.1 hE.2), Int.tmod_lt_of_pos _ (by omega)⟩, fun h'' => absurd h'' (by omega)⟩, ⟨rfl, trivial⟩, by simp⟩)

end Cg

/-
  Drawn clause sets: plain laws. No condition.
-/
set_option linter.unusedVariables false
set_option linter.unusedSimpArgs false
namespace Pl
open Go Cg

theorem lIs_neg {x : Int} {v : List Bool} (h0 : x ≠ 0) (h1 : x ≤ v.length) (h2 : -(v.length : Int) ≤ x) : lIs (-x) v = !lIs x v := by
  have e1 : ¬ (-x = 0 ∨ -x > (v.length : Int) ∨ -x < -(v.length : Int)) := by omega
  have e2 : ¬ (x = 0 ∨ x > (v.length : Int) ∨ x < -(v.length : Int)) := by omega
  unfold lIs
  rw [if_neg e1, if_neg e2]
  by_cases h : x < 0
  · have e3 : ¬ -x < 0 := by omega
    rw [if_neg e3, if_pos h, Bool.not_not]; congr 2; omega
  · have e3 : -x < 0 := by omega
    rw [if_pos e3, if_neg h]; congr 3; omega
theorem Mk.le_abs {x n : Int} (h : Mk x) (h1 : absW x ≤ n) : x ≤ n ∧ -n ≤ x := by
  rw [absW_of h] at h1
  split at h1 <;> omega
theorem Mk.lIs {x : Int} {v : List Bool} (h : Mk x) (h1 : absW x ≤ v.length) : Pl.lIs (Pl.wneg x) v = !Pl.lIs x v := by
  obtain ⟨h2, h3⟩ := h.le_abs h1
  rw [h.wneg]
  exact lIs_neg h.1 h2 h3

end Pl

/-
  The codes' contracts: drawn clause sets. No condition.
-/
set_option linter.unusedVariables false
set_option linter.unusedSimpArgs false
set_option maxRecDepth 100000
namespace Cg
open Go Go.Proofs

theorem k_num : SoundC Tryd.prog K_num.1 K_num.2 := sound_of hm (CtxOK.nil.and k_pick) (fun _ => []) (by kernel_rfl) fun (b, p, l) hb => cast (vc_num b p l) (by
  obtain ⟨h1, h2, h3⟩ : Rd 1099511627776 b p ∧ l ≠ [] ∧ Sz l := hb
  simp [-List.getD_eq_getElem?_getD, and_assoc]
  have hl : 0 < l.length := List.length_pos_iff.2 h2
  exact ⟨b, p, h1, rfl, rfl, fun y h4 h5 => by
    obtain ⟨h6, h7⟩ := h4 (by omega)
    exact ⟨h6, h7, by omega, _, getD_mem 0 (by omega), rfl, rfl, rfl⟩⟩)

end Cg

/-
  The codes' contracts: drawn clause sets, the rest. No condition.
-/
set_option linter.unusedVariables false
set_option linter.unusedSimpArgs false
set_option maxRecDepth 100000
namespace Cg
open Go Go.Proofs


theorem Rd.to {m m' : Int} {b : List Int} {p p' : Int} (h : Rd m b p) (h1 : 0 ≤ p') (h2 : p' ≤ m') : Rd m' b p' := ⟨h.1, h.2.1, h1, h2⟩
theorem Rds.two {v w : List Int} {a b : AV} (h1 : Is a (ints v)) (h2 : Is b (ints w)) : Rds 1 eII [] 2 (rowsCell [[a], [b]]) [v, w] := ⟨rfl, fun i hi j hj => by
  match i, j, hi, hj with
  | 0, 0, _, _ => exact h1
  | 1, 0, _, _ => exact h2⟩
theorem Rds.one {v : List Int} {a : AV} (h1 : Is a (ints v)) : Rds 1 eII [] 1 (rowsCell [[a]]) [v] := ⟨rfl, fun i hi j hj => by
  match i, j, hi, hj with
  | 0, 0, _, _ => exact h1⟩

theorem Sm.len {a : Int} {l : List (List Int)} (h : Sm (a, l)) : a ≤ 61 ∧ l.length ≤ 100 ∧ ∀ x ∈ l, x.length ≤ 100 := h
end Cg

/-
  The codes' contracts: laws of drawn clause sets. No condition.
-/
set_option linter.unusedVariables false
set_option linter.unusedSimpArgs false
set_option maxRecDepth 100000
namespace Cg
open Go Go.Proofs

theorem byt_of {l : List Int} (h : ∀ x ∈ l, (Lit.int .u8 x).wf = true) : Byt l := fun x hx => by
  have := h x hx
  simp [Lit.wf, IntKind.min, IntKind.max, IntKind.signed, IntKind.bits] at this
  omega
end Cg

/-
  The codes' contracts: drawn words. No condition.
-/
set_option linter.unusedVariables false
set_option linter.unusedSimpArgs false
set_option maxRecDepth 100000
namespace Cg
open Go Go.Proofs Pl
theorem slit (v : ByteArray) (j : Nat) (hj : j < 1) : [st v].getD j .any = eS v j := by
  have : j = 0 := by omega
  subst this
  rfl
@[simp] theorem strs_lit3 {a b c : ByteArray} {m : List ByteArray} : Is (.lit 3 1 (rowsCell [[st a], [st b], [st c]])) (strs m) ↔ [a, b, c] = m := Is_lits (by decide) EncN.eS [a, b, c] m (fun v => [st v]) slit
@[simp] theorem strs_lit5 {a b c d e : ByteArray} {m : List ByteArray} : Is (.lit 5 1 (rowsCell [[st a], [st b], [st c], [st d], [st e]])) (strs m) ↔ [a, b, c, d, e] = m := Is_lits (by decide) EncN.eS [a, b, c, d, e] m (fun v => [st v]) slit
@[simp] theorem strs_lit4 {a b c d : ByteArray} {m : List ByteArray} : Is (.lit 4 1 (rowsCell [[st a], [st b], [st c], [st d]])) (strs m) ↔ [a, b, c, d] = m := Is_lits (by decide) EncN.eS [a, b, c, d] m (fun v => [st v]) slit
theorem k_of : SoundC Tryd.prog K_of.1 K_of.2 := sound_of hm (CtxOK.nil.and k_pick) (fun _ => []) (by kernel_rfl) fun ((b, p, l) : List Int × Int × List ByteArray) hb => (by
  obtain ⟨h1, h2, h3⟩ : Rd 1099511627776 b p ∧ l ≠ [] ∧ Sz l := hb
  rw [← vc_of b p l]
  simp [-List.getD_eq_getElem?_getD, -List.mem_cons, -Bool.forall_bool, -Bool.exists_bool, and_assoc, peta, tl_inj, ex_1, ex_2, ex_3, ex_4, ex_5, ex_6, ex_7, ex_8, ex_9, ey_2, ey_3, ey_4, ey_5, ey_6, ey_7, ey_8, ey_9]
  have h0 : 0 < l.length := List.length_pos_iff.2 h2
  refine ⟨h1, fun y hy _ => ?_⟩
  obtain ⟨h4, h5⟩ := hy (by omega)
  exact ⟨h4, h5, by omega, getD_mem _ (by omega)⟩)
/-- Rows that were written out, one by one. -/
def LitR {α : Type} (k : Nat) (e : α → Nat → AV) (d : α) (rows : List (List AV)) (l : List α) : Prop := rows.length = l.length ∧ ∀ i, i < l.length → ∀ j, j < k → Is ((rows.getD i []).getD j .any) (e (l.getD i d) j)
theorem LitR.nil {α : Type} {k : Nat} {e : α → Nat → AV} {d : α} : LitR k e d [] [] := ⟨rfl, fun i hi => by cases hi⟩
theorem LitR.cons {α : Type} {k : Nat} {e : α → Nat → AV} {d : α} {rows : List (List AV)} {l : List α} (h : LitR k e d rows l) {r : List AV} {v : α} (hr : ∀ j, j < k → Is (r.getD j .any) (e v j)) : LitR k e d (r :: rows) (v :: l) :=
  ⟨by simp [h.1], fun i hi j hj => by
    cases i with
    | zero => exact hr j hj
    | succ i => exact h.2 i (by simpa using hi) j hj⟩
theorem LitR.is {α : Type} {k : Nat} {e : α → Nat → AV} {d : α} {rows : List (List AV)} {l : List α} (h : LitR k e d rows l) : Is (.lit rows.length k (rowsCell rows)) (.sl l.length k fun i j => e (l.getD i d) j) :=
  Is_lit_of h.1 fun i hi j hj => h.2 i hi j hj
theorem rowY {a : ByteArray} {b : AV} {l : List Int} {c : Int} (hb : Is b (ints l)) : ∀ j, j < 3 → Is ([st a, b, i64 c].getD j .any) (eY (a, l, c) j) := Is_rowY hb
theorem ints_l0 {q : Nat} {c : Nat → Nat → AV} : Is (.lit 0 q c) (ints []) := ints_nil.2 rfl
theorem ints_l1 {a : Int} : Is (.lit 1 1 (rowsCell [[i64 a]])) (ints [a]) := ints_lit1.2 rfl
theorem ints_l2 {a b : Int} : Is (.lit 2 1 (rowsCell [[i64 a], [i64 b]])) (ints [a, b]) := ints_lit2.2 rfl
theorem base_small (k : Int) : SgB 5 2 (base k) := by
  unfold base
  split
  · exact ⟨by decide, by simp; decide⟩
  · split
    · exact ⟨by decide, by simp; decide⟩
    · split
      · exact ⟨by decide, by simp; decide⟩
      · split
        · exact ⟨by decide, by simp; decide⟩
        · exact ⟨by decide, by simp⟩
theorem k_l4Base : SoundC Tryd.prog K_l4Base.1 K_l4Base.2 := sound_of hm CtxOK.nil (fun _ => []) (by kernel_rfl) fun (k : Int) hb => (by
  rw [← vc_l4Base k]
  simp [-List.getD_eq_getElem?_getD, -List.mem_cons, -Bool.forall_bool, -Bool.exists_bool, and_assoc, peta, tl_inj, ex_1, ex_2, ex_3, ex_4, ex_5, ex_6, ex_7, ex_8, ex_9, ey_2, ey_3, ey_4, ey_5, ey_6, ey_7, ey_8, ey_9]
  refine ⟨fun h => ?_, fun h0 => ⟨fun h => ?_, fun h1 => ⟨fun h => ?_, fun h2 => ⟨fun h => ?_, fun h3 => ?_⟩⟩⟩⟩
  · unfold base; rw [if_pos h]
    exact (((((LitR.nil.cons (rowY ints_l2)).cons (rowY ints_l1)).cons (rowY ints_l0)).cons (rowY ints_l0)).cons (rowY ints_l0)).is
  · unfold base; rw [if_neg h0, if_pos h]
    exact (((((LitR.nil.cons (rowY ints_l0)).cons (rowY ints_l0)).cons (rowY ints_l1)).cons (rowY ints_l0)).cons (rowY ints_l0)).is
  · unfold base; rw [if_neg h0, if_neg h1, if_pos h]
    exact ((((LitR.nil.cons (rowY ints_l0)).cons (rowY ints_l0)).cons (rowY ints_l0)).cons (rowY ints_l1)).is
  · unfold base; rw [if_neg h0, if_neg h1, if_neg h2, if_pos h]
    exact (((((LitR.nil.cons (rowY ints_l0)).cons (rowY ints_l0)).cons (rowY ints_l2)).cons (rowY ints_l1)).cons (rowY ints_l0)).is
  · unfold base; rw [if_neg h0, if_neg h1, if_neg h2, if_neg h3])
theorem k_l4Sig : SoundC Tryd.prog K_l4Sig.1 K_l4Sig.2 := sound_of hm ((CtxOK.nil.and k_l4Base).and k_num) (fun _ => []) (by kernel_rfl) fun ((b, p) : List Int × Int) hb => (by
  replace hb : Rd 549755813888 b p := hb
  rw [← vc_l4Sig b p]
  simp [-List.getD_eq_getElem?_getD, -List.mem_cons, -Bool.forall_bool, -Bool.exists_bool, and_assoc, peta, tl_inj, ex_1, ex_2, ex_3, ex_4, ex_5, ex_6, ex_7, ex_8, ex_9, ey_2, ey_3, ey_4, ey_5, ey_6, ey_7, ey_8, ey_9]
  exact ⟨hb.to hb.2.2.1 (by have := hb.2.2.2; omega), fun y _ => base_small y⟩)
theorem IsR_store {α : Type} {k : Nat} {e : α → Nat → AV} {d : α} (he : EncN k e) {l : List α} {i0 off : Nat} {v : α} {vs : List AV}
    (h : ∀ j, j < k → Is (bif Nat.ble off j && Nat.blt j (off + vs.length) then vs.getD (j - off) .any else e (l.getD i0 d) j) (e v j)) : IsR k e d (storeC (fun i j => e (l.getD i d) j) i0 off vs) (l.set i0 v) := fun i hi j hj => by
  have hi' : i < l.length := by simpa using hi
  unfold storeC
  by_cases hii : i = i0
  · subst hii
    have e1 : (l.set i v).getD i d = v := by simp [hi']
    rw [e1, beq_iff.2 rfl, Bool.true_and]
    exact h j hj
  · have e1 : (l.set i0 v).getD i d = l.getD i d := by simp only [List.getD_eq_getElem?_getD, List.getElem?_set_ne (Ne.symm hii)]
    have e2 : Nat.beq i i0 = false := by
      cases hb : Nat.beq i i0
      · rfl
      · exact absurd (beq_iff.1 hb) hii
    rw [e1, e2]
    exact he.self _ hj
theorem IsO_xpush {α : Type} {k : Nat} {e : α → Nat → AV} {d : α} {l : List α} {n : Nat} {row : List AV} {v : α} (hn : n = l.length) (hs : ∀ x j, j < k → IsX (e x j) (e x j)) (hr : ∀ j, j < k → IsX (row.getD j .any) (e v j)) :
    IsO (.xarr (n + 1) k (joinC n (fun i j => e (l.getD i d) j) (rowsCell [row]))) (.xarr (l ++ [v]).length k fun i j => e ((l ++ [v]).getD i d) j) := by
  subst hn
  refine ⟨rfl, by simp, fun i hi j hj => ?_⟩
  by_cases h' : i < l.length
  · have e1 : (l ++ [v]).getD i d = l.getD i d := by simp only [List.getD_eq_getElem?_getD, List.getElem?_append_left h']
    show IsX (joinC l.length (fun i j => e (l.getD i d) j) (rowsCell [row]) i j) (e ((l ++ [v]).getD i d) j)
    unfold joinC
    rw [blt_true h', e1]
    exact hs _ j hj
  · have hi' : i = l.length := by omega
    subst hi'
    have e1 : (l ++ [v]).getD l.length d = v := by simp
    show IsX (joinC l.length (fun i j => e (l.getD i d) j) (rowsCell [row]) l.length j) (e ((l ++ [v]).getD l.length d) j)
    unfold joinC
    rw [blt_false h', e1, Nat.sub_self]
    exact hr j hj
theorem IsX_v (x : Value) : IsX (.v x) (.v x) := rfl
theorem IsX_intsS {v : List Int} : IsX (ints v) (ints v) := ⟨rfl, rfl, fun i hi j hj => EncN.eI.self _ hj⟩
theorem IsX_eY (x : Sym) (j : Nat) (hj : j < 3) : IsX (eY x j) (eY x j) := by
  match j, hj with
  | 0, _ => exact IsX_v _
  | 1, _ => exact IsX_intsS
  | 2, _ => exact IsX_v _
theorem xrY_push {l : List Sym} {n : Nat} {a : ByteArray} {v : List Int} {c : Int} (hn : n = l.length) : IsO (.xarr (n + 1) 3 (joinC n (cY l) (rowsCell [[st a, AV.sl v.length 1 (cI v), i64 c]]))) (xrY (l ++ [(a, v, c)])) :=
  IsO_xpush hn IsX_eY fun j hj => by
    match j, hj with
    | 0, _ => exact IsX_v _
    | 1, _ => exact IsX_intsS
    | 2, _ => exact IsX_v _
theorem mem_set_imp {α : Type} {q : α → Prop} {l : List α} {i : Nat} {v : α} (h : ∀ x ∈ l, q x) (hv : q v) : ∀ x ∈ l.set i v, q x := fun x hx => by
  rcases List.mem_or_eq_of_mem_set hx with e | e
  · exact h x e
  · rw [e]; exact hv
theorem mem_push_imp {α : Type} {q : α → Prop} {l : List α} {v : α} (h : ∀ x ∈ l, q x) (hv : q v) : ∀ x ∈ l ++ [v], q x := fun x hx => by
  rcases List.mem_append.1 hx with e | e
  · exact h x e
  · rw [List.mem_singleton.1 e]; exact hv
theorem _root_.Pl.SgB.mono {n k n' k' : Nat} {s : Pl.Sig} (h : SgB n k s) (h1 : n ≤ n') (h2 : k ≤ k') : SgB n' k' s := ⟨Nat.le_trans h.1 h1, fun x hx => ⟨(h.2 x hx).1, Nat.le_trans (h.2 x hx).2 h2⟩⟩
theorem _root_.Pl.SgB.set {n k : Nat} {s : Pl.Sig} (h : SgB n k s) {i : Nat} {x : Sym} (hx : x.1.size ≤ 10 ∧ x.2.1.length ≤ k) : SgB n k (s.set i x) := ⟨by simpa using h.1, mem_set_imp h.2 hx⟩
theorem _root_.Pl.SgB.push {n k : Nat} {s : Pl.Sig} (h : SgB n k s) {x : Sym} (hn : s.length < n) (hx : x.1.size ≤ 10 ∧ x.2.1.length ≤ k) : SgB n k (s ++ [x]) := ⟨by simp; omega, mem_push_imp h.2 hx⟩
theorem names5 : ∀ y ∈ [(⟨#[]⟩ : ByteArray), ⟨#[65]⟩, ⟨#[97, 98, 99]⟩, ⟨#[122, 122]⟩, ⟨#[97]⟩], y.size ≤ 10 := by decide
theorem names3 : ∀ y ∈ [(⟨#[97]⟩ : ByteArray), ⟨#[98]⟩, ⟨#[122]⟩], ((⟨#[122]⟩ : ByteArray) ++ y).size ≤ 10 ∧ y.size ≤ 10 := by decide
theorem k_l4Bent : SoundC Tryd.prog K_l4Bent.1 K_l4Bent.2 := sound_of hm (((CtxOK.nil.and k_of).and k_num).and k_pick) (fun (b, p, s, n, k) => A_l4Bent b p s n k) (by kernel_rfl) fun ((b, p, s, n, r) : List Int × Int × Pl.Sig × Nat × Nat) hb => (by
  obtain ⟨h1, h2, hn1, hn2, hr2⟩ : Rd 274877906944 b p ∧ SgB n r s ∧ 7 ≤ n ∧ n ≤ 14 ∧ r ≤ 8 := hb
  rw [← vc_l4Bent b p s n r]
  simp [-List.getD_eq_getElem?_getD, -List.mem_cons, -Bool.forall_bool, -Bool.exists_bool, and_assoc, peta, tl_inj, ex_1, ex_2, ex_3, ex_4, ex_5, ex_6, ex_7, ex_8, ex_9, ey_2, ey_3, ey_4, ey_5, ey_6, ey_7, ey_8, ey_9]
  obtain ⟨s1, s2⟩ : s.length ≤ n ∧ ∀ x ∈ s, x.1.size ≤ 10 ∧ x.2.1.length ≤ r := id h2
  have g3 := h1.2.2.1
  have g4 := h1.2.2.2
  have hB : SgB (n + 1) (r + 1) s := h2.mono (by omega) (by omega)
  refine ⟨⟨0, by omega, rfl, rfl, .inl rfl⟩, fun x hx => ⟨fun hlt => ?_, fun hge => ?_⟩⟩
  · have h3 := s2 _ (getD_mem dY hlt)
    refine ⟨hlt, by omega, by omega, by omega, by omega, by omega, wrap_succ hlt (by omega), ?_⟩
    rw [Pl.take_succ_getD dY hlt]
    exact xrY_push (by simp; omega)
  · obtain rfl : x = s.length := by omega
    rw [List.take_length, Nat.min_self]
    have hI : Is (AV.sl s.length 3 (cY s)) (syms s) := (syms_take (Nat.le_refl _)).2 List.take_length
    refine ⟨fun _ => ⟨s, hB, by omega, by omega, hI⟩, fun h0 => ⟨h1.to (by omega) (by omega), fun y y1 y2 => ⟨fun _ => ⟨s, hB, by omega, by omega, hI⟩, fun _ => ⟨h1.to (by omega) (by omega), fun k hk _ => ⟨h1.to (by omega) (by omega), fun z z1 z2 => ?_⟩⟩⟩⟩⟩
    obtain ⟨k1, k2⟩ := hk (by omega)
    have hkl : k.toNat < s.length := by omega
    have h3 := s2 _ (getD_mem dY hkl)
    have hsl : ∀ v : Sym, (s.set k.toNat v).length = s.length := fun v => by simp
    refine ⟨fun _ => ⟨h1.to (by omega) (by omega), fun nm hnm => ?_⟩, fun _ => ⟨fun _ => ?_, fun _ => ⟨fun _ => ⟨h1.to (by omega) (by omega), fun v hv => ?_⟩, fun _ => ⟨fun _ => ?_, fun _ => ⟨⟨s, hB, by omega, by omega, rfl, .inr rfl⟩, fun a q ha q1 q2 => ⟨fun hle => ⟨h1.to (by omega) (by omega), fun nm hnm => ?_⟩, fun _ => ⟨ha, by omega, by have := ha.1; omega⟩⟩⟩⟩⟩⟩⟩
    · exact ⟨by omega, by omega, by omega, _, hB.set (x := (nm, (s.getD k.toNat dY).2)) ⟨names5 nm hnm, Nat.le_trans h3.2 (by omega)⟩, by omega, by omega, by omega, Is_sl_of (hsl _).symm (IsR_store EncN.eY fun j hj => by
        match j, hj with
        | 0, _ => exact Is_st.2 rfl
        | 1, _ => exact EncN.eY.self _ (j := 1) (by decide)
        | 2, _ => exact EncN.eY.self _ (j := 2) (by decide))⟩
    · have main : ∀ v : Int, ∃ a, SgB (n + 1) (r + 1) a ∧ p ≤ p + 1 + 1 + 1 + 1 ∧ p + 1 + 1 + 1 + 1 ≤ p + 100 ∧ s.length ≤ s.length ∧ Is (AV.sl s.length 3 fun i j => storeC (cY s) k.toNat 1 [AV.sl ((s.getD k.toNat dY).snd.fst.length + 1) 1 (joinC (s.getD k.toNat dY).snd.fst.length (cI (s.getD k.toNat dY).snd.fst) (rowsCell [[i64 v]]))] i j) (syms a) := fun v =>
        ⟨_, hB.set (x := ((s.getD k.toNat dY).1, (s.getD k.toNat dY).2.1 ++ [v], (s.getD k.toNat dY).2.2)) ⟨h3.1, by dsimp only; rw [List.length_append, List.length_singleton]; omega⟩, by omega, by omega, by omega, Is_sl_of (hsl _).symm (IsR_store EncN.eY fun j hj => by
          match j, hj with
          | 0, _ => exact EncN.eY.self _ (j := 0) (by decide)
          | 1, _ => exact ((Rds.cel EncN.eI (s.getD k.toNat dY).2.1).join (Rds.row (ints_row v))).is
          | 2, _ => exact EncN.eY.self _ (j := 2) (by decide))⟩
      exact ⟨by omega, by omega, by omega, h1.to (by omega) (by omega), fun v _ => ⟨by omega, by omega, by omega, by omega, by omega, main v⟩, h1.to (by omega) (by omega), fun v _ => ⟨by omega, by omega, by omega, by omega, by omega, by omega, by omega, main v⟩⟩
    · exact ⟨by omega, by omega, by omega, _, hB.set (x := ((s.getD k.toNat dY).1, (s.getD k.toNat dY).2.1, v)) ⟨h3.1, Nat.le_trans h3.2 (by omega)⟩, by omega, by omega, by omega, Is_sl_of (hsl _).symm (IsR_store EncN.eY fun j hj => by
        match j, hj with
        | 0, _ => exact EncN.eY.self _ (j := 0) (by decide)
        | 1, _ => exact EncN.eY.self _ (j := 1) (by decide)
        | 2, _ => exact Is_i64.2 rfl)⟩
    · exact ⟨by omega, by omega, by omega, by omega, by omega, _, hB.push (x := s.getD k.toNat dY) (by omega) ⟨h3.1, by omega⟩, by omega, by omega, ((Rds.cel EncN.eY s).join (Rds.row (IsR_row EncN.eY (Is_rowY (Is_ints.2 rfl))))).is⟩
    · obtain ⟨e1, e2⟩ := names3 nm hnm
      refine ⟨by omega, by omega, _, ha.push (x := (⟨#[122]⟩ ++ nm, [], 0)) (by omega) ⟨e1, Nat.zero_le _⟩, by omega, ?_, ?_, by simp, IsO_join EncN.eY (IsR_row EncN.eY (Is_rowY (ints_nil.2 rfl)))⟩
      · simp; omega
      · simp; omega)
theorem sg_sm {n k : Nat} {s : Pl.Sig} (h : SgB n k s) (hn : n ≤ 100 := by decide) (hk : k ≤ 100 := by decide) : costG s ≤ 1048576 := by
  have : sumN costY s ≤ s.length * 110 := sumN_le fun x hx => by have := h.2 x hx; unfold costY; omega
  have h1 := h.1
  have : s.length * 110 ≤ 100 * 110 := Nat.mul_le_mul_right _ (by omega)
  unfold costG; omega
end Cg

/-
  The codes' contracts: vocabularies that are read. No condition.
-/
set_option linter.unusedVariables false
set_option linter.unusedSimpArgs false
set_option maxRecDepth 100000
namespace Pl
open Go Cg
theorem digs_len (s : ByteArray) : (digs s).length = s.size := by unfold digs; rw [List.length_map]; rfl
theorem digs_get {s : ByteArray} {i : Nat} (h : i < s.size) : (digs s).getD i 0 = (((bl' s).getD i 0).toNat : Int) - 48 := by
  have hl : i < (bl' s).length := h
  unfold digs
  simp only [List.getD_eq_getElem?_getD, List.getElem?_map, List.getElem?_eq_getElem hl, Option.map_some, Option.getD_some]
theorem pc_le {c : UInt8} {s : ByteArray} (i : Nat) : (pc (cut c s) i).size ≤ s.size := by
  unfold pc
  by_cases h : i < (cut c s).length
  · exact cut_le (getD_mem _ h)
  · rw [List.getD_eq_getElem?_getD, List.getElem?_eq_none (by omega)]
    exact Nat.zero_le _
theorem sumN_app {α : Type} (f : α → Nat) : ∀ a b : List α, sumN f (a ++ b) = sumN f a + sumN f b
  | [], b => by simp [sumN]
  | x :: a, b => by simp only [List.cons_append, sumN, sumN_app f a b]; omega
theorem sumN_pre {α : Type} (f : α → Nat) (l : List α) (x : Nat) : sumN f (l.take x) ≤ sumN f l := by
  have := sumN_app f (l.take x) (l.drop x)
  rw [List.take_append_drop] at this
  omega
theorem sumN_map {α β : Type} (f : β → Nat) (g : α → β) : ∀ l : List α, sumN f (l.map g) = sumN (fun x => f (g x)) l
  | [] => rfl
  | x :: l => by simp only [List.map_cons, sumN, sumN_map f g l]
theorem sumN_mono {α : Type} {f g : α → Nat} (h : ∀ x, f x ≤ g x) : ∀ l : List α, sumN f l ≤ sumN g l
  | [] => Nat.le_refl _
  | x :: l => by have := sumN_mono h l; have := h x; simp only [sumN]; omega
theorem sumN_one {α : Type} (f : α → Nat) : ∀ l : List α, sumN (fun x => f x + 1) l = sumN f l + l.length
  | [] => rfl
  | x :: l => by simp only [sumN, sumN_one f l, List.length_cons]; omega
theorem cutL_sum (c : UInt8) : ∀ l : List UInt8, sumN (fun p => p.length + 1) (cutL c l) = l.length + 1
  | [] => rfl
  | x :: r => by
    have ih := cutL_sum c r
    by_cases hx : x = c
    · rw [cutL, if_pos hx]; simp only [sumN, ih, List.length_cons, List.length_nil]; omega
    · obtain ⟨p, ps, e1, e2⟩ := cutL_cons hx r
      rw [e2]; rw [e1] at ih
      simp only [sumN, List.length_cons] at ih ⊢; omega
theorem cut_sum (c : UInt8) (s : ByteArray) : sumN (fun (p : ByteArray) => p.size + 1) (cut c s) = s.size + 1 := by
  unfold cut
  rw [sumN_map]
  exact cutL_sum c (bl' s)
theorem take_cost {c : UInt8} {s : ByteArray} {x : Nat} (h : x ≤ (cut c s).length - 1) : sumN (fun (p : ByteArray) => p.size + 1) ((cut c s).take x) ≤ s.size := by
  have h1 := cut_sum c s
  have h0 := cut_ne c s
  have h2 : (cut c s).take (x + 1) = (cut c s).take x ++ [(cut c s).getD x ByteArray.empty] := take_snoc _ (by omega)
  have h3 := sumN_pre (fun (p : ByteArray) => p.size + 1) (cut c s) (x + 1)
  rw [h2, sumN_app] at h3
  simp only [sumN] at h3
  omega
theorem pc_two {c : UInt8} {s : ByteArray} (h : 1 < (cut c s).length) : (pc (cut c s) 0).size + (pc (cut c s) 1).size ≤ s.size := by
  have h1 := cut_sum c s
  unfold pc
  match hc : cut c s, h with
  | a :: b :: r, _ =>
    rw [hc] at h1
    simp only [sumN] at h1
    simp only [List.getD_cons_zero, List.getD_cons_succ]
    omega
theorem args_le (s : ByteArray) : (argsOf s).length ≤ s.size := by
  unfold argsOf
  split
  · exact Nat.zero_le _
  · rw [digs_len]; exact Nat.le_refl _
theorem scan_cost (s : ByteArray) : costY (scanSym s) ≤ s.size := by
  have h0 := pc_le (c := 32) (s := s) 0
  have h1 := args_le (pc (cut 32 s) 1)
  unfold costY scanSym scanY
  dsimp only
  split
  · have := pc_two (c := 32) (s := s) (by assumption); omega
  · simp only [List.length_nil]; omega
theorem read_cost (s : ByteArray) : costY (readSym s).1 ≤ s.size := by
  have h1 := args_le (pc (cut 32 s) 1)
  unfold costY readSym
  split
  · have := pc_two (c := 32) (s := s) (by omega)
    unfold readY
    dsimp only
    omega
  · exact Nat.zero_le _
theorem lines_cost {s : ByteArray} {x : Nat} (f : ByteArray → Sym) (hf : ∀ l, costY (f l) ≤ l.size) (h : x ≤ (cut 10 s).length - 1) (hs : s.size ≤ 1048576) : costG (((cut 10 s).take x).map f) ≤ 1048576 := by
  have h1 := take_cost h
  rw [sumN_one] at h1
  have h2 := sumN_mono (f := fun l => costY (f l)) (g := ByteArray.size) hf ((cut 10 s).take x)
  unfold costG
  rw [sumN_map, List.length_map]
  omega
theorem tl45 {s : ByteArray} : s.toList = [45] ↔ s = mkB [45] := by
  have h0 : (mkB [45]).toList = [45] := by rw [ByteArray.toList_eq]; rfl
  exact ⟨fun h => tl_inj.1 (h.trans h0.symm), fun h => by rw [h, h0]⟩
theorem dig_val (x : UInt8) : IntKind.i64.wrap (IntKind.i64.wrap ((x.toNat : Nat) : Int) - 48) = ((x.toNat : Nat) : Int) - 48 := by
  have := x.toNat_lt
  rw [Cg.wrap_small (x := ((x.toNat : Nat) : Int)) (by omega) (by omega), Cg.wrap_small (by omega) (by omega)]
end Pl
namespace Cg
open Go Go.Proofs Pl
theorem push_take {D : List Int} {x : Nat} {v : Int} (h : x < D.length) (hv : v = D.getD x 0) : IsO (.arr (x + 1) 1 (joinC x (cI (D.take x)) (rowsCell [[i64 v]]))) (arI (D.take (x + 1))) := by
  have hx : (D.take x).length = x := by simp; omega
  have := ints_push (l := D.take x) (v := v)
  rw [hx] at this
  rw [take_snoc 0 h, ← hv]
  exact this
set_option maxHeartbeats 8000000 in
theorem g_l4Scan (s : ByteArray) (h1 : SzL20 s) : GoalW Tryd.prog [K_l16Cut, K_l16Num] (A_l4Scan s) K_l4Scan.1 K_l4Scan.2 (s) := GoalW.of (vc_l4Scan s) (by
  simp (maxSteps := 2000000) [-List.getD_eq_getElem?_getD, -List.mem_cons, -Bool.forall_bool, -Bool.exists_bool, and_assoc, peta, tl_inj, ex_1, ex_2, ex_3, ex_4, ex_5, ex_6, ex_7, ex_8, ex_9, ey_2, ey_3, ey_4, ey_5, ey_6, ey_7, ey_8, ey_9]
  have hs : s.size ≤ 1048576 := h1
  have hp := cut_ne 32 s
  have p1 := pc_le (c := 32) (s := s) 1
  have p2 := pc_le (c := 32) (s := s) 2
  have hd := digs_len (pc (cut 32 s) 1)
  have e1 : (cut 32 s).getD 1 ByteArray.empty = pc (cut 32 s) 1 := rfl
  have e2 : (cut 32 s).getD 2 ByteArray.empty = pc (cut 32 s) 2 := rfl
  have e0 : (cut 32 s).getD 0 ByteArray.empty = (scanSym s).fst := rfl
  refine ⟨32, rfl, by omega, hp, ?_⟩
  rw [e1, e2, e0]
  simp only [tl45, byte_at]
  refine ⟨fun hl => ⟨hl, by omega, fun h45 => ⟨⟨0, Nat.zero_le _, by omega, h45, (by trivial), (by trivial), (by trivial), (by trivial), (by trivial), .inl rfl⟩, fun x hx _ _ => ⟨hl, by omega, fun hlt => ⟨hl, by omega, hlt, by omega, by omega, by omega, by omega, h45, by omega, wrap_small (by omega) (by omega), push_take (by omega) (by rw [dig_val, digs_get hlt])⟩, fun hge => ?_⟩⟩, fun h45 => ?_⟩, fun hl => ?_⟩
  · have e : argsOf (pc (cut 32 s) 1) = digs (pc (cut 32 s) 1) := by unfold argsOf; rw [if_neg h45]
    have hI : Is (AV.sl x 1 (cI (List.take x (digs (pc (cut 32 s) 1))))) (ints (if 1 < (cut 32 s).length then argsOf (pc (cut 32 s) 1) else [])) := by
      rw [if_pos (by omega), e, List.take_of_length_le (by omega)]
      exact (ints_take (by omega)).2 (List.take_of_length_le (by omega))
    exact ⟨fun h3 => ⟨h3, by omega, by omega, by omega, by trivial, hI, by rw [if_pos (by omega)]⟩, fun h3 => ⟨by omega, by trivial, hI, fun h => by omega⟩⟩
  · have e : argsOf (pc (cut 32 s) 1) = [] := by unfold argsOf; rw [if_pos h45]
    exact ⟨fun h3 => ⟨h3, by omega, by omega, by trivial, fun _ => e, by rw [if_pos (by omega)]⟩, fun h3 => ⟨by trivial, fun _ => e, fun h => by omega⟩⟩
  · exact ⟨fun h3 => by omega, fun h3 => ⟨by trivial, fun h => by omega, fun h => by omega⟩⟩)
theorem k_l4Scan : SoundC Tryd.prog K_l4Scan.1 K_l4Scan.2 := sound_ofW hm ((CtxOK.nil.and k_l16Num).and k_l16Cut) (fun (s : ByteArray) => A_l4Scan s) (by kernel_rfl) fun (s : ByteArray) hb => g_l4Scan s hb
set_option maxHeartbeats 8000000 in
theorem g_sSigRead (s : ByteArray) (h1 : SzL20 s) : GoalW Tryd.prog [K_l16Cut, K_l4Scan, K_sSigOk, K_sSigText] (A_sSigRead s) K_sSigRead.1 K_sSigRead.2 (s) := GoalW.of (vc_sSigRead s) (by
  simp (maxSteps := 2000000) [-List.getD_eq_getElem?_getD, -List.mem_cons, -Bool.forall_bool, -Bool.exists_bool, and_assoc, peta, tl_inj, ex_1, ex_2, ex_3, ex_4, ex_5, ex_6, ex_7, ex_8, ex_9, ey_2, ey_3, ey_4, ey_5, ey_6, ey_7, ey_8, ey_9]
  have hs : s.size ≤ 1048576 := h1
  have hp := cut_ne 10 s
  have hl := cut_len 10 s
  have hw : ∀ x : Nat, x ≤ 8 → IntKind.i64.wrap ((x : Int) + 1) = (x : Int) + 1 := fun x h => wrap_small (by omega) (by omega)
  have hml : (List.map scanSym (cut 10 s)).length = (cut 10 s).length := List.length_map ..
  have fin : ∀ x : Nat, x ≤ (cut 10 s).length - 1 → x ≤ 8 → (x = (cut 10 s).length - 1 ∨ x = 8) → x ≤ min x (cut 10 s).length ∧
      ∃ x_1, Is (AV.sl x 3 (cY (List.take x (List.map scanSym (cut 10 s))))) (syms x_1) ∧ costG x_1 ≤ 1048576 ∧ (sigOk x_1 = false → (sigReadS s).fst = [] ∧ (sigReadS s).snd = false) ∧
        (sigOk x_1 = true → x ≤ min x (cut 10 s).length ∧ ∃ x_2, Is (AV.sl x 3 (cY (List.take x (List.map scanSym (cut 10 s))))) (syms x_2) ∧ costG x_2 ≤ 1048576 ∧
          (¬tx (sigOk x_2) (sigB x_2) = s → (sigReadS s).fst = [] ∧ (sigReadS s).snd = false) ∧
          (tx (sigOk x_2) (sigB x_2) = s → x ≤ min x (cut 10 s).length ∧ Is (AV.sl x 3 (cY (List.take x (List.map scanSym (cut 10 s))))) (syms (sigReadS s).fst) ∧ (sigReadS s).snd = true)) := fun x k1 k2 k3 => by
    have e : List.take x (List.map scanSym (cut 10 s)) = sigScan s := by
      unfold sigScan
      rw [← List.map_take, List.dropLast_eq_take, List.take_take]
      congr 2
      omega
    have hc : costG (sigScan s) ≤ 1048576 := by
      rw [← e, ← List.map_take]
      exact lines_cost scanSym scan_cost k1 hs
    have hlen : x = (sigScan s).length := by rw [← e, List.length_take, hml]; omega
    have hI : Is (AV.sl x 3 (cY (sigScan s))) (syms (sigScan s)) := by
      rw [hlen]; exact (syms_take (Nat.le_refl _)).2 List.take_length
    rw [e]
    refine ⟨by omega, sigScan s, hI, hc, fun h => ?_, fun h => ⟨by omega, sigScan s, hI, hc, fun h2 => ?_, fun h2 => ⟨by omega, ?_⟩⟩⟩
    · unfold sigReadS; rw [if_neg (by rw [h]; simp)]; exact ⟨rfl, rfl⟩
    · unfold sigReadS; rw [if_neg fun e => h2 (by rw [h, tx_yes rfl]; exact e.2)]; exact ⟨rfl, rfl⟩
    · unfold sigReadS; rw [if_pos ⟨h, by rw [h, tx_yes rfl] at h2; exact h2⟩]; exact ⟨hI, rfl⟩
  refine ⟨10, rfl, by omega, ⟨0, Nat.zero_le _, Nat.zero_le _, rfl, rfl, rfl, .inl rfl⟩, fun x k1 k2 => ?_⟩
  rw [hw x k2]
  refine ⟨fun hlt => ⟨fun h7 => ⟨by omega, Nat.le_trans (cut_le (getD_mem _ (by omega))) hs, by omega, by omega, by omega, by omega, by omega, rfl, ?_⟩, fun h7 => fin x k1 k2 (.inr (by omega))⟩, fun hge => fin x k1 k2 (.inl (by omega))⟩
  have hx : (List.take x (List.map scanSym (cut 10 s))).length = x := by rw [List.length_take, hml]; omega
  have := syms_push (l := List.take x (List.map scanSym (cut 10 s))) (a := (scanSym ((cut 10 s).getD x ByteArray.empty)).1) (b := (scanSym ((cut 10 s).getD x ByteArray.empty)).2.1) (c := (scanSym ((cut 10 s).getD x ByteArray.empty)).2.2)
  rw [hx] at this
  rw [take_snoc dY (by rw [hml]; omega)]
  have e : (List.map scanSym (cut 10 s)).getD x dY = scanSym ((cut 10 s).getD x ByteArray.empty) := by
    simp only [List.getD_eq_getElem?_getD, List.getElem?_map, List.getElem?_eq_getElem (show x < (cut 10 s).length by omega), Option.map_some, Option.getD_some]
  rw [e]
  exact this)
theorem k_sSigRead : SoundC Tryd.prog K_sSigRead.1 K_sSigRead.2 := sound_ofW hm ((((CtxOK.nil.and k_sSigText).and k_sSigOk).and k_l4Scan).and k_l16Cut) (fun (s : ByteArray) => A_sSigRead s) (by kernel_rfl) fun (s : ByteArray) hb => g_sSigRead s hb
set_option maxHeartbeats 8000000 in
theorem g_readSym (s : ByteArray) (h1 : SzL20 s) : GoalW Tryd.prog [K_Split, K_Atoi, K_symok, K_symtext] (A_readSym s) K_readSym.1 K_readSym.2 (s) := GoalW.of (vc_readSym s) (by
  simp (maxSteps := 2000000) [-List.getD_eq_getElem?_getD, -List.mem_cons, -Bool.forall_bool, -Bool.exists_bool, and_assoc, peta, tl_inj, ex_1, ex_2, ex_3, ex_4, ex_5, ex_6, ex_7, ex_8, ex_9, ey_2, ey_3, ey_4, ey_5, ey_6, ey_7, ey_8, ey_9]
  have hs : s.size ≤ 1048576 := h1
  have hp := cut_ne 32 s
  have p0 := pc_le (c := 32) (s := s) 0
  have p1 := pc_le (c := 32) (s := s) 1
  have p2 := pc_le (c := 32) (s := s) 2
  have hd := digs_len (pc (cut 32 s) 1)
  have e1 : (cut 32 s).getD 1 ByteArray.empty = pc (cut 32 s) 1 := rfl
  have e2 : (cut 32 s).getD 2 ByteArray.empty = pc (cut 32 s) 2 := rfl
  have e0 : (cut 32 s).getD 0 ByteArray.empty = pc (cut 32 s) 0 := rfl
  refine ⟨32, rfl, by omega, ?_⟩
  rw [e1, e2, e0]
  simp only [tl45, byte_at]
  refine ⟨fun h3 => ?_, fun h3 => ⟨hp, by omega, by omega, fun h45 => ⟨by omega, by omega, ⟨0, Nat.zero_le _, by omega, h45, (by trivial), by rw [hd], (by trivial), (by trivial), (by trivial), (by trivial), .inl rfl⟩, fun x hx _ _ => ⟨fun hlt => ⟨by omega, by omega, by omega, by omega, by omega, by omega, by omega, h45, by omega, wrap_small (by omega) (by omega), push_take (by omega) (by rw [dig_val, digs_get (by omega)])⟩, fun hge => ?_⟩⟩, fun h45 => ?_⟩⟩
  · have e : readSym s = ((ByteArray.empty, [], 0), false) := by unfold readSym; rw [if_neg (by omega)]
    rw [e]; exact ⟨rfl, rfl, rfl, rfl, rfl⟩
  · have e : argsOf (pc (cut 32 s) 1) = digs (pc (cut 32 s) 1) := by unfold argsOf; rw [if_neg h45]
    have hx : x = (digs (pc (cut 32 s) 1)).length := by omega
    have hI : Is (AV.sl x 1 (cI (List.take x (digs (pc (cut 32 s) 1))))) (ints (digs (pc (cut 32 s) 1))) := by
      rw [List.take_of_length_le (by omega)]
      exact (ints_take (by omega)).2 (List.take_of_length_le (by omega))
    have hY : readY (cut 32 s) = (pc (cut 32 s) 0, digs (pc (cut 32 s) 1), atoi (pc (cut 32 s) 2)) := by unfold readY; rw [e]
    have hR : readSym s = ((pc (cut 32 s) 0, digs (pc (cut 32 s) 1), atoi (pc (cut 32 s) 2)), symOk (pc (cut 32 s) 0, digs (pc (cut 32 s) 1), atoi (pc (cut 32 s) 2)) && decide (mkB (symB (pc (cut 32 s) 0, digs (pc (cut 32 s) 1), atoi (pc (cut 32 s) 2))) = s)) := by
      unfold readSym; rw [if_pos (by omega), hY]
    rw [hR]
    dsimp only
    refine ⟨by omega, by omega, by omega, by omega, digs (pc (cut 32 s) 1), hI, by omega, by omega, fun hok => ⟨by omega, digs (pc (cut 32 s) 1), hI, hok, rfl, hx, rfl, ?_, .inr (List.take_of_length_le (by omega))⟩, fun hno => ?_⟩
    · rw [hok, Bool.true_and, Bool.eq_iff_iff, decide_eq_true_eq, beq_iff_eq, tl_inj]
    · exact ⟨rfl, hx, rfl, by rw [hno]; rfl, .inr (List.take_of_length_le (by omega))⟩
  · have e : argsOf (pc (cut 32 s) 1) = [] := by unfold argsOf; rw [if_pos h45]
    have hY : readY (cut 32 s) = (pc (cut 32 s) 0, [], atoi (pc (cut 32 s) 2)) := by unfold readY; rw [e]
    have hR : readSym s = ((pc (cut 32 s) 0, [], atoi (pc (cut 32 s) 2)), symOk (pc (cut 32 s) 0, [], atoi (pc (cut 32 s) 2)) && decide (mkB (symB (pc (cut 32 s) 0, [], atoi (pc (cut 32 s) 2))) = s)) := by
      unfold readSym; rw [if_pos (by omega), hY]
    rw [hR]
    dsimp only
    refine ⟨by omega, by omega, by omega, by omega, fun hok => ⟨hok, rfl, rfl, rfl, ?_, rfl⟩, fun hno => ⟨rfl, rfl, rfl, by rw [hno]; rfl, rfl⟩⟩
    rw [hok, Bool.true_and, Bool.eq_iff_iff, decide_eq_true_eq, beq_iff_eq, tl_inj])
theorem k_readSym : SoundC Tryd.prog K_readSym.1 K_readSym.2 := sound_ofW hm ((((CtxOK.nil.and k_symtext).and k_symok).and k_Atoi).and k_Split) (fun (s : ByteArray) => A_readSym s) (by kernel_rfl) fun (s : ByteArray) hb => g_readSym s hb
set_option maxHeartbeats 8000000 in
theorem g_iSigRead (s : ByteArray) (h1 : SzL20 s) : GoalW Tryd.prog [K_linesOf, K_readSym, K_iSigOk] (A_iSigRead s) K_iSigRead.1 K_iSigRead.2 (s) := GoalW.of (vc_iSigRead s) (by
  simp (maxSteps := 2000000) [-List.getD_eq_getElem?_getD, -List.mem_cons, -Bool.forall_bool, -Bool.exists_bool, and_assoc, peta, tl_inj, ex_1, ex_2, ex_3, ex_4, ex_5, ex_6, ex_7, ex_8, ex_9, ey_2, ey_3, ey_4, ey_5, ey_6, ey_7, ey_8, ey_9]
  have hs : s.size ≤ 1048576 := h1
  have hp := cut_ne 10 s
  have hll : (linesOf s).1.length = (cut 10 s).length - 1 := by unfold linesOf; exact List.length_dropLast
  have no : ¬ ((linesOf s).2 = true ∧ (linesOf s).1.length ≤ 7 ∧ (linesOf s).1.all (fun l => (readSym l).2) = true ∧ sigOk (symsOf (linesOf s).1) = true) → (sigReadI s).fst = [] ∧ (sigReadI s).snd = false ∧ (sigReadI s).fst = [] := fun h => by
    unfold sigReadI; rw [if_neg h]; exact ⟨rfl, rfl, rfl⟩
  have hsy : ∀ x, x ≤ (linesOf s).1.length → (symsOf ((linesOf s).1.take x)).length = x := fun x h => by unfold symsOf; rw [List.length_map, List.length_take]; omega
  refine ⟨by omega, fun h => no fun e => (by rw [h] at e; cases e.1), fun hok => ⟨fun h7 => no fun e => by omega, fun h7 => ⟨⟨0, Nat.zero_le _, by omega, hok, fun x hx => by simp at hx, rfl, rfl, rfl⟩, fun x k1 _ _ k2 => ⟨fun hlt => ⟨hlt, ?_, fun hno => no fun e => ?_, fun hyes => ⟨(hsy x k1).symm, by omega, hlt, by omega, hok, fun y hy => ?_, by omega, wrap_small (by omega) (by omega), ?_⟩⟩, fun hge => ?_⟩⟩⟩⟩
  · have hm : (linesOf s).1.getD x ByteArray.empty ∈ cut 10 s := by
      have := getD_mem ByteArray.empty hlt
      unfold linesOf at this ⊢
      exact (List.dropLast_sublist _).subset this
    exact Nat.le_trans (cut_le hm) hs
  · have := List.all_eq_true.1 e.2.2.1 _ (getD_mem ByteArray.empty hlt)
    rw [hno] at this; cases this
  · rw [take_snoc ByteArray.empty hlt, List.mem_append] at hy
    rcases hy with hy | hy
    · exact k2 y hy
    · rw [List.mem_singleton] at hy; rw [hy]; exact hyes
  · have e : symsOf ((linesOf s).1.take (x + 1)) = symsOf ((linesOf s).1.take x) ++ [(readSym ((linesOf s).1.getD x ByteArray.empty)).1] := by
      unfold symsOf; rw [take_snoc ByteArray.empty hlt, List.map_append]; rfl
    rw [e]
    exact xrY_push (hsy x k1).symm
  · have hx : x = (linesOf s).1.length := by omega
    subst hx
    rw [List.take_length] at k2 ⊢
    have hlen : (symsOf (linesOf s).1).length = (linesOf s).1.length := by unfold symsOf; exact List.length_map ..
    have hc : costG (symsOf (linesOf s).1) ≤ 1048576 := by
      have := lines_cost (x := (cut 10 s).length - 1) (fun l => (readSym l).1) read_cost (Nat.le_refl _) hs
      unfold symsOf linesOf
      rw [List.dropLast_eq_take]
      exact this
    refine ⟨by omega, symsOf (linesOf s).1, by rw [← hlen]; exact (syms_take (Nat.le_refl _)).2 List.take_length, hc, fun h => no fun e => (by rw [h] at e; cases e.2.2.2), fun h => ?_⟩
    have e : sigReadI s = (symsOf (linesOf s).1, true) := by
      unfold sigReadI; rw [if_pos ⟨hok, by omega, List.all_eq_true.2 fun y hy => k2 y hy, h⟩]
    rw [e]
    exact ⟨hlen.symm, rfl, rfl, by rfl, fun i hi j hj => IsX_eY _ j hj⟩)
theorem k_iSigRead : SoundC Tryd.prog K_iSigRead.1 K_iSigRead.2 := sound_ofW hm (((CtxOK.nil.and k_iSigOk).and k_readSym).and k_linesOf) (fun (s : ByteArray) => A_iSigRead s) (by kernel_rfl) fun (s : ByteArray) hb => g_iSigRead s hb
end Cg

/-
  Plain laws: vocabularies are read back as written. No condition.
-/
set_option linter.unusedVariables false
set_option linter.unusedSimpArgs false
namespace Pl
open Go Cg
theorem itoa_no {n : Int} {c : UInt8} (hc : dig c = false) (h45 : c ≠ 45) : ∀ x ∈ itoa n, x ≠ c := fun x hx e => by
  subst e
  have hd : ∀ u, ∀ y ∈ Go.Lib.decDigits u, dig y = true := fun u y hy => List.all_eq_true.1 (dec_dig u) y hy
  unfold itoa Go.Lib.itoa at hx
  split at hx
  · rcases List.mem_cons.1 hx with e | h
    · exact h45 e
    · rw [hd _ _ h] at hc; cases hc
  · rw [hd _ _ hx] at hc; cases hc
theorem name_no {v : ByteArray} {c : UInt8} (h : nameOk v = true) (hc : lower c = false) : ∀ x ∈ bl' v, x ≠ c := fun x hx e => by
  subst e
  have := List.all_eq_true.1 (name_lower h) x hx
  rw [hc] at this; cases this
theorem sorts_tri {l : List Int} (h1 : l.length ≤ 2) (h2 : l.all isSort = true) : l = [] ∨ l = [0] ∨ l = [1] ∨ l = [0, 0] ∨ l = [0, 1] ∨ l = [1, 0] ∨ l = [1, 1] := by
  match l, h1, h2 with
  | [], _, _ => exact .inl rfl
  | [a], _, h2 =>
    simp only [List.all_cons, List.all_nil, Bool.and_true, isSort_iff] at h2
    rcases h2 with e | e <;> subst e <;> simp
  | [a, b], _, h2 =>
    simp only [List.all_cons, List.all_nil, Bool.and_true, Bool.and_eq_true, isSort_iff] at h2
    rcases h2 with ⟨e | e, f | f⟩ <;> subst e <;> subst f <;> simp
  | a :: b :: c :: d, h1, _ => simp at h1
theorem i0 : itoa 0 = [48] := dec_last (m := 0) (by omega)
theorem i1 : itoa 1 = [49] := dec_last (m := 1) (by omega)
theorem args_cases {l : List Int} (h1 : l.length ≤ 2) (h2 : l.all isSort = true) : argsOf (mkB (argsB l)) = l ∧ (∀ x ∈ argsB l, x ≠ 32) ∧ (∀ x ∈ argsB l, x ≠ 10) := by
  rcases sorts_tri h1 h2 with e | e | e | e | e | e | e <;> subst e <;> simp [argsB, catB, i0, i1, argsOf, digs, mkB_inj, bl_mk] <;> decide
theorem sym_parts {x : Sym} (h : symOk x = true) : nameOk x.1 = true ∧ x.2.1.length ≤ 2 ∧ (x.2.2 = 0 ∨ x.2.2 = 1) ∧ x.2.1.all isSort = true := by
  simp only [symOk, Bool.and_eq_true, decide_eq_true_eq, isSort_iff] at h
  exact ⟨h.1.1.1, h.1.1.2, h.1.2, h.2⟩
theorem sym_cut {x : Sym} (h : symOk x = true) : cut 32 (mkB (symB x)) = [x.1, mkB (argsB x.2.1), mkB (itoa x.2.2)] := by
  obtain ⟨h1, h2, h3, h4⟩ := sym_parts h
  have e : symB x = bl' x.1 ++ 32 :: (argsB x.2.1 ++ 32 :: itoa x.2.2) := by simp [symB]
  unfold cut
  rw [bl_mk, e, cutL_app _ (name_no h1 (by decide)), cutL_app _ (args_cases h2 h4).2.1, cutL_no (itoa_no (by decide) (by decide))]
  rfl
theorem scan_sym {x : Sym} (h : symOk x = true) : scanSym (mkB (symB x)) = x := by
  obtain ⟨h1, h2, h3, h4⟩ := sym_parts h
  unfold scanSym
  rw [sym_cut h]
  unfold scanY pc
  simp only [List.getD_cons_zero, List.getD_cons_succ, List.length_cons, List.length_nil]
  rw [if_pos (by decide), if_pos (by decide), (args_cases h2 h4).1]
  refine Prod.ext rfl (Prod.ext rfl ?_)
  show (numL (bl' (mkB (itoa x.2.2)))).1 = x.2.2
  rw [bl_mk, numL_itoa (by omega) (by omega)]
theorem read_sym {x : Sym} (h : symOk x = true) : readSym (mkB (symB x)) = (x, true) := by
  obtain ⟨h1, h2, h3, h4⟩ := sym_parts h
  have e : readY (cut 32 (mkB (symB x))) = x := by
    rw [sym_cut h]
    unfold readY pc
    simp only [List.getD_cons_zero, List.getD_cons_succ]
    rw [(args_cases h2 h4).1]
    refine Prod.ext rfl (Prod.ext rfl ?_)
    show atoiL (bl' (mkB (itoa x.2.2))) = x.2.2
    rw [bl_mk, atoiL_itoa (by omega) (by omega)]
  unfold readSym
  rw [if_pos (by rw [sym_cut h]; rfl), e, h, decide_eq_true rfl]
  rfl
theorem sym_no10 {x : Sym} (h : symOk x = true) : ∀ c ∈ symB x, c ≠ 10 := fun c hc => by
  obtain ⟨h1, h2, h3, h4⟩ := sym_parts h
  have e : symB x = bl' x.1 ++ 32 :: (argsB x.2.1 ++ 32 :: itoa x.2.2) := by simp [symB]
  rw [e] at hc
  simp only [List.mem_append, List.mem_cons] at hc
  rcases hc with hc | rfl | hc | rfl | hc
  · exact name_no h1 (by decide) c hc
  · decide
  · exact (args_cases h2 h4).2.2 c hc
  · decide
  · exact itoa_no (by decide) (by decide) c hc
theorem sig_cut : ∀ {s : Sig}, (∀ x ∈ s, symOk x = true) → cutL 10 (sigB s) = s.map symB ++ [[]]
  | [], _ => rfl
  | x :: s, h => by
    have e : sigB (x :: s) = symB x ++ 10 :: sigB s := by simp [sigB, catB, lineS]
    rw [e, cutL_app _ (sym_no10 (h x List.mem_cons_self)), sig_cut fun y hy => h y (List.mem_cons_of_mem _ hy)]
    rfl
theorem sig_lines {s : Sig} {t : ByteArray} (h : sigOk s = true) (ht : sigB s = bl' t) : (cut 10 t).dropLast = s.map (fun x => mkB (symB x)) ∧ (cut 10 t).getLastD ByteArray.empty = ByteArray.empty := by
  have e : cut 10 t = s.map (fun x => mkB (symB x)) ++ [mkB []] := by
    unfold cut
    rw [← ht, sig_cut (sig_facts h).2, List.map_append, List.map_map]
    rfl
  rw [e]
  exact ⟨List.dropLast_concat, by rw [List.getLastD_eq_getLast?, List.getLast?_concat]; rfl⟩
theorem sigReadS_eq (t : ByteArray) : sigReadS t = rd sigOk sigB [] (bl' t) := by
  unfold sigReadS
  split
  · rename_i h
    rw [rd_yes (a := sigScan t) sigB_inj h.1 (congrArg bl' h.2)]
  · rename_i h
    rw [rd_no fun a h1 h2 => h ?_]
    obtain ⟨e1, e2⟩ := sig_lines h1 h2
    have hl := (sig_facts h1).1
    have e : sigScan t = a := by
      unfold sigScan
      rw [e1, List.take_of_length_le (by rw [List.length_map]; omega), List.map_map]
      conv => rhs; rw [← List.map_id a]
      exact List.map_congr_left fun x hx => scan_sym ((sig_facts h1).2 x hx)
    rw [e]
    exact ⟨h1, by rw [h2]; rfl⟩
theorem flat_lines {ls : List ByteArray} {s : Sig} (f : ByteArray → Sym) (h : ∀ l ∈ ls, mkB (symB (f l)) = l) : sigB (ls.map f) = (ls.map bl').flatMap (· ++ [10]) := by
  induction ls with
  | nil => rfl
  | cons l ls ih =>
    have e : sigB ((l :: ls).map f) = symB (f l) ++ [10] ++ sigB (ls.map f) := by simp [sigB, catB, lineS]
    rw [e, ih fun x hx => h x (List.mem_cons_of_mem _ hx)]
    have := h l List.mem_cons_self
    have e2 : symB (f l) = bl' l := congrArg bl' this
    rw [e2]; rfl
theorem lines_text {t : ByteArray} (h : (linesOf t).2 = true) : bl' t = ((linesOf t).1.map bl').flatMap (· ++ [10]) := by
  unfold linesOf at h ⊢
  rw [decide_eq_true_eq] at h
  have e := cutL_flat 10 (bl' t)
  have h2 : (cutL 10 (bl' t)).getLastD [] = [] := by
    unfold cut at h
    have := congrArg bl' h
    rw [List.getLastD_eq_getLast?] at this ⊢
    rw [List.getLast?_map] at this
    cases hg : (cutL 10 (bl' t)).getLast? with
    | none => rfl
    | some x => rw [hg] at this; exact this
  rw [h2, List.append_nil] at e
  have e3 : (cut 10 t).dropLast.map bl' = (cutL 10 (bl' t)).dropLast := by
    unfold cut
    rw [← List.map_dropLast, List.map_map]
    have : bl' ∘ mkB = id := by funext x; rfl
    rw [this, List.map_id]
  rw [e3]
  exact e
theorem sigReadI_eq (t : ByteArray) : sigReadI t = rd sigOk sigB [] (bl' t) := by
  unfold sigReadI
  split
  · rename_i h
    obtain ⟨h1, h2, h3, h4⟩ := h
    have hr : ∀ l ∈ (linesOf t).1, mkB (symB (readSym l).1) = l := fun l hl => by
      have := List.all_eq_true.1 h3 l hl
      unfold readSym at this ⊢
      split at this
      · rename_i h3
        rw [if_pos h3]
        simp only [Bool.and_eq_true, decide_eq_true_eq] at this
        exact this.2
      · cases this
    rw [rd_yes (a := symsOf (linesOf t).1) sigB_inj h4]
    unfold symsOf
    rw [flat_lines (s := []) _ hr]
    exact (lines_text h1).symm
  · rename_i h
    rw [rd_no fun a h1 h2 => h ?_]
    obtain ⟨e1, e2⟩ := sig_lines h1 h2
    have hl := (sig_facts h1).1
    have e : (linesOf t).1 = a.map (fun x => mkB (symB x)) := e1
    have e3 : symsOf (linesOf t).1 = a := by
      unfold symsOf
      rw [e, List.map_map]
      conv => rhs; rw [← List.map_id a]
      exact List.map_congr_left fun x hx => by
        show (readSym (mkB (symB x))).1 = x
        rw [read_sym ((sig_facts h1).2 x hx)]
    rw [e3, e]
    refine ⟨by unfold linesOf; rw [decide_eq_true_eq]; exact e2, by rw [List.length_map]; exact hl, List.all_eq_true.2 fun l hl => ?_, h1⟩
    obtain ⟨x, hx, rfl⟩ := List.mem_map.1 hl
    rw [read_sym ((sig_facts h1).2 x hx)]
theorem rd_zero {α : Type} {R : α → Bool} {T : α → List UInt8} {z : α} {s : List UInt8} (h : (rd R T z s).2 = false) : (rd R T z s).1 = z := by
  unfold rd at h ⊢
  split
  · rename_i he; rw [dif_pos he] at h; cases h
  · rfl
theorem sigOk_cost {s : Sig} (h : sigOk s = true) : costG s ≤ 1048576 := by
  obtain ⟨h1, h2⟩ := sig_facts h
  have : sumN costY s ≤ s.length * 4 := sumN_le fun x hx => by
    obtain ⟨q1, q2, _, _⟩ := sym_parts (h2 x hx)
    simp only [nameOk, Bool.and_eq_true, decide_eq_true_eq] at q1
    unfold costY; omega
  unfold costG; omega
end Pl

/-
  What is left to show of each function's code, printed by a program: Sgl. No condition.
-/
set_option maxRecDepth 100000
set_option linter.unusedVariables false
namespace Cg
open Go Go.Proofs
theorem vc_DrawSigOk (b : List Int) : (∃ x : List Int,
 (Sz x ∧ Byt x) ∧ ((Is (byts b) (byts x) ∧ True) ∧ True) ∧ ∀ (y : List Int),
 Rd (0 : Int) y (0 : Int) →
 ∃ x : RX,
 Rd (549755813888 : Int) x.1 x.2 ∧ (((0 : Nat) = (0 : Nat) ∧ True) ∧ (Is (byts y) (byts x.1) ∧ (0 : Int) = x.2 ∧ True) ∧ True) ∧ ∀ (y : Pl.Sig),
 Pl.SgB (5 : Nat) (2 : Nat) y →
 ∃ x_1 : List Int × Int × Pl.Sig × Nat × Nat,
 (Rd (274877906944 : Int) x_1.1 x_1.2.1 ∧ Pl.SgB x_1.2.2.2.1 x_1.2.2.2.2 x_1.2.2.1 ∧ (7 : Nat) ≤ x_1.2.2.2.1 ∧ x_1.2.2.2.1 ≤ (14 : Nat) ∧ x_1.2.2.2.2 ≤ (8 : Nat)) ∧ (((0 : Nat) = (0 : Nat) ∧ (Is (syms y) (syms x_1.2.2.1) ∧ True) ∧ True) ∧ (Is (byts x.1) (byts x_1.1) ∧ x.2 + (1 : Int) = x_1.2.1 ∧ True) ∧ True) ∧ ∀ (y : Pl.Sig × Int),
 Pl.SgB (x_1.2.2.2.1 + (1 : Nat)) (x_1.2.2.2.2 + (1 : Nat)) y.1 ∧ x_1.2.1 ≤ y.2 ∧ y.2 ≤ x_1.2.1 + (100 : Int) →
 ∃ y_1 : Pl.Sig, Pl.SgB (8 : Nat) (3 : Nat) y_1 ∧ ((Is (syms y.1) (syms y_1) ∧ True) ∧ True) ∧ True) = Goal Tryd.prog [K_l16Open, K_l4Sig, K_l4Bent] ([]) K_DrawSigOk.1 K_DrawSigOk.2 (b) := by kernel_rfl

end Cg

/-
  Plain laws of words: without one of them they are right still, with one twice they are not. No condition.
-/
set_option linter.unusedVariables false
set_option linter.unusedSimpArgs false
namespace Pl
open Go Cg
end Pl

/-
  The codes' contracts: the law that vocabularies can shrink. No condition.
-/
set_option linter.unusedVariables false
set_option linter.unusedSimpArgs false
set_option maxRecDepth 100000
namespace Cg
open Go Go.Proofs Pl
theorem k_DrawSigOk : SoundC Tryd.prog K_DrawSigOk.1 K_DrawSigOk.2 := sound_of hm (((CtxOK.nil.and k_l4Bent).and k_l4Sig).and k_l16Open) (fun _ => []) (by kernel_rfl) fun (b : List Int) hb => (by
  obtain ⟨h1, h2⟩ : Sz b ∧ Byt b := hb
  rw [← vc_DrawSigOk b]
  simp [-List.getD_eq_getElem?_getD, -List.mem_cons, -Bool.forall_bool, -Bool.exists_bool, and_assoc, peta, tl_inj, ex_1, ex_2, ex_3, ex_4, ex_5, ex_6, ex_7, ex_8, ex_9, ey_2, ey_3, ey_4, ey_5, ey_6, ey_7, ey_8, ey_9]
  exact ⟨by omega, h2, fun y hr => ⟨hr.to (by omega) (by omega), fun s hs =>
    ⟨y, 1, hr.to (by omega) (by omega), s, 7, 2, hs.mono (by decide) (by decide), by decide, by decide, by decide, rfl, rfl, rfl, fun s2 q2' hs2 e1 e2 => hs2⟩⟩⟩)
end Cg

/-
  The codes' contracts: texts that a builder gathers. No condition.
-/
set_option linter.unusedVariables false
set_option linter.unusedSimpArgs false
set_option maxRecDepth 100000
namespace Cg
open Go Go.Proofs Go.RowKit Pl
theorem isB_ext {T e : TypeId} {B b : Nat} {bs : List Value} {w w' : World} (h : Lib.IsBuilder T e B b bs w) (hx : Ext w w') : Lib.IsBuilder T e B b bs w' := by
  have go : ∀ p, Lib.BuilderAt T e B b p bs w → Lib.BuilderAt T e B b p bs w' := fun p ⟨hB, v, hb, hown, hne⟩ => by
    refine ⟨hB, v, ?_, ?_, hne⟩
    · rw [hx.block b (Array.getElem?_eq_some_iff.1 hb).1]; exact hb
    · refine ⟨hown.1, ?_⟩
      rcases hown.2 with hn | ⟨g, cap, cur, rfl, h1, h2, rest⟩
      · exact .inl hn
      · exact .inr ⟨g, cap, cur, rfl, h1, by rw [hx.block g (Array.getElem?_eq_some_iff.1 h2).1]; exact h2, rest⟩
  rcases h with h | h
  · exact .inl (go _ h)
  · exact .inr (go _ h)
theorem Below.gl {S : Nat → Prop} {w w' : World} {B : Nat} (h : Gl S w) (hin : ∀ b, S b → b < B) (hb : Below B w w') : Gl S w' := h.mono (fun _ h => h) fun b hs => hb.block b (hin b hs)
theorem Below.rel {S : Nat → Prop} {w w' : World} {B : Nat} {a : AV} {y : Value} (h : RelI S w a y) (hin : ∀ b, S b → b < B) (hb : Below B w w') : RelI S w' a y := RelI_mono (fun _ h => h) (fun b hs => hb.block b (hin b hs)) a y h
theorem PureAt.text {f : FuncId} {args : List AV} {b : ByteArray} (h : PureAt Tryd.prog f args (st b)) {S : Nat → Prop} {W : World} {vals : List Value} (hin : ∀ b, S b → b < W.heap.size) (hg : Gl S W) (hr : RelL S mu0 W args vals) :
    Calls Tryd.prog f vals.toArray W fun e W' => e = .returned (.string b) ∧ Ext W W' :=
  (h S W vals hin hg hr).mono fun e W' he => by
    obtain ⟨y, S', rfl, h1, _, _, _, h5⟩ := he
    exact ⟨by rw [show y = .string b from h5], h1⟩
theorem PureAt.bool {f : FuncId} {args : List AV} {b : Bool} (h : PureAt Tryd.prog f args (bl b)) {S : Nat → Prop} {W : World} {vals : List Value} (hin : ∀ b, S b → b < W.heap.size) (hg : Gl S W) (hr : RelL S mu0 W args vals) :
    Calls Tryd.prog f vals.toArray W fun e W' => e = .returned (.bool b) ∧ Ext W W' :=
  (h S W vals hin hg hr).mono fun e W' he => by
    obtain ⟨y, S', rfl, h1, _, _, _, h5⟩ := he
    exact ⟨by rw [show y = .bool b from h5], h1⟩
set_option maxHeartbeats 1000000 in
theorem Below.ext {w w' : World} (h : Below w.heap.size w w') : Ext w w' := ⟨h.os, h.tape, h.output, h.size, h.block⟩
theorem Ext.alloc (w : World) (o : Obj) : Ext w (w.alloc o) := Below.ext ((Below.refl _ w).alloc (Nat.le_refl _) o)
theorem Ext.bel {w w' : World} {B : Nat} (h : Ext w w') (hB : B ≤ w.heap.size) : Below B w w' := ⟨h.os, h.tape, h.output, h.size, fun b hb => h.block b (Nat.lt_of_lt_of_le hb hB)⟩
set_option maxHeartbeats 1000000 in
theorem w_SigText (s : Sig) (h : SmG s) (S : Nat → Prop) (w : World) (v : Value) (hin : ∀ b, S b → b < w.heap.size) (hgl : Gl S w) (hr : RelI S w (syms s) v) :
    Calls Tryd.prog 11 #[.agg #[v]] w fun e w' => e = .returned (.string (tx (sigOk s) (sigB s))) ∧ Ext w w' := by
  have hr0 := hr
  obtain ⟨a, cap, rfl, hcap, hc⟩ := hr
  have hxa : Ext w (w.alloc (.cells #[.slice a s.length cap] 24)) := Ext.alloc _ _
  have hok : Calls Tryd.prog 13 #[.agg #[.slice a s.length cap]] (w.alloc (.cells #[.slice a s.length cap] 24)) fun e W' => e = .returned (.bool (sigOk s)) ∧ Ext (w.alloc (.cells #[.slice a s.length cap] 24)) W' :=
    PureAt.bool (k_iSigOk.2 s h) (vals := [.agg #[.slice a s.length cap]]) (fun b hs => Nat.lt_of_lt_of_le (hin b hs) hxa.size) (Below.gl hgl hin (hxa.bel (Nat.le_refl _))) ⟨_, [], rfl, ⟨_, rfl, _, [], rfl, Below.rel hr0 hin (hxa.bel (Nat.le_refl _)), rfl⟩, rfl⟩
  go_enter Tryd.func11, Tryd.ntmps11
  go_wp2_with (go_at_call 13; refine hok.mono ?_)
  intro e W1 he hx1
  subst he
  cases hso : sigOk s with
  | false =>
    go_wp2
    go_ret
    exact ⟨by rw [tx_no hso]; rfl, hxa.trans hx1⟩
  | true =>
    have hx01 : Ext w W1 := hxa.trans hx1
    have hlt : w.heap.size < W1.heap.size := Nat.lt_of_lt_of_le (Array.getElem?_eq_some_iff.1 (heap_alloc_new w (.cells #[.slice a s.length cap] 24))).1 hx1.size
    have hbox : ∀ o, (W1.alloc o).cell? ⟨w.heap.size, 0, none⟩ = some (.slice a s.length cap) := fun o => by
      unfold World.cell?
      rw [heap_alloc_old W1 o hlt, hx1.block _ (Array.getElem?_eq_some_iff.1 (heap_alloc_new w (.cells #[.slice a s.length cap] 24))).1, heap_alloc_new]
      rfl
    have hB0 : w.heap.size ≤ W1.heap.size := hx01.size
    go_wp2
    go_loopw [12] (fun v12 wr => ∃ k : Nat, v12 = .int .i64 (k : Int) ∧ k ≤ s.length ∧ Lib.IsBuilder 50 5 W1.heap.size W1.heap.size (Lib.byteCells (sigB (s.take k))) wr ∧ Below W1.heap.size W1 wr) (fun v12 wr => match v12 with | .int _ k => s.length - k.toNat | _ => 0)
    case atStart =>
      refine ⟨0, rfl, Nat.zero_le _, Lib.fresh_isBuilder 50 5 W1, (Below.refl _ W1).alloc (Nat.le_refl _) _⟩
    case round =>
      obtain ⟨k, rfl, hk, hI, hbw⟩ := hrel
      by_cases hp : k < s.length
      · obtain ⟨b, off, rfl, hb, c, T, fr, hh, hel⟩ := hc.resolve_left (by omega)
        obtain ⟨x0, hx00, hr0'⟩ := hel k hp 0 (by omega)
        obtain ⟨x1, hx11, hr1'⟩ := hel k hp 1 (by omega)
        obtain ⟨x2, hx22, hr2'⟩ := hel k hp 2 (by omega)
        have hcw : ∀ j x, c[off + k * 3 + j]? = some x → wr.cell? ⟨b, off + k * 3 + j, none⟩ = some x := fun j x hx => by
          unfold World.cell?
          rw [hbw.block b (Nat.lt_of_lt_of_le (hin b hb) hB0), hx01.block b (hin b hb), hh]
          exact hx
        have hc0 := hcw 0 x0 hx00
        have hc1 := hcw 1 x1 hx11
        have hc2 := hcw 2 x2 hx22
        rw [Nat.add_zero] at hc0
        have hy : symOk (s.getD k dY) = true := (sig_facts hso).2 _ (getD_mem dY hp)
        have hlb := sigB_len hso k
        have hl7 := (sig_facts hso).1
        have e : sigB (s.take (k + 1)) = sigB (s.take k) ++ (symB (s.getD k dY) ++ [10]) := catB_step dY lineS hp
        have hsb := symB_len hy
        have hw64 : wrap64 ((k : Int) + 1) = (k : Int) + 1 := (by unfold wrap64; omega)
        obtain ⟨y, hyy⟩ : ∃ y, y = s.getD k dY := ⟨_, rfl⟩
        rw [← hyy] at hy e hsb hr0' hr1' hr2'
        have q0 : x0 = .string y.1 := hr0'.1
        have q2 : x2 = .int .i64 y.2.2 := hr2'.1
        have hr1'' : RelI S w (ints y.2.1) x1 := hr1'
        obtain ⟨a1, cap1, q1, -⟩ := hr1'
        subst q0; subst q1; subst q2
        have hbw0 : Below w.heap.size w wr := ⟨hbw.os.trans hx01.os, hbw.tape.trans hx01.tape, hbw.output.trans hx01.output, Nat.le_trans hx01.size hbw.size, fun b hb => (hbw.block b (Nat.lt_of_lt_of_le hb hB0)).trans (hx01.block b hb)⟩
        obtain ⟨WA, hWA⟩ : ∃ WA, WA = wr.alloc (.cells #[.string y.1, .slice a1 y.2.1.length cap1, .int .i64 y.2.2] 40) := ⟨_, rfl⟩
        have hxA : Ext wr WA := by rw [hWA]; exact Ext.alloc _ _
        have hbA : Below w.heap.size w WA := hbw0.trans (hxA.bel hbw0.size)
        have hcall : Calls Tryd.prog 26 #[.agg #[.string y.1, .slice a1 y.2.1.length cap1, .int .i64 y.2.2]] WA fun e W' => e = .returned (.string (mkB (symB y))) ∧ Ext WA W' :=
          PureAt.text (k_symtext.2 y hy) (vals := [.agg #[.string y.1, .slice a1 y.2.1.length cap1, .int .i64 y.2.2]]) (fun b hs => Nat.lt_of_lt_of_le (hin b hs) hbA.size) (Below.gl hgl hin hbA)
            ⟨_, [], rfl, ⟨_, rfl, _, _, rfl, rfl, _, _, rfl, Below.rel hr1'' hin hbA, _, [], rfl, rfl, rfl⟩, rfl⟩
        rw [hWA] at hcall hxA
        obtain ⟨tx, htx⟩ : ∃ tx, tx = mkB (symB y) := ⟨_, rfl⟩
        rw [← htx] at hcall
        have hsz1 : tx.size ≤ 67 := by rw [htx]; exact hsb
        have hsz2 : ¬ tx.size + ByteArray.size ⟨#[10]⟩ > 9223372036854775807 := by
          show ¬ tx.size + 1 > _
          omega
        have hsz3 : (Lib.byteCells (sigB (s.take k))).length + (tx ++ ⟨#[10]⟩).size ≤ 140737488355328 := by
          rw [Lib.byteCells_length, ByteArray.size_append]
          show _ + (tx.size + 1) ≤ _
          omega
        have e2 : sigB (s.take (k + 1)) = sigB (s.take k) ++ (tx ++ ⟨#[10]⟩ : ByteArray).data.toList := by rw [e, htx, lit1, bapp]; rfl
        clear hel hr0' hr2' hcw hx00 hx11 hx22 hyy e htx hsb hr1'' hbA hWA hc hr0 hok hy
        go_wp2_with (go_at_call 26; refine hcall.mono ?_)
        rintro e W2 ⟨rfl, hx2⟩
        have hx2' : Ext wr W2 := hxA.trans hx2
        have hb2 : Below W1.heap.size W1 W2 := hbw.trans (hx2'.bel hbw.size)
        go_wp2_with (go_at_call 25; refine (Tryd.Builder_WriteString W1.heap.size W1.heap.size _ _ W2 (isB_ext hI hx2') hsz3 hb2.size).mono ?_)
        rintro e W3 ⟨rfl, hB3, hb3⟩
        go_wp2
        go_roundw
        case rel =>
          refine ⟨k + 1, rfl, hp, ?_, hb2.trans hb3⟩
          rw [Lib.strCells_eq, ← Lib.byteCells_append, ← e2] at hB3
          exact .inr hB3
        case measure =>
          show s.length - ((k : Int) + 1).toNat < s.length - (k : Int).toNat
          omega
      · have hkl : k = s.length := by omega
        subst hkl
        rw [List.take_length] at hI
        go_wp2_with (go_at_call 27; refine (Tryd.Builder_String_any W1.heap.size W1.heap.size (sigB s) wr hI hbw.size).mono ?_)
        rintro e W2 ⟨rfl, hb2⟩
        go_wp2
        go_ret
        exact ⟨by rw [tx_yes hso]; rfl, hx01.trans (Below.ext (hbw.trans hb2))⟩
theorem k_iSigText : SoundC Tryd.prog K_iSigText.1 K_iSigText.2 := ⟨callable_of (by kernel_rfl), fun x hx S w vals hin hgl hrel => by
  obtain ⟨y0, r0, rfl, ha, hc⟩ := hrel
  cases hc
  obtain ⟨vs, rfl, y1, r1, rfl, ha, hc⟩ := ha
  cases hc
  exact (w_SigText x hx S w y1 hin hgl ha).mono fun e w' ⟨he, hw⟩ => ⟨_, S, he, hw, fun _ h => h, fun _ h => .inl h, fun b hb => Nat.lt_of_lt_of_le (hin b hb) hw.size, rfl⟩⟩
end Cg

/-
  The codes' contracts: the law that vocabularies are read back as written. No condition.
-/
set_option linter.unusedVariables false
set_option linter.unusedSimpArgs false
set_option maxRecDepth 100000
namespace Cg
open Go Go.Proofs Pl
set_option maxHeartbeats 8000000 in
theorem g_SigSame1 (x : Pl.Sym × Pl.Sym) (h1 : Sz x.1.2.1) : GoalW Tryd.prog [K_slEqual] ([]) K_SigSame1.1 K_SigSame1.2 (x) := GoalW.of (vc_SigSame1 x) (by
  simp (maxSteps := 2000000) [-List.getD_eq_getElem?_getD, -List.mem_cons, -Bool.forall_bool, -Bool.exists_bool, and_assoc, peta, tl_inj, ex_1, ex_2, ex_3, ex_4, ex_5, ex_6, ex_7, ex_8, ex_9, ey_2, ey_3, ey_4, ey_5, ey_6, ey_7, ey_8, ey_9]
  obtain ⟨⟨a, b, c⟩, a', b', c'⟩ := x
  dsimp only at *
  refine ⟨fun e1 => ⟨h1, fun e2 => ?_, fun h e => h (by cases e; rfl)⟩, fun h e => h (by cases e; rfl)⟩
  subst e1; subst e2
  rw [Bool.eq_iff_iff, beq_iff_eq, decide_eq_true_eq]
  exact ⟨fun e => by rw [e], fun e => by cases e; rfl⟩)
theorem k_SigSame1 : SoundC Tryd.prog K_SigSame1.1 K_SigSame1.2 := sound_ofW hm (CtxOK.nil.and k_slEqual) (fun (x : Pl.Sym × Pl.Sym) => []) (by kernel_rfl) fun (x : Pl.Sym × Pl.Sym) hb => g_SigSame1 x hb
set_option maxHeartbeats 8000000 in
theorem g_EqualSyms (x : Pl.Sig × Pl.Sig) (h1 : SmG x.1) : GoalW Tryd.prog [K_SigSame1] (A_EqualSyms x.1 x.2) K_EqualSyms.1 K_EqualSyms.2 (x) := GoalW.of (vc_EqualSyms x) (by
  simp (maxSteps := 2000000) [-List.getD_eq_getElem?_getD, -List.mem_cons, -Bool.forall_bool, -Bool.exists_bool, and_assoc, peta, tl_inj, ex_1, ex_2, ex_3, ex_4, ex_5, ex_6, ex_7, ex_8, ex_9, ey_2, ey_3, ey_4, ey_5, ey_6, ey_7, ey_8, ey_9]
  have hlen := SmG.len h1
  obtain ⟨l, m⟩ := x
  dsimp only at *
  refine ⟨fun h e => h (by rw [e]), fun h => ⟨⟨0, by simp; omega⟩, fun k hk hlm he => ⟨fun hlt => ⟨hlt, by omega, by have := (SmG.mem h1 (getD_mem dY hlt)).2; omega, (eq_step dY hlt hlm he).1, fun h => ⟨k + 1, hlt, hlm, (eq_step dY hlt hlm he).2 h, by omega, wrap_small (by omega) (by omega)⟩⟩, fun hge => ?_⟩⟩⟩
  rw [drop_end (by omega), drop_end (l := m) (by omega)] at he
  exact he.2 rfl)
theorem k_EqualSyms : SoundC Tryd.prog K_EqualSyms.1 K_EqualSyms.2 := sound_ofW hm (CtxOK.nil.and k_SigSame1) (fun (x : Pl.Sig × Pl.Sig) => A_EqualSyms x.1 x.2) (by kernel_rfl) fun (x : Pl.Sig × Pl.Sig) hb => g_EqualSyms x hb
set_option maxHeartbeats 8000000 in
theorem g_iSigSame (x : Pl.Sig × Pl.Sig) (h1 : SmG x.1) : GoalW Tryd.prog [K_EqualSyms] ([]) K_iSigSame.1 K_iSigSame.2 (x) := GoalW.of (vc_iSigSame x) (by
  simp (maxSteps := 2000000) [-List.getD_eq_getElem?_getD, -List.mem_cons, -Bool.forall_bool, -Bool.exists_bool, and_assoc, peta, tl_inj, ex_1, ex_2, ex_3, ex_4, ex_5, ex_6, ex_7, ex_8, ex_9, ey_2, ey_3, ey_4, ey_5, ey_6, ey_7, ey_8, ey_9]
  exact h1)
theorem k_iSigSame : SoundC Tryd.prog K_iSigSame.1 K_iSigSame.2 := sound_ofW hm (CtxOK.nil.and k_EqualSyms) (fun (x : Pl.Sig × Pl.Sig) => []) (by kernel_rfl) fun (x : Pl.Sig × Pl.Sig) hb => g_iSigSame x hb
theorem rowS (a : ByteArray) : ∀ j, j < 1 → Is ([st a].getD j .any) (eS a j) := fun j hj => by
  obtain rfl : j = 0 := by omega
  exact Is_st.2 rfl
set_option maxHeartbeats 8000000 in
theorem g_l2Torn (b : List Int) (p : Int) (s : ByteArray) (h1 : Rd 137438953472 b p) (h2 : s.size ≤ 1000000) : GoalW Tryd.prog [K_pick, K_of] ([]) K_l2Torn.1 K_l2Torn.2 ((b, p, s)) := GoalW.of (vc_l2Torn b p s) (by
  simp (maxSteps := 2000000) [-List.getD_eq_getElem?_getD, -List.mem_cons, -Bool.forall_bool, -Bool.exists_bool, and_assoc, peta, tl_inj, ex_1, ex_2, ex_3, ex_4, ex_5, ex_6, ex_7, ex_8, ex_9, ey_2, ey_3, ey_4, ey_5, ey_6, ey_7, ey_8, ey_9]
  intro hne
  have hL : Is (AV.lit 8 1 (rowsCell [[st { data := #[] }], [st { data := #[32] }], [st { data := #[48] }], [st { data := #[45] }], [st { data := #[49] }], [st { data := #[60] }], [st { data := #[61] }], [st { data := #[40] }]]))
      (strs [⟨#[]⟩, ⟨#[32]⟩, ⟨#[48]⟩, ⟨#[45]⟩, ⟨#[49]⟩, ⟨#[60]⟩, ⟨#[61]⟩, ⟨#[40]⟩]) :=
    ((((((((LitR.nil.cons (rowS _)).cons (rowS _)).cons (rowS _)).cons (rowS _)).cons (rowS _)).cons (rowS _)).cons (rowS _)).cons (rowS _)).is
  have hT : ∀ t ∈ [(⟨#[]⟩ : ByteArray), ⟨#[32]⟩, ⟨#[48]⟩, ⟨#[45]⟩, ⟨#[49]⟩, ⟨#[60]⟩, ⟨#[61]⟩, ⟨#[40]⟩], t.size ≤ 1 := by decide
  have hsz : 0 < s.size := Nat.pos_of_ne_zero fun e => hne (ByteArray.ext (Array.eq_empty_of_size_eq_zero e))
  have g3 := h1.2.2.1
  have g4 := h1.2.2.2
  refine ⟨h1.to (by omega) (by omega), fun y y1 y2 y3 => ⟨h1.to (by omega) (by omega), fun k hk _ => ?_⟩⟩
  obtain ⟨k1, k2⟩ := hk (by omega)
  refine ⟨k1, by omega, b, p + 1 + 1, h1.to (by omega) (by omega), _, by simp, by simp, hL, rfl, rfl, fun t ht => ?_⟩
  have := hT t ht
  refine ⟨by omega, h1.to (by omega) (by omega), fun z z1 z2 => ?_⟩
  have hw : IntKind.i64.wrap (k + z) = k + z := wrap_small (by omega) (by omega)
  rw [hw]
  exact ⟨by omega, by omega, by omega, by omega, rfl⟩)
theorem k_l2Torn : SoundC Tryd.prog K_l2Torn.1 K_l2Torn.2 := sound_ofW hm ((CtxOK.nil.and k_of).and k_pick) (fun ((b, p, s) : TnX) => []) (by kernel_rfl) fun ((b, p, s) : TnX) hb => g_l2Torn b p s hb.1 hb.2
set_option maxHeartbeats 8000000 in
theorem g_DrawSigText (b : List Int) (h1 : Sz b) (h2 : Byt b) : GoalW Tryd.prog [K_DrawSigOk] ([]) K_DrawSigText.1 K_DrawSigText.2 (b) := GoalW.of (vc_DrawSigText b) (by
  simp (maxSteps := 2000000) [-List.getD_eq_getElem?_getD, -List.mem_cons, -Bool.forall_bool, -Bool.exists_bool, and_assoc, peta, tl_inj, ex_1, ex_2, ex_3, ex_4, ex_5, ex_6, ex_7, ex_8, ex_9, ey_2, ey_3, ey_4, ey_5, ey_6, ey_7, ey_8, ey_9]
  exact ⟨h1, h2⟩)
theorem k_DrawSigText : SoundC Tryd.prog K_DrawSigText.1 K_DrawSigText.2 := sound_ofW hm (CtxOK.nil.and k_DrawSigOk) (fun (b : List Int) => []) (by kernel_rfl) fun (b : List Int) hb => g_DrawSigText b hb.1 hb.2
set_option maxHeartbeats 8000000 in
theorem g_DrawSigRead (b : List Int) (h1 : Sz b) (h2 : Byt b) : GoalW Tryd.prog [K_l16Open, K_l4Sig, K_sSigText, K_l2Torn] ([]) K_DrawSigRead.1 K_DrawSigRead.2 (b) := GoalW.of (vc_DrawSigRead b) (by
  simp (maxSteps := 2000000) [-List.getD_eq_getElem?_getD, -List.mem_cons, -Bool.forall_bool, -Bool.exists_bool, and_assoc, peta, tl_inj, ex_1, ex_2, ex_3, ex_4, ex_5, ex_6, ex_7, ex_8, ex_9, ey_2, ey_3, ey_4, ey_5, ey_6, ey_7, ey_8, ey_9]
  refine ⟨h1, h2, fun y hy => ⟨hy.to (by omega) (by omega), fun g hg => ⟨sg_sm hg, hy.to (by omega) (by omega), ?_⟩⟩⟩
  have hsz : (tx (sigOk g) (sigB g)).size ≤ 476 := by
    unfold tx
    split
    · rename_i h
      have := sigB_len h g.length
      rwa [List.take_length] at this
    · exact Nat.zero_le _
  exact ⟨by omega, fun a ha => by omega⟩)
theorem k_DrawSigRead : SoundC Tryd.prog K_DrawSigRead.1 K_DrawSigRead.2 := sound_ofW hm ((((CtxOK.nil.and k_l2Torn).and k_sSigText).and k_l4Sig).and k_l16Open) (fun (b : List Int) => []) (by kernel_rfl) fun (b : List Int) hb => g_DrawSigRead b hb.1 hb.2
set_option maxHeartbeats 8000000 in
theorem g_ySigText (b c : List Int) (h1 : Byt b) (h2 : Byt c) : GoalW Tryd.prog [K_DrawSigText, K_iSigText, K_iSigRead, K_sSigText, K_iSigOk, K_sSigOk, K_iSigSame, K_DrawSigRead, K_sSigRead] ([]) K_ySigText.1 K_ySigText.2 ((b, c)) := GoalW.of (vc_ySigText b c) (by
  simp (maxSteps := 2000000) [-List.getD_eq_getElem?_getD, -List.mem_cons, -Bool.forall_bool, -Bool.exists_bool, and_assoc, peta, tl_inj, ex_1, ex_2, ex_3, ex_4, ex_5, ex_6, ex_7, ex_8, ex_9, ey_2, ey_3, ey_4, ey_5, ey_6, ey_7, ey_8, ey_9]
  intro l1 l2
  have hcost : ∀ t, costG (sigReadI t).1 ≤ 1048576 := fun t => by
    rw [sigReadI_eq]
    cases h : (rd sigOk sigB [] (bl' t)).2 with
    | false => rw [rd_zero h]; decide
    | true => exact sigOk_cost (rd_ok h).1
  have hsame : ∀ t, sigReadI t = sigReadS t := fun t => (sigReadI_eq t).trans (sigReadS_eq t).symm
  have tail : ∀ y : ByteArray, (sigReadI y).snd = true → tx (sigOk (sigReadI y).fst) (sigB (sigReadI y).fst) = y ∧ sigOk (sigReadI y).fst = true := fun y h => by
    rw [sigReadI_eq] at h ⊢
    obtain ⟨q1, q2⟩ := rd_ok h
    exact ⟨by rw [q1, tx_yes rfl, q2]; rfl, q1⟩
  have fin : c.length ≤ 4294967296 ∧ Byt c ∧ ∀ (y : ByteArray), y.size ≤ 1000 → y.size ≤ 1048576 ∧ ((sigReadI y).snd = (sigReadS y).snd → costG (sigReadI y).fst ≤ 1048576 ∧
      ((sigReadI y).fst = (sigReadS y).fst → (sigReadI y).snd = true → costG (sigReadI y).fst ≤ 1048576 ∧ (tx (sigOk (sigReadI y).fst) (sigB (sigReadI y).fst) = y → costG (sigReadI y).fst ≤ 1048576 ∧ sigOk (sigReadI y).fst = true) ∧
        tx (sigOk (sigReadI y).fst) (sigB (sigReadI y).fst) = y) ∧ (sigReadI y).fst = (sigReadS y).fst) ∧ (sigReadI y).snd = (sigReadS y).snd :=
    ⟨by omega, h2, fun y hy => ⟨by omega, fun _ => ⟨hcost y, fun _ h => ⟨hcost y, fun _ => ⟨hcost y, (tail y h).2⟩, (tail y h).1⟩, by rw [hsame y]⟩, by rw [hsame y]⟩⟩
  refine ⟨by omega, h1, fun g hg => ⟨sg_sm hg, ?_, sg_sm hg, fun hok => ?_, fun _ => fin⟩⟩
  · unfold tx
    split
    · rename_i h
      have := sigB_len h g.length
      rw [List.take_length] at this
      exact Nat.le_trans this (by decide)
    · exact Nat.zero_le _
  · have e : sigReadI (tx (sigOk g) (sigB g)) = (g, true) := by
      rw [sigReadI_eq, hok, tx_yes rfl]
      exact rd_yes sigB_inj hok rfl
    rw [e]
    exact ⟨rfl, fun _ => ⟨sg_sm hg, rfl, fun _ => fin⟩⟩)
theorem k_ySigText : SoundC Tryd.prog K_ySigText.1 K_ySigText.2 := sound_ofW hm (((((((((CtxOK.nil.and k_sSigRead).and k_DrawSigRead).and k_iSigSame).and k_sSigOk).and k_iSigOk).and k_sSigText).and k_iSigRead).and k_iSigText).and k_DrawSigText) (fun ((b, c) : BbX) => []) (by kernel_rfl) fun ((b, c) : BbX) hb => g_ySigText b c hb.1 hb.2
end Cg

/-
  The listed tables and errors, and the shape of the world: what the row's condition gives the machine. No condition.
-/
set_option linter.unusedVariables false
namespace Go.Proofs.YtibghpfojnhfaaaDoor
open Go
def laidL : List (String × DataW Unit) := [("math/bits.deBruijn32tab", Rows.laid_math_bits_deBruijn32tab), ("math/bits.deBruijn64tab", Rows.laid_math_bits_deBruijn64tab), ("internal/strconv.uint64pow10", Rows.laid_internal_strconv_uint64pow10), ("unicode/utf8.acceptRanges", Rows.laid_unicode_utf8_acceptRanges), ("strconv.ErrRange", Rows.laid_strconv_ErrRange), ("strconv.ErrSyntax", Rows.laid_strconv_ErrSyntax), ("unicode/utf8.first", Rows.laid_unicode_utf8_first)]
theorem door_met (os : Os) (args : Array Value) : laidMetH Tryd.prog laidL ((World.laidAll Tryd.prog os laidL).forCall (fun _ _ => 0) ⟨#[], args, []⟩).memory := by
  rw [MakeChecks.laidMetH_plain _ _ _ (by kernel_rfl)]
  exact laidMet_laidAll _ (by kernel_rfl) (by kernel_rfl)
theorem plain_laid {W : World} (h : laidMetH Tryd.prog laidL W) : laidMet Tryd.prog laidL W := by
  rw [MakeChecks.laidMetH_plain _ _ _ (by kernel_rfl)] at h
  exact h
theorem tab_laid {W : World} (h : laidMetH Tryd.prog laidL W) : Go.Lib.TabIs Tryd.prog W "internal/strconv.uint64pow10" .u64 Go.Lib.pow10Tab := by
  have h2 := laidMet.filter (fun x => x.1 == "internal/strconv.uint64pow10") (plain_laid h)
  have h3 : laidMet Tryd.prog (("internal/strconv.uint64pow10", Go.Lib.tabData .u64 Go.Lib.pow10Tab) :: []) W := by
    have e : (laidL.filter fun x => x.1 == "internal/strconv.uint64pow10") = ("internal/strconv.uint64pow10", Go.Lib.tabData .u64 Go.Lib.pow10Tab) :: [] := by rfl
    rw [e] at h2
    exact h2
  exact Go.Lib.tabIs_of_head (show Tryd.prog.globalNamed "internal/strconv.uint64pow10" = some 3 by kernel_rfl) (t := 117) (by kernel_rfl) Tryd.underlying117 Tryd.underlying99 (by kernel_rfl) (by kernel_rfl) h3
theorem star : "*" ++ "errors.errorString" = "*errors.errorString" := by decide
theorem rowES (u : TypeId) (h : Tryd.prog.typeName? 3 u = some "*errors.errorString") : u = 113 :=
  typeName_ptr_named (nm := "errors.errorString") (by rw [star]; kernel_rfl) (by kernel_rfl) (by decide) u (by rw [star]; exact h)
theorem err_var {W : World} (n : String) (g : Nat) (text : List UInt8) (h : laidMet Tryd.prog ((n, .iface "*errors.errorString" (.ptr (.agg [.lit (.string text)]))) :: []) W) (hg : Tryd.prog.globalNamed n = some g) (ht : (Tryd.prog.globals[g]?).map (·.type) = some 52) :
    ∃ c T fr, W.heap[g]? = some (.cells c T fr) ∧ ∃ ev, c[0]? = some ev ∧ (ev = .nilIface ∨ ∃ te pe, ev = .iface te pe) := by
  obtain ⟨a, s, h1, -, -, -⟩ := laid_sentinel h hg ht Tryd.underlying52 rowES Tryd.underlying113 Tryd.underlying115 rfl rfl Tryd.underlying9 (by kernel_rfl) (by kernel_rfl)
  unfold World.var? at h1
  rw [hg, Option.bind_some] at h1
  split at h1
  · rename_i c T fr hc
    have e := Option.some.inj h1
    subst e
    exact ⟨_, T, fr, hc, _, rfl, .inr ⟨_, _, rfl⟩⟩
  · cases h1
theorem gl_laid {W : World} (h : laidMetH Tryd.prog laidL W) (hsh : W.ShapedOpen Tryd.prog) : Cg.Gl (fun b => b < W.heap.size) W := fun g hg => by
  have lt : ∀ {g : Nat} {c : Array Value} {T : TypeId} {fr : Nat × Nat}, W.heap[g]? = some (.cells c T fr) → g < W.heap.size := fun h => (Array.getElem?_eq_some_iff.1 h).1
  unfold Cg.globs at hg
  rcases List.mem_cons.1 hg with rfl | hg
  · have ht := tab_laid h
    unfold Go.Lib.TabIs World.var? at ht
    rw [show Tryd.prog.globalNamed "internal/strconv.uint64pow10" = some 3 by kernel_rfl, Option.bind_some] at ht
    dsimp only
    split at ht
    · rename_i c T fr hc
      refine ⟨lt hc, c, T, fr, hc, ?_⟩
      rw [Option.some.inj ht]
      unfold Go.Lib.pow10Tab
      rw [List.map_map]
      rfl
    · cases ht
  rcases List.mem_cons.1 hg with rfl | hg
  · obtain ⟨m, hm⟩ := cell_of_shapedOpen_int (g := 2) (t := 3) (zero := #[.int .i64 0]) hsh (of_decide_eq_true (by kernel_rfl)) (by kernel_rfl) rfl (by kernel_rfl) (by kernel_rfl) Tryd.underlying3
    dsimp only
    unfold World.cell? at hm
    split at hm
    · rename_i c T fr hc
      refine ⟨lt hc, c, T, fr, hc, m, ?_⟩
      simpa using hm
    · cases hm
  rcases List.mem_cons.1 hg with rfl | hg
  · have h2 := laidMet.filter (fun x => x.1 == "strconv.ErrSyntax") (plain_laid h)
    have e : (laidL.filter fun x => x.1 == "strconv.ErrSyntax") = ("strconv.ErrSyntax", Rows.laid_strconv_ErrSyntax) :: [] := by rfl
    rw [e] at h2
    obtain ⟨c, T, fr, hc, h4⟩ := err_var "strconv.ErrSyntax" 0 _ h2 (by kernel_rfl) (by kernel_rfl)
    exact ⟨lt hc, c, T, fr, hc, h4⟩
  rcases List.mem_cons.1 hg with rfl | hg
  · have h2 := laidMet.filter (fun x => x.1 == "strconv.ErrRange") (plain_laid h)
    have e : (laidL.filter fun x => x.1 == "strconv.ErrRange") = ("strconv.ErrRange", Rows.laid_strconv_ErrRange) :: [] := by rfl
    rw [e] at h2
    obtain ⟨c, T, fr, hc, h4⟩ := err_var "strconv.ErrRange" 1 _ h2 (by kernel_rfl) (by kernel_rfl)
    exact ⟨lt hc, c, T, fr, hc, h4⟩
  · cases hg
/-- The wrap with a condition on the world, that hands on the world's shape. -/
theorem handed_and_shaped {H : Type} {enc : TypeId × Value → H} {a : Assume} {C : Checked} {os : Os} {f : FuncId} {fn : Func} {s : ChangeSpec} {conds : List PathCond} {apart fresh handsOn again : Bool} {X : World → Array Value → Prop}
    (hX : ∀ (w w' : World) (args : Array Value), w.heap = w'.heap → X w args → X w' args)
    (own : ownKnob C.prog.godebug = none) (started : os.Started) (noInit : C.prog.inits.idxOf? f = none) (hfn : C.prog.funcs[f]? = some fn)
    (witness : ∃ (w : World) (tape : Tape) (i : Input), w.os = os ∧ (w.forCall tape i).Shaped C.prog ∧ i.vars = [] ∧ Input.okWide C.prog (w.forCall tape i) .any w.heap.size f i ∧
      ((s.pre enc C.prog fn conds apart (w.forCall tape i).memory i.args ∧ X (w.forCall tape i).memory i.args) ∧ sizedMet enc C.prog fn (OpenSpec.ofChange s) apart (w.forCall tape i).memory i.args) ∧ a.holds C.prog (lone (Frame.enter C.prog f i.args .normal) [] (w.forCall tape i)))
    (contract : ∀ (W : World) (base : Nat) (args : Array Value) (ds gs : List (DataW H)) (before : List MemPlace),
      (∀ (j : Nat) t v, fn.params[j]? = some t → args[j]? = some v → Value.okWide C.prog W .any base t v) →
      DataW.Whole enc C.prog fn.params.toList s.vars apart W args.toList ds gs before →
      conds.all (PathCond.test C.prog ⟨fn.params.toList, ds, s.plain.varTypes C.prog, gs⟩) = true → X W args → W.ShapedOpen C.prog →
      Calls C.prog f args W fun e W' => ∃ v, e = .returned v ∧ s.post enc C.prog fn apart fresh handsOn again W args v W') :
    ReturnsInHanded a C os f .any (fun w args => (s.pre enc C.prog fn conds apart w args ∧ X w args) ∧ sizedMet enc C.prog fn (OpenSpec.ofChange s) apart w args) (s.post enc C.prog fn apart fresh handsOn again) := by
  refine returnsInHanded_of_calls own started noInit witness ?_
  intro w tape i _ hsh _ hok hpre hholds
  obtain ⟨_, _, _, fn', hfn', _, _, _, _, hval⟩ := hok
  have e : fn' = fn := Option.some.inj (hfn'.symm.trans hfn)
  subst e
  obtain ⟨⟨⟨ds, gs, before, hw, hc⟩, hx⟩, hz⟩ := hpre
  have hw' := DataW.Whole.of_heap (w' := w.forCall tape i) (by rfl) hw
  refine (contract (w.forCall tape i) w.heap.size i.args ds gs before hval hw' hc (hX _ _ _ (by rfl) hx) hsh).mono fun e W' ⟨v, he, hp⟩ => ?_
  subst he
  exact ChangeSpec.post_blind hp
end Go.Proofs.YtibghpfojnhfaaaDoor
