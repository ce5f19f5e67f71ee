/- The library's strings.Trim at an ASCII cutset, laid at this seat's translation. -/
import Derived.Ground.NamesProg
import Derived.Shelf.Strings.SlTrimAscii
import Derived.Test.YtdjdillppgijmaaDoorProg
namespace Go.Proofs
open Go.Shelf
def Tryd.lays160_ren : Go.Shelf.Ren := ⟨fun | 160 => 198 | 232 => 220 | 231 => 219 | 227 => 221 | 234 => 223 | 233 => 222 | 236 => 225 | 235 => 224 | 228 => 232 | 271 => 235 | 151 => 234 | 197 => 233 | 120 => 245 | 152 => 244 | 260 => 243 | 137 => 252 | 119 => 253 | 224 => 254 | 225 => 255 | 217 => 258 | 266 => 259 | n => n, fun | 9 => 9 | 4 => 4 | 3 => 3 | 5 => 5 | 117 => 224 | 116 => 223 | 0 => 0 | 124 => 227 | 21 => 21 | 105 => 232 | 46 => 187 | 119 => 251 | 139 => 254 | 138 => 253 | n => n, fun | 3 => 2 | 4 => 3 | n => n⟩
theorem Tryd.lays160 : Go.Proofs.Lays.n160 Tryd.prog Tryd.lays160_ren := {
  mixed := by kernel_rfl
  f119 := Tryd.func253.trans (congrArg some (by kernel_rfl))
  f120 := Tryd.func245.trans (congrArg some (by kernel_rfl))
  f137 := Tryd.func252.trans (congrArg some (by kernel_rfl))
  f151 := Tryd.func234.trans (congrArg some (by kernel_rfl))
  f152 := Tryd.func244.trans (congrArg some (by kernel_rfl))
  f160 := Tryd.func198.trans (congrArg some (by kernel_rfl))
  f197 := Tryd.func233.trans (congrArg some (by kernel_rfl))
  f217 := Tryd.func258.trans (congrArg some (by kernel_rfl))
  f224 := Tryd.func254.trans (congrArg some (by kernel_rfl))
  f225 := Tryd.func255.trans (congrArg some (by kernel_rfl))
  f227 := Tryd.func221.trans (congrArg some (by kernel_rfl))
  f228 := Tryd.func232.trans (congrArg some (by kernel_rfl))
  f231 := Tryd.func219.trans (congrArg some (by kernel_rfl))
  f232 := Tryd.func220.trans (congrArg some (by kernel_rfl))
  f233 := Tryd.func222.trans (congrArg some (by kernel_rfl))
  f234 := Tryd.func223.trans (congrArg some (by kernel_rfl))
  f235 := Tryd.func224.trans (congrArg some (by kernel_rfl))
  f236 := Tryd.func225.trans (congrArg some (by kernel_rfl))
  f260 := Tryd.func243.trans (congrArg some (by kernel_rfl))
  f266 := Tryd.func259.trans (congrArg some (by kernel_rfl))
  f271 := Tryd.func235.trans (congrArg some (by kernel_rfl))
  t0 := Tryd.underlying0
  a0 := Tryd.isAgg0
  z0 := Tryd.sizeOf0
  v0 := Tryd.zeroValue0
  t3 := Tryd.underlying3
  a3 := Tryd.isAgg3
  z3 := Tryd.sizeOf3
  v3 := Tryd.zeroValue3
  t4 := Tryd.underlying4
  a4 := Tryd.isAgg4
  z4 := Tryd.sizeOf4
  v4 := Tryd.zeroValue4
  t5 := Tryd.underlying5
  a5 := Tryd.isAgg5
  z5 := Tryd.sizeOf5
  v5 := Tryd.zeroValue5
  t9 := Tryd.underlying9
  a9 := Tryd.isAgg9
  z9 := Tryd.sizeOf9
  v9 := Tryd.zeroValue9
  t21 := Tryd.underlying21
  a21 := Tryd.isAgg21
  z21 := Tryd.sizeOf21
  v21 := Tryd.zeroValue21
  t46 := Tryd.underlying187
  a46 := Tryd.isAgg187
  z46 := Tryd.sizeOf187
  v46 := Tryd.zeroValue187
  t105 := Tryd.underlying232
  a105 := Tryd.isAgg232
  z105 := Tryd.sizeOf232
  v105 := Tryd.zeroValue232
  t116 := Tryd.underlying223
  a116 := Tryd.isAgg223
  z116 := Tryd.sizeOf223
  t117 := Tryd.underlying224
  a117 := Tryd.isAgg224
  z117 := Tryd.sizeOf224
  v117 := Tryd.zeroValue224
  t119 := Tryd.underlying251
  a119 := Tryd.isAgg251
  z119 := Tryd.sizeOf251
  t124 := Tryd.underlying227
  a124 := Tryd.isAgg227
  z124 := Tryd.sizeOf227
  v124 := Tryd.zeroValue227
  t138 := Tryd.underlying253
  a138 := Tryd.isAgg253
  z138 := Tryd.sizeOf253
  v138 := Tryd.zeroValue253
  t139 := Tryd.underlying254
  a139 := Tryd.isAgg254
  z139 := Tryd.sizeOf254
  v139 := Tryd.zeroValue254
  g3 := by kernel_rfl
  g4 := by kernel_rfl }
end Go.Proofs
