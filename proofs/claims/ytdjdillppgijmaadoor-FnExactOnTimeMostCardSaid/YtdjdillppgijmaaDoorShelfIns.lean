/- The library's insertion sort by a comparison at int64, laid at this seat's translation. -/
import Derived.Shelf.SlLaysF
import Derived.Test.YtdjdillppgijmaaDoorProg
namespace Go.Proofs
open Go.Shelf
def Tryd.insCmp_ren : Go.Shelf.Ren := ⟨fun | 20 => 230 | n => n, fun | 24 => 2 | 22 => 27 | 3 => 3 | 25 => 188 | 4 => 4 | 0 => 0 | n => n, fun | n => n⟩
theorem Tryd.insCmp : Go.Proofs.SlLaysF.n20 Tryd.prog Tryd.insCmp_ren := {
  mixed := by kernel_rfl
  f20 := ⟨Tryd.f230.name, by decide, Tryd.func230.trans (congrArg some (by kernel_rfl))⟩
  t0 := Tryd.underlying0
  a0 := Tryd.isAgg0
  z0 := Tryd.sizeOf0
  v0 := Tryd.zeroValue0
  t3 := Tryd.underlying3
  a3 := Tryd.isAgg3
  z3 := Tryd.sizeOf3
  v3 := Tryd.zeroValue3
  t4 := Tryd.underlying4
  a4 := Tryd.isAgg4
  z4 := Tryd.sizeOf4
  v4 := Tryd.zeroValue4
  t22 := Tryd.underlying27
  a22 := Tryd.isAgg27
  z22 := Tryd.sizeOf27
  v22 := Tryd.zeroValue27
  a24 := Tryd.isAgg2
  z24 := Tryd.sizeOf2
  t25 := Tryd.underlying188
  a25 := Tryd.isAgg188
  z25 := Tryd.sizeOf188
  v25 := Tryd.zeroValue188 }
end Go.Proofs
