/- The library's Delete at int64, laid at this seat's translation. -/
import Derived.Shelf.SlLaysE
import Derived.Test.YtdjdillppgijmaaDoorProg
namespace Go.Proofs
open Go.Shelf
def Tryd.delI_ren : Go.Shelf.Ren := ⟨fun | 45 => 148 | n => n, fun | 22 => 27 | 23 => 2 | 3 => 3 | 4 => 4 | 0 => 0 | n => n, fun | n => n⟩
theorem Tryd.delI : Go.Proofs.SlLaysE.n45 Tryd.prog Tryd.delI_ren := {
  mixed := by kernel_rfl
  f45 := ⟨Tryd.f148.name, by decide, Tryd.func148.trans (congrArg some (by kernel_rfl))⟩
  t0 := Tryd.underlying0
  a0 := Tryd.isAgg0
  z0 := Tryd.sizeOf0
  v0 := Tryd.zeroValue0
  t3 := Tryd.underlying3
  a3 := Tryd.isAgg3
  z3 := Tryd.sizeOf3
  v3 := Tryd.zeroValue3
  t4 := Tryd.underlying4
  a4 := Tryd.isAgg4
  z4 := Tryd.sizeOf4
  v4 := Tryd.zeroValue4
  t22 := Tryd.underlying27
  a22 := Tryd.isAgg27
  z22 := Tryd.sizeOf27
  v22 := Tryd.zeroValue27
  a23 := Tryd.isAgg2
  z23 := Tryd.sizeOf2 }
end Go.Proofs
