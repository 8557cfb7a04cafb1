/-
  The library function slices.Compact   int int  as the shelf knows it: the table of numbers and the comparison with its bodies, in plain declarations (written by the kit's lay-plain.mjs).
-/
import Derived.Shelf.SlicesE.Compact
import Derived.Test.YtgkjmjlkhnfbiaaGreatProg
namespace Go.Proofs
open Go.Shelf
def Tryz.compI_ren : Go.Shelf.Ren := ⟨fun | 43 => 129 | n => n, fun | 22 => 28 | 23 => 3 | 3 => 3 | 4 => 4 | 0 => 0 | n => n, fun | n => n⟩
theorem Tryz.compI : Go.Proofs.SlLaysE.n43 Tryz.prog Tryz.compI_ren := {
  mixed := by kernel_rfl
  f43 := ⟨Tryz.f129.name, by decide, Tryz.func129.trans (congrArg some (by kernel_rfl))⟩
  t0 := Tryz.underlying0
  a0 := Tryz.isAgg0
  z0 := Tryz.sizeOf0
  v0 := Tryz.zeroValue0
  t3 := Tryz.underlying3
  a3 := Tryz.isAgg3
  z3 := Tryz.sizeOf3
  v3 := Tryz.zeroValue3
  t4 := Tryz.underlying4
  a4 := Tryz.isAgg4
  z4 := Tryz.sizeOf4
  v4 := Tryz.zeroValue4
  t22 := Tryz.underlying28
  a22 := Tryz.isAgg28
  z22 := Tryz.sizeOf28
  v22 := Tryz.zeroValue28
  a23 := Tryz.isAgg3
  z23 := Tryz.sizeOf3 }
end Go.Proofs
