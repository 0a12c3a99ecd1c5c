/- The kit's contract of math/bits.TrailingZeros64, laid over this program by the kit's own tool. Conditions: none. -/
import Derived.Test.YtdokijbheholdaaDoorAmGl
import Derived.Test.YtdokijbheholdaaDoorProg
namespace Go.Proofs
open Go.Shelf
def Tryd.lays729_ren : Go.Shelf.Ren := ⟨fun | 29 => 35 | n => n, fun | 22 => 30 | 3 => 3 | 4 => 4 | 25 => 61 | 54 => 62 | 0 => 0 | 5 => 5 | n => n, fun | 1 => 0 | n => n⟩
theorem Tryd.lays729 : Go.Proofs.Lays7.n29 Tryd.prog Tryd.lays729_ren := {
  mixed := by kernel_rfl
  f29 := Tryd.func35.trans (congrArg some (by kernel_rfl))
  t0 := Tryd.underlying0
  a0 := Tryd.isAgg0
  z0 := Tryd.sizeOf0
  v0 := Tryd.zeroValue0
  i0 := by kernel_rfl
  t3 := Tryd.underlying3
  a3 := Tryd.isAgg3
  z3 := Tryd.sizeOf3
  v3 := Tryd.zeroValue3
  i3 := by kernel_rfl
  t4 := Tryd.underlying4
  a4 := Tryd.isAgg4
  z4 := Tryd.sizeOf4
  v4 := Tryd.zeroValue4
  i4 := by kernel_rfl
  t5 := Tryd.underlying5
  a5 := Tryd.isAgg5
  z5 := Tryd.sizeOf5
  v5 := Tryd.zeroValue5
  i5 := by kernel_rfl
  t22 := Tryd.underlying30
  a22 := Tryd.isAgg30
  z22 := Tryd.sizeOf30
  v22 := Tryd.zeroValue30
  i22 := by kernel_rfl
  t25 := Tryd.underlying61
  a25 := Tryd.isAgg61
  z25 := Tryd.sizeOf61
  v25 := Tryd.zeroValue61
  i25 := by kernel_rfl
  t54 := Tryd.underlying62
  a54 := Tryd.isAgg62
  z54 := Tryd.sizeOf62
  g1 := by kernel_rfl }
end Go.Proofs
namespace Go.AM
/-- TrailingZeros64 over the table in variable 0. -/
def tz0 : List CV → Nat → List AO → Option (AV × List AO) := tzF 0
end Go.AM
