/-
  The shelf's layings that this claim uses, at this seat's translation, in plain declarations: written by the kit's lay-plain.mjs, cut out by a program of this claim.
-/
import Derived.Shelf.SlSortCmp.Insertion1
import Derived.Shelf.SlicesE.Clone
import Derived.Test.YtokphfhihhdfpaaDoorProg
namespace Go.Proofs
open Go.Shelf
def Tryd.insI_ren : Go.Shelf.Ren := ⟨fun | 20 => 145 | n => n, fun | 24 => 3 | 22 => 101 | 3 => 3 | 25 => 90 | 4 => 4 | 0 => 0 | n => n, fun | n => n⟩
theorem Tryd.insI : Go.Proofs.SlLaysF.n20 Tryd.prog Tryd.insI_ren := {
  mixed := by kernel_rfl
  f20 := ⟨Tryd.f145.name, by decide, Tryd.func145.trans (congrArg some (by kernel_rfl))⟩
  t0 := Tryd.underlying0
  a0 := Tryd.isAgg0
  z0 := Tryd.sizeOf0
  v0 := Tryd.zeroValue0
  t3 := Tryd.underlying3
  a3 := Tryd.isAgg3
  z3 := Tryd.sizeOf3
  v3 := Tryd.zeroValue3
  t4 := Tryd.underlying4
  a4 := Tryd.isAgg4
  z4 := Tryd.sizeOf4
  v4 := Tryd.zeroValue4
  t22 := Tryd.underlying101
  a22 := Tryd.isAgg101
  z22 := Tryd.sizeOf101
  v22 := Tryd.zeroValue101
  a24 := Tryd.isAgg3
  z24 := Tryd.sizeOf3
  t25 := Tryd.underlying90
  a25 := Tryd.isAgg90
  z25 := Tryd.sizeOf90
  v25 := Tryd.zeroValue90 }
def Tryd.cloneC_ren : Go.Shelf.Ren := ⟨fun | 41 => 104 | n => n, fun | 22 => 35 | 23 => 80 | 4 => 4 | n => n, fun | n => n⟩
theorem Tryd.cloneC : Go.Proofs.SlLaysE0.n41 Tryd.prog Tryd.cloneC_ren := {
  mixed := by kernel_rfl
  f41 := ⟨Tryd.f104.name, by decide, Tryd.func104.trans (congrArg some (by kernel_rfl))⟩
  t4 := Tryd.underlying4
  a4 := Tryd.isAgg4
  z4 := Tryd.sizeOf4
  v4 := Tryd.zeroValue4
  t22 := Tryd.underlying35
  a22 := Tryd.isAgg35
  z22 := Tryd.sizeOf35
  v22 := Tryd.zeroValue35 }
end Go.Proofs
