/- strconv.Itoa as a plain Lean function, with the contract of its call: for every int, in every world in which the library's table of powers of ten holds what its text lays (LaidW: a predicate that stays as long as what was there stays). -/
import Derived.Test.YtokphfhihhdfpaaDoorShelfB
import Derived.Test.YtokphfhihhdfpaaDoorY1
import Derived.Lib.AppendIntMem
namespace Go.Proofs.YtokphfhihhdfpaaDoor.Ext
open Go.RowKit Go.Proofs.YtokphfhihhdfpaaDoorW.PrintWords
set_option linter.unusedVariables false

/-- The library's table of powers of ten is as its text lays it. -/
def LaidW (w : World) : Prop := Lib.TabIs Tryd.prog w "internal/strconv.uint64pow10" .u64 Lib.pow10Tab
theorem LaidW.below {w w1 : World} (h : LaidW w) (hb : Below w.heap.size w w1) : LaidW w1 := Lib.tabBelow_of_tabIs h w1 hb

def strconv_Itoa.f (a0 : Int) : Option (ByteArray) := if -9223372036854775808 ≤ a0 ∧ a0 ≤ 9223372036854775807 then some ⟨(Lib.itoa a0).toArray⟩ else none
theorem strconv_Itoa.calls (a0 : Int) (r : ByteArray) (w : World) (hL : LaidW w) (h : strconv_Itoa.f a0 = some r) :
    Calls Tryd.prog 70 #[.int .i64 a0] w fun e w' => e = .returned (.string r) ∧ Below w.heap.size w w' := by
  unfold strconv_Itoa.f at h
  split at h
  · rename_i hs
    obtain rfl := Option.some.inj h
    refine (Tryd.strconv_Itoa a0 hs.1 hs.2 w hL).mono ?_
    rintro e w' ⟨rfl, k, os, rfl⟩
    exact ⟨rfl, Lib.below_grow _ _ (Nat.le_refl _) k os⟩
  · cases h
end Go.Proofs.YtokphfhihhdfpaaDoor.Ext
