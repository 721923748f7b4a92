/- Closed facts of the translated program that every row of this seat asks: shown once. -/
import Derived.Test.YtokphfhihhdfpaaDoorRows
import Derived.JoinedOf
import Derived.KernelRfl
namespace Go.Proofs.YtokphfhihhdfpaaDoor.Facts
theorem and_intro {a b : Bool} (h1 : a = true) (h2 : b = true) : (a && b) = true := by rw [h1, h2]; rfl
theorem own : ownKnob Tryd.prog.godebug = none := by kernel_rfl
theorem laidOut : laidOutB Tryd.prog = true := by kernel_rfl
theorem mapsRowed_ : mapsRowed Tryd.pinned.checked.prog = true := by kernel_rfl
theorem stops_ : (Tryd.pinned.checked.prog.stops == []) = true := by kernel_rfl
theorem stopKnobs_ : (Tryd.pinned.checked.prog.stopKnobs == []) = true := by kernel_rfl
theorem stopsHeard_ : Tryd.pinned.checked.prog.stopsHeard = true := by kernel_rfl
theorem mayEnter_ : Tryd.pinned.checked.prog.mayEnter = true := by kernel_rfl
abbrev r0 : OpenClaim := Rows.orderIsWholeRow
theorem plainKeys_ : (r0.plainKeys == Tryd.pinned.checked.prog.plainKeys) = true := by kernel_rfl
theorem lifted_ : (r0.lifted == Tryd.pinned.checked.prog.liftsFinal) = true := by kernel_rfl
theorem make_ : (Tryd.pinned.checked.prog.make == some r0.make) = true := by kernel_rfl
end Go.Proofs.YtokphfhihhdfpaaDoor.Facts
