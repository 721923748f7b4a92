/- The plain law of ValuesMatchSpec: what is wrong with a value, with columns and with a table is the same in the program and in the reference. For every value and table whose lengths fit an int. -/
import Derived.Test.YtokphfhihhdfpaaDoorPureA
import Derived.Test.YtokphfhihhdfpaaDoorOpen
import Derived.Test.YtokphfhihhdfpaaDoorQxperistylelaw1ValuesMatchSpec
namespace Go.Proofs.YtokphfhihhdfpaaDoor.Pure
open Go.RowKit Go.Proofs.YtokphfhihhdfpaaDoor.Q Go.Proofs.YtokphfhihhdfpaaDoor.Ext Go.Proofs.YtokphfhihhdfpaaDoorW.PrintWords Go.Proofs.YtokphfhihhdfpaaDoorW.PrintLast Go.Proofs.YtokphfhihhdfpaaDoorW.PrintMore
set_option linter.unusedVariables false

theorem fits_of {c : List Col} {l : List Rw} (h1 : Opn.PColumns c) (h2 : Opn.PRows l) : TableFits c l :=
  ⟨fun x hx => (h1.2 x hx).1, h2.1, fun r hr => ⟨(h2.2 r hr).1, fun v hv => ((h2.2 r hr).2 v hv).2.2⟩⟩
theorem ValuesMatchSpec (a : Val) (c : List Col) (l : List Rw) (hv : Opn.PValue a) (h1 : Opn.PColumns c) (h2 : Opn.PRows l) :
    Ev (fun k => peristylelaw1_ValuesMatchSpec.f k a.f0 a.f1 a.f2 c l) true := by
  have hf := fits_of h1 h2
  have hs : a.f2.size ≤ 9223372036854775807 := hv.2.2
  unfold peristylelaw1_ValuesMatchSpec.f
  refine Ev.bind (CV _ _ _ hs) (Ev.bind (CVr _ _ _ hs) ?_)
  simp only [if_true]
  refine Ev.bind (CC _ hf.1) (Ev.bind (CCr _ hf.1) ?_)
  simp only [if_true]
  refine Ev.bind (CT _ _ hf) (Ev.bind (CTr _ _ hf) ?_)
  simp only [if_true]
  exact Ev.bind Ev_awake (Ev.now _)
end Go.Proofs.YtokphfhihhdfpaaDoor.Pure
