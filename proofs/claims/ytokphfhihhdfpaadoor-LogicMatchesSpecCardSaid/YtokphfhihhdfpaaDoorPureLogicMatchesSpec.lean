/- The plain law of LogicMatchesSpec. -/
import Derived.Test.YtokphfhihhdfpaaDoorPureLr
import Derived.Test.YtokphfhihhdfpaaDoorQxperistylelaw1LogicMatchesSpec
namespace Go.Proofs.YtokphfhihhdfpaaDoor.Pure
open Go.RowKit Go.Proofs.YtokphfhihhdfpaaDoor.Q Go.Proofs.YtokphfhihhdfpaaDoor.Ext Go.Proofs.YtokphfhihhdfpaaDoorW.PrintWords Go.Proofs.YtokphfhihhdfpaaDoorW.PrintLast Go.Proofs.YtokphfhihhdfpaaDoorW.PrintMore
set_option linter.unusedVariables false
set_option linter.unusedSimpArgs false

theorem LogicMatchesSpec (a b : Val) (ha : Opn.PValue a) (hb : Opn.PValue b) : Ev (fun k => peristylelaw1_LogicMatchesSpec.f k a.f0 a.f1 a.f2 b.f0 b.f1 b.f2) true := by
  have fa : fits a := ha.2.2
  have fb : fits b := hb.2.2
  have j3 : Ev (fun k => peristylelaw1_LogicMatchesSpec.j3 k false a.f0 a.f1 a.f2 b.f0 b.f1 b.f2) true := by
    refine Ev.step (fun k => by simp only [peristylelaw1_LogicMatchesSpec.j3, Bool.false_eq_true, if_false]; rfl) (Ev.bind (Less_ev a b fa fb) (Ev.bind (LessR_ev a b fa fb) ?_))
    simp only [beq_self_eq_true, Bool.and_self, if_true]
    exact Ev.bind Ev_awake (Ev.now _)
  have j2 : Ev (fun k => peristylelaw1_LogicMatchesSpec.j2 k false a.f0 a.f1 a.f2 b.f0 b.f1 b.f2) true := by
    refine Ev.step (fun k => by simp only [peristylelaw1_LogicMatchesSpec.j2, Bool.false_eq_true, if_false]; rfl) (Ev.bind (Equal_ev a b fa fb) (Ev.bind (EqualR_ev a b fa fb) ?_))
    simp only [beq_self_eq_true, Bool.not_true, Bool.or_self, bne_self_eq_false, Bool.false_eq_true, if_false]
    exact j3
  have j1 : Ev (fun k => peristylelaw1_LogicMatchesSpec.j1 k false a.f0 a.f1 a.f2 b.f0 b.f1 b.f2) true := by
    refine Ev.step (fun k => by simp only [peristylelaw1_LogicMatchesSpec.j1, Bool.false_eq_true, if_false]; rfl) (Ev.bind (Not_ev a fa) (Ev.bind (NotR_ev a fa) ?_))
    simp only [beq_self_eq_true, Bool.not_true, Bool.or_self, bne_self_eq_false, Bool.false_eq_true, if_false]
    exact j2
  have j0 : Ev (fun k => peristylelaw1_LogicMatchesSpec.j0 k false a.f0 a.f1 a.f2 b.f0 b.f1 b.f2) true := by
    refine Ev.step (fun k => by simp only [peristylelaw1_LogicMatchesSpec.j0, Bool.false_eq_true, if_false]; rfl) (Ev.bind (Or_ev a b fa fb) (Ev.bind (OrR_ev a b fa fb) ?_))
    simp only [beq_self_eq_true, Bool.not_true, Bool.or_self, bne_self_eq_false, Bool.false_eq_true, if_false]
    exact j1
  unfold peristylelaw1_LogicMatchesSpec.f
  refine Ev.bind (And_ev a b fa fb) (Ev.bind (AndR_ev a b fa fb) ?_)
  simp only [beq_self_eq_true, Bool.not_true, Bool.or_self, bne_self_eq_false, Bool.false_eq_true, if_false]
  exact j0
end Go.Proofs.YtokphfhihhdfpaaDoor.Pure
