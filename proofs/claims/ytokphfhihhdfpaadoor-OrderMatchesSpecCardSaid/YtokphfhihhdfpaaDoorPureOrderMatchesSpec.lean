/- The plain law of OrderMatchesSpec. -/
import Derived.Test.YtokphfhihhdfpaaDoorPureK
import Derived.Test.YtokphfhihhdfpaaDoorQxperistylelaw1OrderMatchesSpec
namespace Go.Proofs.YtokphfhihhdfpaaDoor.Pure
open Go.RowKit Go.Proofs.YtokphfhihhdfpaaDoor.Q Go.Proofs.YtokphfhihhdfpaaDoor.Ext Go.Proofs.YtokphfhihhdfpaaDoorW.PrintWords Go.Proofs.YtokphfhihhdfpaaDoorW.PrintLast Go.Proofs.YtokphfhihhdfpaaDoorW.PrintMore
set_option linter.unusedVariables false
set_option linter.unusedSimpArgs false

theorem CompareR_ev (a b : Val) (ha : fits a) (hb : fits b) : Ev (fun k => peristyleref1_Compare.f k a.f0 a.f1 a.f2 b.f0 b.f1 b.f2) (if cv2 a b = 0 then (ord a b, 0) else (0, cv2 a b)) := by
  unfold peristyleref1_Compare.f peristyleref1_checks.f
  have hc : Ev (fun k => (peristyleref1_CheckValue.f k a.f0 a.f1 a.f2).bind fun t103 => if t103 = 0 then (peristyleref1_CheckValue.f k b.f0 b.f1 b.f2).bind fun t104 => some t104 else some t103) (cv2 a b) := by
    refine Ev.bind (CVr _ _ _ ha) ?_
    unfold cv2
    by_cases h : cvV a = 0
    · rw [if_pos h]; unfold cvV at h; simp only [if_pos h]; exact Ev.bind (CVr _ _ _ hb) (Ev.now _)
    · rw [if_neg h]; unfold cvV at h; simp only [if_neg h]; exact Ev.now _
  refine Ev.bind hc ?_
  by_cases h : cv2 a b = 0
  · simp only [if_pos h, OrderR_f, Option.bind_some]; exact Ev.now _
  · simp only [if_neg h]; exact Ev.now _
theorem OrderMatchesSpec (a b : Val) (c : List Col) (l : List Ky) (x y : List Val) (ha : Opn.PValue a) (hb : Opn.PValue b) (hc : Opn.PColumns c) (hl : Opn.PKeys l) (hx : x.length ≤ 9223372036854775807 ∧ ∀ v ∈ x, Opn.PValue v) (hy : y.length ≤ 9223372036854775807 ∧ ∀ v ∈ y, Opn.PValue v) :
    Ev (fun k => peristylelaw1_OrderMatchesSpec.f k a.f0 a.f1 a.f2 b.f0 b.f1 b.f2 c l x y) true := by
  have fa : fits a := ha.2.2
  have fb : fits b := hb.2.2
  have fx : RFits x := ⟨hx.1, fun v hv => (hx.2 v hv).2.2⟩
  have fy : RFits y := ⟨hy.1, fun v hv => (hy.2 v hv).2.2⟩
  have fc : ∀ q ∈ c, q.f0.size ≤ 9223372036854775807 := fun q hq => (hc.2 q hq).1
  unfold peristylelaw1_OrderMatchesSpec.f
  refine Ev.bind (Compare_ev a b fa fb) (Ev.bind (CompareR_ev a b fa fb) (Ev.bind (Before_ev c l x y hc.1 fc hl.1 fx fy) (Ev.bind (BeforeR_ev c l x y hc.1 fc hl.1 fx fy) ?_)))
  simp only [if_true, beq_self_eq_true]
  exact Ev.bind Ev_awake (Ev.now _)
end Go.Proofs.YtokphfhihhdfpaaDoor.Pure
