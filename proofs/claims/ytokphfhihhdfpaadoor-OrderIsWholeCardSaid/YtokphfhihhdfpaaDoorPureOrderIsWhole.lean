/- The plain law of OrderIsWhole: the order turns round, is zero for equal values alone, and is transitive. -/
import Derived.Test.YtokphfhihhdfpaaDoorPureB
import Derived.Test.YtokphfhihhdfpaaDoorQxperistylelaw1OrderIsWhole
namespace Go.Proofs.YtokphfhihhdfpaaDoor.Pure
open Go.RowKit Go.Proofs.YtokphfhihhdfpaaDoor.Q Go.Proofs.YtokphfhihhdfpaaDoor.Ext Go.Proofs.YtokphfhihhdfpaaDoorW.PrintWords Go.Proofs.YtokphfhihhdfpaaDoorW.PrintLast Go.Proofs.YtokphfhihhdfpaaDoorW.PrintMore
set_option linter.unusedVariables false
set_option linter.unusedSimpArgs false

theorem OIW_true (x y z w : Int) (a b : Val) : Ev (fun k => peristylelaw1_OrderIsWhole.j0 k x y z w true a.f0 a.f1 a.f2 b.f0 b.f1 b.f2) true :=
  Ev.step (f := fun k => (peristylelaw1_awake.f k).bind fun t => some t) (fun k => by simp only [peristylelaw1_OrderIsWhole.j0]; rfl) (Ev.bind Ev_awake (Ev.now _))
theorem OIW_false (x y z w : Int) (a b : Val) (hw : w = wrap64 (-x)) (hx : x = 0 ↔ a.f0 = b.f0 ∧ a.f1 = b.f1 ∧ a.f2.toList = b.f2.toList) (hz : x ≤ 0 → y ≤ 0 → z ≤ 0 ∧ (z = 0 ↔ x = 0 ∧ y = 0)) :
    Ev (fun k => peristylelaw1_OrderIsWhole.j0 k x y z w false a.f0 a.f1 a.f2 b.f0 b.f1 b.f2) true := by
  refine Ev.step (f := fun k => (peristylelaw1_awake.f k).bind fun t => some t) (fun k => ?_) (Ev.bind Ev_awake (Ev.now _))
  have e0 : ((x == 0) == true) = true ↔ x = 0 := by simp
  have e1 : ((x == 0) == false) = true ↔ x ≠ 0 := by simp
  have e2 : ((z == 0) == false) = true ↔ z ≠ 0 := by simp
  have e3 : ((z == 0) == (y == 0)) = true ↔ (z = 0 ↔ y = 0) := by
    by_cases h1 : z = 0 <;> by_cases h2 : y = 0 <;> simp [h1, h2, beq_eq_false_iff_ne.2]
  simp only [peristylelaw1_OrderIsWhole.j0, e0, e1, e2, e3]
  rw [if_neg (by simp), if_pos hw]
  by_cases hx0 : x = 0
  · have hh := hx.1 hx0
    rw [if_pos hh.1, if_pos hh.2.1, if_pos hh.2.2, if_pos hx0, if_neg (by omega)]
    by_cases hy : y > 0
    · rw [if_pos hy]
    · have := hz (by omega) (by omega)
      rw [if_neg hy, if_pos this.1, if_pos (by omega)]
  · have key : (if x > 0 then ((peristylelaw1_awake.f k).bind fun t => some t) else if y > 0 then ((peristylelaw1_awake.f k).bind fun t => some t) else if z ≤ 0 then (if z ≠ 0 then ((peristylelaw1_awake.f k).bind fun t => some t) else none) else none) = ((peristylelaw1_awake.f k).bind fun t => some t) := by
      by_cases h1 : x > 0
      · rw [if_pos h1]
      · rw [if_neg h1]
        by_cases hy : y > 0
        · rw [if_pos hy]
        · have := hz (by omega) (by omega)
          rw [if_neg hy, if_pos this.1, if_pos (by omega)]
    split
    · split
      · split
        · rename_i h1 h2 h3
          exact absurd (hx.2 ⟨h1, h2, h3⟩) hx0
        · first | exact key | (rw [if_pos hx0]; exact key)
      · first | exact key | (rw [if_pos hx0]; exact key)
    · first | exact key | (rw [if_pos hx0]; exact key)
theorem OrderIsWhole (a b c : Val) (ha : Opn.PValue a) (hb : Opn.PValue b) (hc : Opn.PValue c) :
    Ev (fun k => peristylelaw1_OrderIsWhole.f k a.f0 a.f1 a.f2 b.f0 b.f1 b.f2 c.f0 c.f1 c.f2) true := by
  unfold peristylelaw1_OrderIsWhole.f
  refine Ev.bind (Compare_ev a b ha.2.2 hb.2.2) (Ev.bind (Compare_ev b c hb.2.2 hc.2.2) (Ev.bind (Compare_ev a c ha.2.2 hc.2.2) (Ev.bind (Compare_ev b a hb.2.2 ha.2.2) ?_)))
  have two : ∀ a b : Val, (if cv2 a b = 0 then (ord a b, 0) else ((0 : Int), cv2 a b)).2 = 0 ↔ cv2 a b = 0 := by
    intro a b
    split
    · simp [*]
    · simp [*]
  simp only [two]
  by_cases h1 : cv2 a b = 0
  · by_cases h2 : cv2 b c = 0
    · have k1 := cv2_zero.1 h1
      have k2 := cv2_zero.1 h2
      have h3 : cv2 a c = 0 := cv2_zero.2 ⟨k1.1, k2.2⟩
      have h4 : cv2 b a = 0 := cv2_zero.2 ⟨k1.2, k1.1⟩
      simp only [if_pos h1, if_pos h2, if_pos h3, if_pos h4]
      have e : ((0 : Int) != 0) = false := rfl
      rw [e]
      have := ord_range a b
      exact OIW_false _ _ _ _ a b (by rw [w64 (by omega) (by omega)]; exact ord_neg a b) (ord_zero a b) (fun x y => ord_trans x y)
    · simp only [if_pos h1, if_neg h2]; exact OIW_true _ _ _ _ a b
  · simp only [if_neg h1]; exact OIW_true _ _ _ _ a b
end Go.Proofs.YtokphfhihhdfpaaDoor.Pure
