/- The plain law of SumsMatchSpec: Plus, Minus, Times, Quotient and Rest of the reference, and the law. -/
import Derived.Test.YtokphfhihhdfpaaDoorPureS
import Derived.Test.YtokphfhihhdfpaaDoorQxRefSums
import Derived.Test.YtokphfhihhdfpaaDoorQxRefQuots
import Derived.Test.YtokphfhihhdfpaaDoorQxperistylelaw1SumsMatchSpec
namespace Go.Proofs.YtokphfhihhdfpaaDoor.Pure
open Go.RowKit Go.Proofs.YtokphfhihhdfpaaDoor.Q Go.Proofs.YtokphfhihhdfpaaDoor.Ext Go.Proofs.YtokphfhihhdfpaaDoorW.PrintWords Go.Proofs.YtokphfhihhdfpaaDoorW.PrintLast Go.Proofs.YtokphfhihhdfpaaDoorW.PrintMore
set_option linter.unusedVariables false
set_option linter.unusedSimpArgs false

theorem Numbers_ev (a b : Val) (ha : fits a) (hb : fits b) : Ev (fun k => peristyleref1_numbers.f k a.f0 a.f1 a.f2 b.f0 b.f1 b.f2)
    (if ofS 2 a b = 0 then (if a.f0 = 0 ∨ b.f0 = 0 then (true, 0) else (false, 0)) else (false, ofS 2 a b)) := by
  unfold peristyleref1_numbers.f
  refine Ev.bind (Checks_ev a b ha hb) ?_
  by_cases h : cv2 a b = 0
  · simp only [if_pos h]
    have e : ofS 2 a b = if of1 2 a = 0 then of1 2 b else 10 := if_pos h
    rw [e]
    unfold of1
    by_cases a0 : a.f0 = 0
    · rw [if_pos a0, if_pos (Or.inl a0), if_pos rfl, if_pos (Or.inl a0)]
      by_cases b0 : b.f0 = 0
      · rw [if_pos b0, if_pos (Or.inl b0)]; exact Ev.now _
      · rw [if_neg b0]
        by_cases b2 : b.f0 = 2
        · rw [if_pos b2, if_pos (Or.inr b2)]; exact Ev.now _
        · rw [if_neg b2, if_neg (show ¬ (b.f0 = 0 ∨ b.f0 = 2) from fun h => h.elim b0 b2)]; exact Ev.now _
    · rw [if_neg a0]
      by_cases a2 : a.f0 = 2
      · rw [if_pos a2, if_pos (Or.inr a2), if_pos rfl]
        by_cases b0 : b.f0 = 0
        · rw [if_pos b0, if_pos (Or.inl b0), if_pos (Or.inr b0)]; exact Ev.now _
        · rw [if_neg b0, if_neg (show ¬ (a.f0 = 0 ∨ b.f0 = 0) from fun h => h.elim a0 b0)]
          by_cases b2 : b.f0 = 2
          · rw [if_pos b2, if_pos (Or.inr b2)]; exact Ev.now _
          · rw [if_neg b2, if_neg (show ¬ (b.f0 = 0 ∨ b.f0 = 2) from fun h => h.elim b0 b2)]; exact Ev.now _
      · rw [if_neg a2, if_neg (show ¬ (a.f0 = 0 ∨ a.f0 = 2) from fun h => h.elim a0 a2)]; exact Ev.now _
  · simp only [if_neg h]
    have e : ofS 2 a b = cv2 a b := if_neg h
    rw [e, if_neg h]; exact Ev.now _
theorem Number_f (x : Int) : peristyleref1_number.f x = some (num x) := by
  unfold peristyleref1_number.f
  rw [within_f]
  simp only [Option.bind_some, decide_eq_true_eq]
  by_cases h2 : -1000000000000000 ≤ x ∧ x ≤ 1000000000000000
  · rw [if_pos h2, num_in h2]
  · rw [if_neg h2, num_out h2]; rfl
theorem PlusR_ev (a b : Val) (ha : fits a) (hb : fits b) : Ev (fun k => peristyleref1_Plus.f k a.f0 a.f1 a.f2 b.f0 b.f1 b.f2) (numS (· + ·) a b) := by
  unfold peristyleref1_Plus.f
  refine Ev.bind (Numbers_ev a b ha hb) ?_
  unfold numS
  by_cases h : ofS 2 a b = 0
  · obtain ⟨ra, rb, ka, kb⟩ := ofS_zero.1 h
    have := small ra ka
    have := small rb kb
    by_cases hn : a.f0 = 0 ∨ b.f0 = 0
    · simp only [if_pos h, if_pos hn]; exact Ev.now _
    · simp only [if_pos h, if_neg hn, Number_f, Option.bind_some]
      rw [w64 (by omega) (by omega)]
      exact Ev.now _
  · simp only [if_neg h]; exact Ev.now _
theorem MinusR_ev (a b : Val) (ha : fits a) (hb : fits b) : Ev (fun k => peristyleref1_Minus.f k a.f0 a.f1 a.f2 b.f0 b.f1 b.f2) (numS (· - ·) a b) := by
  unfold peristyleref1_Minus.f
  refine Ev.bind (Numbers_ev a b ha hb) ?_
  unfold numS
  by_cases h : ofS 2 a b = 0
  · obtain ⟨ra, rb, ka, kb⟩ := ofS_zero.1 h
    have := small ra ka
    have := small rb kb
    by_cases hn : a.f0 = 0 ∨ b.f0 = 0
    · simp only [if_pos h, if_pos hn]; exact Ev.now _
    · simp only [if_pos h, if_neg hn, Number_f, Option.bind_some]
      rw [w64 (by omega) (by omega)]
      exact Ev.now _
  · simp only [if_neg h]; exact Ev.now _
theorem TimesR_ev (a b : Val) (ha : fits a) (hb : fits b) : Ev (fun k => peristyleref1_Times.f k a.f0 a.f1 a.f2 b.f0 b.f1 b.f2) (numS (· * ·) a b) := by
  unfold peristyleref1_Times.f
  refine Ev.bind (Numbers_ev a b ha hb) ?_
  unfold numS
  by_cases h : ofS 2 a b = 0
  · obtain ⟨ra, rb, ka, kb⟩ := ofS_zero.1 h
    have sa := small ra ka
    have sb := small rb kb
    by_cases hn : a.f0 = 0 ∨ b.f0 = 0
    · simp only [if_pos h, if_pos hn]
      refine Ev.step (f := fun _ => some _) (fun k => ?_) (Ev.now _)
      simp only [peristyleref1_Times.j0]; rfl
    · simp only [if_pos h, if_neg hn]
      refine Ev.step (f := fun _ => some (num (a.f1 * b.f1))) (fun k => ?_) (Ev.now _)
      simp only [peristyleref1_Times.j0, mx_abs sa, mx_abs sb, td, Number_f, Option.bind_some]
      by_cases h0 : (a.f1.natAbs : Int) = 0
      · have : a.f1 = 0 := by omega
        have e : wrap64 (a.f1 * b.f1) = a.f1 * b.f1 := by rw [this, Int.zero_mul, w64 (by omega) (by omega)]
        simp only [if_pos h0, e, Bool.false_eq_true, if_false, if_true]
      · by_cases hbig : (b.f1.natAbs : Int) > 1000000000000000 / (a.f1.natAbs : Int)
        · have hp := prod_big (by omega) hbig
          rw [Int.mul_comm] at hp
          simp only [if_neg h0, if_pos hbig, num_out hp, Bool.false_eq_true, if_false]; rfl
        · have hp := prod_small (by omega) hbig
          rw [Int.mul_comm] at hp
          have e : wrap64 (a.f1 * b.f1) = a.f1 * b.f1 := w64 (by omega) (by omega)
          simp only [if_neg h0, if_neg hbig, e, Bool.false_eq_true, if_false, if_true]
  · simp only [if_neg h]
    refine Ev.step (f := fun _ => some _) (fun k => ?_) (Ev.now _)
    simp only [peristyleref1_Times.j0]; rfl
theorem DividedR_ev (a b : Val) (ha : fits a) (hb : fits b) : Ev (fun k => peristyleref1_divided.f k a.f0 a.f1 a.f2 b.f0 b.f1 b.f2)
    (if ofS 2 a b = 0 then (if b.f0 = 2 ∧ b.f1 = 0 then (false, 6) else if a.f0 = 0 ∨ b.f0 = 0 then (true, 0) else (false, 0)) else (false, ofS 2 a b)) := by
  unfold peristyleref1_divided.f
  refine Ev.bind (Numbers_ev a b ha hb) ?_
  by_cases h : ofS 2 a b = 0
  · have e : (if a.f0 = 0 ∨ b.f0 = 0 then (true, (0 : Int)) else (false, 0)).2 = 0 := by split <;> rfl
    simp only [if_pos h, if_pos e]
    by_cases b2 : b.f0 = 2
    · by_cases b1 : b.f1 = 0
      · rw [if_pos b2, if_pos b1, if_pos ⟨b2, b1⟩]; exact Ev.now _
      · rw [if_pos b2, if_neg b1, if_neg (show ¬ (b.f0 = 2 ∧ b.f1 = 0) from fun h => b1 h.2)]; exact Ev.now _
    · rw [if_neg b2, if_neg (show ¬ (b.f0 = 2 ∧ b.f1 = 0) from fun h => b2 h.1)]; exact Ev.now _
  · simp only [if_neg h]; exact Ev.now _
theorem QuotientR_ev (a b : Val) (ha : fits a) (hb : fits b) : Ev (fun k => peristyleref1_Quotient.f k a.f0 a.f1 a.f2 b.f0 b.f1 b.f2) (divS Int.tdiv a b) := by
  unfold peristyleref1_Quotient.f
  refine Ev.bind (DividedR_ev a b ha hb) ?_
  unfold divS
  by_cases h : ofS 2 a b = 0
  · obtain ⟨ra, rb, ka, kb⟩ := ofS_zero.1 h
    by_cases hz : b.f0 = 2 ∧ b.f1 = 0
    · simp only [if_pos h, if_pos hz]; exact Ev.now _
    · by_cases hn : a.f0 = 0 ∨ b.f0 = 0
      · simp only [if_pos h, if_neg hz, if_pos hn]; exact Ev.now _
      · have hy : ¬ b.f1 = 0 := by omega
        have hi := div_in (y := b.f1) (small ra ka)
        simp only [if_pos h, if_neg hz, if_neg hn, if_neg hy, Number_f, Option.bind_some]
        rw [w64 (by omega) (by omega)]
        exact Ev.now _
  · simp only [if_neg h]; exact Ev.now _
theorem RestR_ev (a b : Val) (ha : fits a) (hb : fits b) : Ev (fun k => peristyleref1_Rest.f k a.f0 a.f1 a.f2 b.f0 b.f1 b.f2) (divS Int.tmod a b) := by
  unfold peristyleref1_Rest.f
  refine Ev.bind (DividedR_ev a b ha hb) ?_
  unfold divS
  by_cases h : ofS 2 a b = 0
  · obtain ⟨ra, rb, ka, kb⟩ := ofS_zero.1 h
    by_cases hz : b.f0 = 2 ∧ b.f1 = 0
    · simp only [if_pos h, if_pos hz]; exact Ev.now _
    · by_cases hn : a.f0 = 0 ∨ b.f0 = 0
      · simp only [if_pos h, if_neg hz, if_pos hn]; exact Ev.now _
      · have hy : ¬ b.f1 = 0 := by omega
        simp only [if_pos h, if_neg hz, if_neg hn, if_neg hy, Number_f, Option.bind_some]
        exact Ev.now _
  · simp only [if_neg h]; exact Ev.now _
theorem SumsMatchSpec (a b : Val) (ha : Opn.PValue a) (hb : Opn.PValue b) : Ev (fun k => peristylelaw1_SumsMatchSpec.f k a.f0 a.f1 a.f2 b.f0 b.f1 b.f2) true := by
  have fa : fits a := ha.2.2
  have fb : fits b := hb.2.2
  have j3 : Ev (fun k => peristylelaw1_SumsMatchSpec.j3 k false a.f0 a.f1 a.f2 b.f0 b.f1 b.f2) true := by
    refine Ev.step (fun k => by simp only [peristylelaw1_SumsMatchSpec.j3, Bool.false_eq_true, if_false]; rfl) (Ev.bind (Rest_ev a b fa fb) (Ev.bind (RestR_ev a b fa fb) ?_))
    simp only [beq_self_eq_true, Bool.and_self, if_true]
    exact Ev.bind Ev_awake (Ev.now _)
  have j2 : Ev (fun k => peristylelaw1_SumsMatchSpec.j2 k false a.f0 a.f1 a.f2 b.f0 b.f1 b.f2) true := by
    refine Ev.step (fun k => by simp only [peristylelaw1_SumsMatchSpec.j2, Bool.false_eq_true, if_false]; rfl) (Ev.bind (Quotient_ev a b fa fb) (Ev.bind (QuotientR_ev a b fa fb) ?_))
    simp only [beq_self_eq_true, Bool.not_true, Bool.or_self, bne_self_eq_false, Bool.false_eq_true, if_false]
    exact j3
  have j1 : Ev (fun k => peristylelaw1_SumsMatchSpec.j1 k false a.f0 a.f1 a.f2 b.f0 b.f1 b.f2) true := by
    refine Ev.step (fun k => by simp only [peristylelaw1_SumsMatchSpec.j1, Bool.false_eq_true, if_false]; rfl) (Ev.bind (Times_ev a b fa fb) (Ev.bind (TimesR_ev a b fa fb) ?_))
    simp only [beq_self_eq_true, Bool.not_true, Bool.or_self, bne_self_eq_false, Bool.false_eq_true, if_false]
    exact j2
  have j0 : Ev (fun k => peristylelaw1_SumsMatchSpec.j0 k false a.f0 a.f1 a.f2 b.f0 b.f1 b.f2) true := by
    refine Ev.step (fun k => by simp only [peristylelaw1_SumsMatchSpec.j0, Bool.false_eq_true, if_false]; rfl) (Ev.bind (Minus_ev a b fa fb) (Ev.bind (MinusR_ev a b fa fb) ?_))
    simp only [beq_self_eq_true, Bool.not_true, Bool.or_self, bne_self_eq_false, Bool.false_eq_true, if_false]
    exact j1
  unfold peristylelaw1_SumsMatchSpec.f
  refine Ev.bind (Plus_ev a b fa fb) (Ev.bind (PlusR_ev a b fa fb) ?_)
  simp only [beq_self_eq_true, Bool.not_true, Bool.or_self, bne_self_eq_false, Bool.false_eq_true, if_false]
  exact j0
end Go.Proofs.YtokphfhihhdfpaaDoor.Pure
