/- Plain laws, part S: Plus, Minus, Times, Quotient and Rest of the program. -/
import Derived.Test.YtokphfhihhdfpaaDoorPureC
import Derived.Test.YtokphfhihhdfpaaDoorQxSums
import Derived.Test.YtokphfhihhdfpaaDoorQxQuots
namespace Go.Proofs.YtokphfhihhdfpaaDoor.Pure
open Go.RowKit Go.Proofs.YtokphfhihhdfpaaDoor.Q Go.Proofs.YtokphfhihhdfpaaDoor.Ext Go.Proofs.YtokphfhihhdfpaaDoorW.PrintWords Go.Proofs.YtokphfhihhdfpaaDoorW.PrintLast Go.Proofs.YtokphfhihhdfpaaDoorW.PrintMore
set_option linter.unusedVariables false
set_option linter.unusedSimpArgs false

/-- A number of two numbers, where both are there. -/
def numS (g : Int → Int → Int) (a b : Val) : Res := if ofS 2 a b = 0 then (if a.f0 = 0 ∨ b.f0 = 0 then bad 0 else num (g a.f1 b.f1)) else bad (ofS 2 a b)
def divS (g : Int → Int → Int) (a b : Val) : Res := if ofS 2 a b = 0 then (if b.f0 = 2 ∧ b.f1 = 0 then bad 6 else if a.f0 = 0 ∨ b.f0 = 0 then bad 0 else num (g a.f1 b.f1)) else bad (ofS 2 a b)
theorem small {a : Val} (h : cvV a = 0) (hk : a.f0 = 0 ∨ a.f0 = 2) : -1000000000000000 ≤ a.f1 ∧ a.f1 ≤ 1000000000000000 := by
  rcases hk with h0 | h0
  · rw [right0 h h0]; exact ⟨by decide, by decide⟩
  · exact (right2 h h0).2
theorem num_in {x : Int} (h : -1000000000000000 ≤ x ∧ x ≤ 1000000000000000) : num x = (2, x, ee, 0) := if_pos h
theorem num_out {x : Int} (h : ¬ (-1000000000000000 ≤ x ∧ x ≤ 1000000000000000)) : num x = bad 1 := if_neg h
theorem Result_ev (a b : Val) (x : Int) : Ev (fun k => value_result.f k a.f0 a.f1 a.f2 b.f0 b.f1 b.f2 x) (if a.f0 = 0 ∨ b.f0 = 0 then bad 0 else num x) := by
  unfold value_result.f
  have e0 : ∀ v : Bool, v = true → Ev (fun k => value_result.j0 k x v) (bad 0) := by
    intro v hv; subst hv
    exact Ev.step (f := fun _ => some (bad 0)) (fun k => by simp only [value_result.j0]; rfl) (Ev.now _)
  simp only [kit_IsNull.f, Option.bind_some, beq_iff_eq]
  by_cases h0 : a.f0 = 0
  · rw [if_pos (Or.inl h0)]; simp only [if_pos h0]; exact e0 _ rfl
  · simp only [if_neg h0]
    by_cases h1 : b.f0 = 0
    · rw [if_pos (Or.inr h1)]; exact e0 _ (by simpa using h1)
    · rw [if_neg (fun h => h.elim h0 h1)]
      refine Ev.step (f := fun _ => some (num x)) (fun k => ?_) (Ev.now _)
      simp only [value_result.j0]
      rw [if_neg (by simpa using h1), kit_In_f]
      simp only [Option.bind_some, decide_eq_true_eq, kit_Int.f]
      by_cases h2 : -1000000000000000 ≤ x ∧ x ≤ 1000000000000000
      · rw [if_pos h2, num_in h2]
      · rw [if_neg h2, num_out h2]; rfl
theorem Plus_ev (a b : Val) (ha : fits a) (hb : fits b) : Ev (fun k => value_Plus.f k a.f0 a.f1 a.f2 b.f0 b.f1 b.f2) (numS (· + ·) a b) := by
  unfold value_Plus.f
  refine Ev.bind (Of2 2 a b ha hb) ?_
  unfold numS
  by_cases h : ofS 2 a b = 0
  · simp only [if_pos h]
    obtain ⟨ra, rb, ka, kb⟩ := ofS_zero.1 h
    have := small ra ka
    have := small rb kb
    rw [w64 (by omega) (by omega)]
    exact Ev.bind (Result_ev a b _) (Ev.now _)
  · simp only [if_neg h]; exact Ev.now _
theorem Minus_ev (a b : Val) (ha : fits a) (hb : fits b) : Ev (fun k => value_Minus.f k a.f0 a.f1 a.f2 b.f0 b.f1 b.f2) (numS (· - ·) a b) := by
  unfold value_Minus.f
  refine Ev.bind (Of2 2 a b ha hb) ?_
  unfold numS
  by_cases h : ofS 2 a b = 0
  · simp only [if_pos h]
    obtain ⟨ra, rb, ka, kb⟩ := ofS_zero.1 h
    have := small ra ka
    have := small rb kb
    rw [w64 (by omega) (by omega)]
    exact Ev.bind (Result_ev a b _) (Ev.now _)
  · simp only [if_neg h]; exact Ev.now _
theorem mx_abs {x : Int} (h : -1000000000000000 ≤ x ∧ x ≤ 1000000000000000) : mx x (wrap64 (-x)) = (x.natAbs : Int) := by
  rw [w64 (by omega) (by omega)]; unfold mx; split <;> omega
theorem td {p : Nat} : wrap64 (Int.tdiv 1000000000000000 (p : Int)) = 1000000000000000 / (p : Int) := by
  rw [Int.tdiv_eq_ediv_of_nonneg (by decide)]
  have h1 : (1000000000000000 : Int) / (p : Int) ≤ 1000000000000000 := Int.ediv_le_self _ (by decide)
  have h2 : 0 ≤ (1000000000000000 : Int) / (p : Int) := Int.ediv_nonneg (by decide) (by omega)
  exact w64 (by omega) (by omega)
theorem prod_big {x y : Int} (hy : y ≠ 0) (h : (x.natAbs : Int) > 1000000000000000 / (y.natAbs : Int)) : ¬ (-1000000000000000 ≤ x * y ∧ x * y ≤ 1000000000000000) := by
  have h1 : (1000000000000000 : Int) < (1000000000000000 / (y.natAbs : Int) + 1) * (y.natAbs : Int) := Int.lt_ediv_add_one_mul_self _ (by omega)
  have h2 : (1000000000000000 / (y.natAbs : Int) + 1) * (y.natAbs : Int) ≤ (x.natAbs : Int) * (y.natAbs : Int) := Int.mul_le_mul_of_nonneg_right (by omega) (by omega)
  have h3 : ((x * y).natAbs : Int) = (x.natAbs : Int) * (y.natAbs : Int) := by rw [Int.natAbs_mul]; rfl
  omega
theorem prod_small {x y : Int} (hy : y ≠ 0) (h : ¬ (x.natAbs : Int) > 1000000000000000 / (y.natAbs : Int)) : -1000000000000000 ≤ x * y ∧ x * y ≤ 1000000000000000 := by
  have h1 : (1000000000000000 : Int) / (y.natAbs : Int) * (y.natAbs : Int) ≤ 1000000000000000 := Int.ediv_mul_le _ (by omega)
  have h2 : (x.natAbs : Int) * (y.natAbs : Int) ≤ 1000000000000000 / (y.natAbs : Int) * (y.natAbs : Int) := Int.mul_le_mul_of_nonneg_right (by omega) (by omega)
  have h3 : ((x * y).natAbs : Int) = (x.natAbs : Int) * (y.natAbs : Int) := by rw [Int.natAbs_mul]; rfl
  omega
/-- What Product gives: the product, or a number that is too large. -/
theorem Product_ev (x y : Int) (hx : -1000000000000000 ≤ x ∧ x ≤ 1000000000000000) (hy : -1000000000000000 ≤ y ∧ y ≤ 1000000000000000) : ∃ z, Ev (fun k => value_Product.f k x y) z ∧ num z = num (x * y) := by
  unfold value_Product.f
  have e0 : Ev (fun k => value_Product.j0 k x y true) 0 := Ev.step (f := fun _ => some 0) (fun k => by simp only [value_Product.j0]; rfl) (Ev.now _)
  by_cases h0 : x = 0
  · simp only [if_pos h0]; exact ⟨0, e0, by rw [h0, Int.zero_mul]⟩
  · simp only [if_neg h0]
    by_cases h1 : y = 0
    · have : (y == 0) = true := by simpa using h1
      rw [this]; exact ⟨0, e0, by rw [h1, Int.mul_zero]⟩
    · have : (y == 0) = false := by simpa using h1
      rw [this]
      by_cases hb : (x.natAbs : Int) > 1000000000000000 / (y.natAbs : Int)
      · refine ⟨1000000000000001, Ev.step (f := fun _ => some 1000000000000001) (fun k => ?_) (Ev.now _), ?_⟩
        · simp only [value_Product.j0, mx_abs hx, mx_abs hy, td]
          rw [if_neg (by simp), if_neg (by omega), if_pos hb]
        · rw [num_out (prod_big h1 hb), num_out (by omega)]
      · have hr := prod_small h1 hb
        refine ⟨x * y, Ev.step (f := fun _ => some (x * y)) (fun k => ?_) (Ev.now _), rfl⟩
        simp only [value_Product.j0, mx_abs hx, mx_abs hy, td]
        rw [if_neg (by simp), if_neg (by omega), if_neg hb, w64 (by omega) (by omega)]
theorem Times_ev (a b : Val) (ha : fits a) (hb : fits b) : Ev (fun k => value_Times.f k a.f0 a.f1 a.f2 b.f0 b.f1 b.f2) (numS (· * ·) a b) := by
  unfold value_Times.f
  refine Ev.bind (Of2 2 a b ha hb) ?_
  unfold numS
  by_cases h : ofS 2 a b = 0
  · simp only [if_pos h]
    obtain ⟨ra, rb, ka, kb⟩ := ofS_zero.1 h
    obtain ⟨z, hz, e⟩ := Product_ev a.f1 b.f1 (small ra ka) (small rb kb)
    rw [← e]
    exact Ev.bind hz (Ev.bind (Result_ev a b _) (Ev.now _))
  · simp only [if_neg h]; exact Ev.now _
/-! ### quotients -/
theorem Divided_ev (a b : Val) (ha : fits a) (hb : fits b) : Ev (fun k => value_divided.f k a.f0 a.f1 a.f2 b.f0 b.f1 b.f2)
    (if ofS 2 a b = 0 then (if b.f0 = 2 ∧ b.f1 = 0 then (false, 6) else if a.f0 = 0 ∨ b.f0 = 0 then (true, 0) else (false, 0)) else (false, ofS 2 a b)) := by
  unfold value_divided.f
  refine Ev.bind (Of2 2 a b ha hb) ?_
  by_cases h : ofS 2 a b = 0
  · simp only [if_pos h, kit_Int.f, Option.bind_some, kit_IsNull.f]
    obtain ⟨ra, rb, ka, kb⟩ := ofS_zero.1 h
    by_cases hz : b.f0 = 2 ∧ b.f1 = 0
    · have et : b.f2 = ee := by have := (right2 rb hz.1).1; rw [this]
      rw [if_pos (show (b.f0 == 2 && (b.f1 == 0 && (b.f2.toList == ee.toList))) = true by simp [hz.1, hz.2, et]), if_pos hz]
      exact Ev.now _
    · rw [if_neg (by simp only [Bool.and_eq_true, beq_iff_eq]; exact fun h => hz ⟨h.1, h.2.1⟩), if_neg hz]
      by_cases h0 : a.f0 = 0
      · rw [if_pos (by simpa using h0), if_pos (Or.inl h0)]; exact Ev.now _
      · rw [if_neg (by simpa using h0)]
        by_cases h1 : b.f0 = 0
        · have : (b.f0 == 0) = true := by simpa using h1
          rw [if_pos (Or.inr h1), this]; exact Ev.now _
        · have : (b.f0 == 0) = false := by simpa using h1
          rw [if_neg (fun h => h.elim h0 h1), this]; exact Ev.now _
  · simp only [if_neg h]; exact Ev.now _
theorem div_in {x y : Int} (hx : -1000000000000000 ≤ x ∧ x ≤ 1000000000000000) : -1000000000000000 ≤ x.tdiv y ∧ x.tdiv y ≤ 1000000000000000 := by
  have := Int.natAbs_tdiv_le_natAbs x y; omega
theorem mod_in {x y : Int} (hx : -1000000000000000 ≤ x ∧ x ≤ 1000000000000000) : -1000000000000000 ≤ x.tmod y ∧ x.tmod y ≤ 1000000000000000 := by
  have h : (x.tmod y).natAbs = x.natAbs % y.natAbs := Int.natAbs_tmod x y
  have := Nat.mod_le x.natAbs y.natAbs
  omega
theorem Quotient_ev (a b : Val) (ha : fits a) (hb : fits b) : Ev (fun k => value_Quotient.f k a.f0 a.f1 a.f2 b.f0 b.f1 b.f2) (divS Int.tdiv a b) := by
  unfold value_Quotient.f
  refine Ev.bind (Divided_ev a b ha hb) ?_
  unfold divS
  by_cases h : ofS 2 a b = 0
  · obtain ⟨ra, rb, ka, kb⟩ := ofS_zero.1 h
    by_cases hz : b.f0 = 2 ∧ b.f1 = 0
    · simp only [if_pos h, if_pos hz]; exact Ev.now _
    · by_cases hn : a.f0 = 0 ∨ b.f0 = 0
      · simp only [if_pos h, if_neg hz, if_pos hn]; exact Ev.now _
      · have hy : ¬ b.f1 = 0 := by omega
        have hi := div_in (y := b.f1) (small ra ka)
        simp only [if_pos h, if_neg hz, if_neg hn, if_neg hy, kit_Int.f, Option.bind_some, num_in hi]
        rw [w64 (by omega) (by omega)]
        exact Ev.now _
  · simp only [if_neg h]; exact Ev.now _
theorem Rest_ev (a b : Val) (ha : fits a) (hb : fits b) : Ev (fun k => value_Rest.f k a.f0 a.f1 a.f2 b.f0 b.f1 b.f2) (divS Int.tmod a b) := by
  unfold value_Rest.f
  refine Ev.bind (Divided_ev a b ha hb) ?_
  unfold divS
  by_cases h : ofS 2 a b = 0
  · obtain ⟨ra, rb, ka, kb⟩ := ofS_zero.1 h
    by_cases hz : b.f0 = 2 ∧ b.f1 = 0
    · simp only [if_pos h, if_pos hz]; exact Ev.now _
    · by_cases hn : a.f0 = 0 ∨ b.f0 = 0
      · simp only [if_pos h, if_neg hz, if_pos hn]; exact Ev.now _
      · have hy : ¬ b.f1 = 0 := by omega
        have hi := mod_in (y := b.f1) (small ra ka)
        simp only [if_pos h, if_neg hz, if_neg hn, if_neg hy, kit_Int.f, Option.bind_some, num_in hi]
        exact Ev.now _
  · simp only [if_neg h]; exact Ev.now _
end Go.Proofs.YtokphfhihhdfpaaDoor.Pure
