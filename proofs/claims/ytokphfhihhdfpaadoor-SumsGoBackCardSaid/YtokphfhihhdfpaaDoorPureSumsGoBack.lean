/- The plain law of SumsGoBack. -/
import Derived.Test.YtokphfhihhdfpaaDoorPureS
import Derived.Test.YtokphfhihhdfpaaDoorQxperistylelaw1SumsGoBack
namespace Go.Proofs.YtokphfhihhdfpaaDoor.Pure
open Go.RowKit Go.Proofs.YtokphfhihhdfpaaDoor.Q Go.Proofs.YtokphfhihhdfpaaDoor.Ext Go.Proofs.YtokphfhihhdfpaaDoorW.PrintWords Go.Proofs.YtokphfhihhdfpaaDoorW.PrintLast Go.Proofs.YtokphfhihhdfpaaDoorW.PrintMore
set_option linter.unusedVariables false
set_option linter.unusedSimpArgs false

abbrev Rng (x : Int) : Prop := -1000000000000000 ≤ x ∧ x ≤ 1000000000000000
/-- A right value that is null or a number. -/
theorem right02 {a : Val} (h : cvV a = 0) (h1 : a.f0 = 0 ∨ a.f0 = 2) : a = ⟨0, 0, ee⟩ ∨ ∃ x, Rng x ∧ a = ⟨2, x, ee⟩ := h1.elim (fun h0 => .inl (right0 h h0)) (fun h0 => .inr ⟨a.f1, (right2 h h0).2, (right2 h h0).1⟩)
theorem ofS_nul_num {x : Int} (hx : Rng x) : ofS 2 ⟨0, 0, ee⟩ ⟨2, x, ee⟩ = 0 := ofS_zero.2 ⟨cv_nul, cv_int hx, .inl rfl, .inr rfl⟩
theorem ofS_num_num {x y : Int} (hx : Rng x) (hy : Rng y) : ofS 2 ⟨2, x, ee⟩ ⟨2, y, ee⟩ = 0 := ofS_zero.2 ⟨cv_int hx, cv_int hy, .inr rfl, .inr rfl⟩
theorem ofS_nul_nul : ofS 2 ⟨0, 0, ee⟩ ⟨0, 0, ee⟩ = 0 := ofS_zero.2 ⟨cv_nul, cv_nul, .inl rfl, .inl rfl⟩
theorem ofS_num_nul {x : Int} (hx : Rng x) : ofS 2 ⟨2, x, ee⟩ ⟨0, 0, ee⟩ = 0 := ofS_zero.2 ⟨cv_int hx, cv_nul, .inr rfl, .inl rfl⟩
theorem numS_num (g : Int → Int → Int) {x y : Int} (hx : Rng x) (hy : Rng y) : numS g ⟨2, x, ee⟩ ⟨2, y, ee⟩ = num (g x y) := by
  unfold numS; rw [if_pos (ofS_num_num hx hy), if_neg (show ¬ ((2 : Int) = 0 ∨ (2 : Int) = 0) by decide)]
theorem numS_nul (g : Int → Int → Int) {a b : Val} (h : ofS 2 a b = 0) (hn : a.f0 = 0 ∨ b.f0 = 0) : numS g a b = bad 0 := by
  unfold numS; rw [if_pos h, if_pos hn]
theorem bad_p (f : Int) : (bad f).1 = 0 ∧ (bad f).2.1 = 0 ∧ (bad f).2.2.1 = ee ∧ (bad f).2.2.2 = f := ⟨rfl, rfl, rfl, rfl⟩
/-- The second half: the quotient and the rest. -/
theorem GoBack_j0 (a b : Val) (ha : fits a) (hb : fits b) : Ev (fun k => peristylelaw1_SumsGoBack.j0 k a.f0 a.f1 a.f2 b.f0 b.f1 b.f2) true := by
  refine Ev.step (fun k => by simp only [peristylelaw1_SumsGoBack.j0]; rfl) (Ev.bind (Quotient_ev a b ha hb) (Ev.bind (Rest_ev a b ha hb) ?_))
  have stop : ∀ (x y z : Int) (s : ByteArray) (f : Int), Ev (fun k => peristylelaw1_SumsGoBack.j1 k f f true a.f0 a.f1 a.f2 b.f0 b.f1 b.f2 0 0 ee 0 0 ee) true := fun _ _ _ _ _ =>
    Ev.step (f := fun k => (peristylelaw1_awake.f k).bind fun t => some t) (fun k => by simp only [peristylelaw1_SumsGoBack.j1, if_true]) (Ev.bind Ev_awake (Ev.now _))
  by_cases h : ofS 2 a b = 0
  · obtain ⟨ra, rb, ka, kb⟩ := ofS_zero.1 h
    by_cases hz : b.f0 = 2 ∧ b.f1 = 0
    · have e1 : divS Int.tdiv a b = bad 6 := by unfold divS; rw [if_pos h, if_pos hz]
      have e2 : divS Int.tmod a b = bad 6 := by unfold divS; rw [if_pos h, if_pos hz]
      rw [e1, e2]
      simp only [bad_p, if_neg (show ¬ (6 : Int) = 0 by decide)]
      exact stop 0 0 0 ee 6
    · by_cases hn : a.f0 = 0 ∨ b.f0 = 0
      · have e1 : divS Int.tdiv a b = bad 0 := by unfold divS; rw [if_pos h, if_neg hz, if_pos hn]
        have e2 : divS Int.tmod a b = bad 0 := by unfold divS; rw [if_pos h, if_neg hz, if_pos hn]
        rw [e1, e2]
        have e3 : ((0 : Int) != 0) = false := rfl
        simp only [bad_p, if_true, e3]
        have hq : ofS 2 ⟨0, 0, ee⟩ b = 0 := ofS_zero.2 ⟨cv_nul, rb, .inl rfl, kb⟩
        refine Ev.step (fun k => by simp only [peristylelaw1_SumsGoBack.j1, Bool.false_eq_true, if_false]; rfl) (Ev.bind (Times_ev ⟨0, 0, ee⟩ b (fits_ee _ _) hb) ?_)
        rw [numS_nul _ hq (.inl rfl)]
        simp only [bad_p]
        refine Ev.bind (Plus_ev ⟨0, 0, ee⟩ ⟨0, 0, ee⟩ (fits_ee _ _) (fits_ee _ _)) ?_
        rw [numS_nul _ ofS_nul_nul (.inl rfl)]
        simp only [bad_p, if_true]
        by_cases b0 : b.f0 = 0
        · simp only [if_pos b0]; exact Ev.bind Ev_awake (Ev.now _)
        · have a0 : a.f0 = 0 := hn.resolve_right b0
          simp only [if_neg b0]
          have ea := right0 ra a0
          subst ea
          simp only [beq_self_eq_true, Bool.and_self, if_true]
          exact Ev.bind Ev_awake (Ev.now _)
      · obtain ⟨x, hx, rfl⟩ := (right02 ra ka).resolve_left (fun h => hn (.inl (by rw [h])))
        obtain ⟨y, hy, rfl⟩ := (right02 rb kb).resolve_left (fun h => hn (.inr (by rw [h])))
        have y0 : y ≠ 0 := fun h => hz ⟨rfl, h⟩
        have e1 : divS Int.tdiv ⟨2, x, ee⟩ ⟨2, y, ee⟩ = (2, x.tdiv y, ee, 0) := by
          unfold divS; rw [if_pos h, if_neg hz, if_neg hn]; exact num_in (div_in hx)
        have e2 : divS Int.tmod ⟨2, x, ee⟩ ⟨2, y, ee⟩ = (2, x.tmod y, ee, 0) := by
          unfold divS; rw [if_pos h, if_neg hz, if_neg hn]; exact num_in (mod_in hx)
        rw [e1, e2]
        have e3 : ((0 : Int) != 0) = false := rfl
        simp only [if_true, e3]
        refine Ev.step (fun k => by simp only [peristylelaw1_SumsGoBack.j1, Bool.false_eq_true, if_false]; rfl) (Ev.bind (Times_ev ⟨2, x.tdiv y, ee⟩ ⟨2, y, ee⟩ (fits_ee _ _) hb) ?_)
        rw [numS_num _ (div_in hx) hy]
        have hsum : x.tdiv y * y + x.tmod y = x := by have := Int.tdiv_mul_add_tmod x y; omega
        have hp : Rng (x.tdiv y * y) := by
          have h1 : (x.tmod y).natAbs = x.natAbs % y.natAbs := Int.natAbs_tmod x y
          have h2 : (x.tdiv y).natAbs = x.natAbs / y.natAbs := Int.natAbs_tdiv x y
          have h3 : (x.tdiv y * y).natAbs = x.natAbs / y.natAbs * y.natAbs := by rw [Int.natAbs_mul, h2]
          have h4 := Nat.div_mul_le_self x.natAbs y.natAbs
          have h5 := hx
          unfold Rng at h5 ⊢
          omega
        rw [num_in hp]
        simp only
        refine Ev.bind (Plus_ev ⟨2, x.tdiv y * y, ee⟩ ⟨2, x.tmod y, ee⟩ (fits_ee _ _) (fits_ee _ _)) ?_
        rw [numS_num _ hp (mod_in hx), hsum, num_in hx]
        simp only [beq_self_eq_true, Bool.and_self, if_true, if_neg (show ¬ (2 : Int) = 0 by decide)]
        exact Ev.bind Ev_awake (Ev.now _)
  · have e1 : divS Int.tdiv a b = bad (ofS 2 a b) := if_neg h
    have e2 : divS Int.tmod a b = bad (ofS 2 a b) := if_neg h
    rw [e1, e2]
    simp only [bad_p, if_neg h]
    exact stop 0 0 0 ee _
theorem SumsGoBack (a b : Val) (ha : Opn.PValue a) (hb : Opn.PValue b) : Ev (fun k => peristylelaw1_SumsGoBack.f k a.f0 a.f1 a.f2 b.f0 b.f1 b.f2) true := by
  have fa : fits a := ha.2.2
  have fb : fits b := hb.2.2
  have j0 := GoBack_j0 a b fa fb
  unfold peristylelaw1_SumsGoBack.f
  refine Ev.bind (Plus_ev a b fa fb) ?_
  by_cases h : ofS 2 a b = 0
  · obtain ⟨ra, rb, ka, kb⟩ := ofS_zero.1 h
    by_cases hn : a.f0 = 0 ∨ b.f0 = 0
    · have hq : ofS 2 ⟨0, 0, ee⟩ b = 0 := ofS_zero.2 ⟨cv_nul, rb, .inl rfl, kb⟩
      rw [numS_nul _ h hn]
      simp only [bad_p, if_true]
      refine Ev.bind (Minus_ev ⟨0, 0, ee⟩ b (fits_ee _ _) fb) ?_
      rw [numS_nul _ hq (.inl rfl)]
      simp only [bad_p, if_true]
      by_cases b2 : b.f0 = 2
      · have a0 : a.f0 = 0 := hn.resolve_right (by omega)
        simp only [if_pos b2]
        have ea := right0 ra a0
        subst ea
        simp only [beq_self_eq_true, Bool.not_true, Bool.or_self, Bool.false_eq_true, if_false]
        exact j0
      · simp only [if_neg b2]; exact j0
    · obtain ⟨x, hx, rfl⟩ := (right02 ra ka).resolve_left (fun h => hn (.inl (by rw [h])))
      obtain ⟨y, hy, rfl⟩ := (right02 rb kb).resolve_left (fun h => hn (.inr (by rw [h])))
      rw [numS_num _ hx hy]
      by_cases hs : Rng (x + y)
      · rw [num_in hs]
        simp only [if_true]
        refine Ev.bind (Minus_ev ⟨2, x + y, ee⟩ ⟨2, y, ee⟩ (fits_ee _ _) fb) ?_
        rw [numS_num _ hs hy, show x + y - y = x by omega, num_in hx]
        simp only [if_true, beq_self_eq_true, Bool.not_true, Bool.or_self, Bool.false_eq_true, if_false]
        exact j0
      · rw [num_out hs]
        simp only [bad_p, if_neg (show ¬ (1 : Int) = 0 by decide)]
        exact j0
  · have e1 : numS (· + ·) a b = bad (ofS 2 a b) := if_neg h
    rw [e1]
    simp only [bad_p, if_neg h]
    exact j0
end Go.Proofs.YtokphfhihhdfpaaDoor.Pure
