/- The plain law of LogicTurnsRound. -/
import Derived.Test.YtokphfhihhdfpaaDoorPureL
import Derived.Test.YtokphfhihhdfpaaDoorQxperistylelaw1LogicTurnsRound
namespace Go.Proofs.YtokphfhihhdfpaaDoor.Pure
open Go.RowKit Go.Proofs.YtokphfhihhdfpaaDoor.Q Go.Proofs.YtokphfhihhdfpaaDoor.Ext Go.Proofs.YtokphfhihhdfpaaDoorW.PrintWords Go.Proofs.YtokphfhihhdfpaaDoorW.PrintLast Go.Proofs.YtokphfhihhdfpaaDoorW.PrintMore
set_option linter.unusedVariables false
set_option linter.unusedSimpArgs false

theorem right_cv {a : Val} (h : a = ⟨0, 0, ee⟩ ∨ a = ⟨1, 0, ee⟩ ∨ a = ⟨1, 1, ee⟩) : cvV a = 0 ∧ (a.f0 = 0 ∨ a.f0 = 1) := by
  rcases h with rfl | rfl | rfl
  · exact ⟨cv_nul, .inl rfl⟩
  · exact ⟨cv_bool (by omega), .inr rfl⟩
  · exact ⟨cv_bool (by omega), .inr rfl⟩
abbrev asV (r : Res) : Val := ⟨r.1, r.2.1, r.2.2.1⟩
theorem and_neg (a b : Val) (h : ofS 1 a b ≠ 0) : andS a b = bad (ofS 1 a b) := if_neg h
theorem LogicTurnsRound (a b : Val) (ha : Opn.PValue a) (hb : Opn.PValue b) : Ev (fun k => peristylelaw1_LogicTurnsRound.f k a.f0 a.f1 a.f2 b.f0 b.f1 b.f2) true := by
  unfold peristylelaw1_LogicTurnsRound.f
  refine Ev.bind (And_ev a b ha.2.2 hb.2.2) ?_
  by_cases h : ofS 1 a b = 0
  · obtain ⟨ra, rb, ka, kb⟩ := ofS_zero.1 h
    have h' : ofS 1 b a = 0 := ofS_zero.2 ⟨rb, ra, kb, ka⟩
    have h1 : ofS1 1 a = 0 := ofS1_zero.2 ⟨ra, ka⟩
    have h2 : ofS1 1 b = 0 := ofS1_zero.2 ⟨rb, kb⟩
    have eA : (andS a b).2.2.2 = 0 := by unfold andS; rw [if_pos h]; unfold tv bad; split <;> first | rfl | (split <;> rfl)
    simp only [if_pos eA]
    refine Ev.bind (And_ev b a hb.2.2 ha.2.2) (Ev.bind (Not_ev a ha.2.2) (Ev.bind (Not_ev b hb.2.2) ?_))
    have nA : notS a = (if a.f0 = 0 then bad 0 else tv (a.f1 == 0)) := if_pos h1
    have nB : notS b = (if b.f0 = 0 then bad 0 else tv (b.f1 == 0)) := if_pos h2
    have aAB : andS a b = (if (a.f0 = 1 ∧ a.f1 = 0) ∨ (b.f0 = 1 ∧ b.f1 = 0) then tv false else if a.f0 = 0 ∨ b.f0 = 0 then bad 0 else tv true) := if_pos h
    have aBA : andS b a = (if (b.f0 = 1 ∧ b.f1 = 0) ∨ (a.f0 = 1 ∧ a.f1 = 0) then tv false else if b.f0 = 0 ∨ a.f0 = 0 then bad 0 else tv true) := if_pos h'
    rw [nA, nB, aAB, aBA]
    clear nA nB aAB aBA eA h h' h1 h2 ha hb
    have orr : ∀ x y : Val, (x = ⟨0, 0, ee⟩ ∨ x = ⟨1, 0, ee⟩ ∨ x = ⟨1, 1, ee⟩) → (y = ⟨0, 0, ee⟩ ∨ y = ⟨1, 0, ee⟩ ∨ y = ⟨1, 1, ee⟩) → Ev (fun k => value_Or.f k x.f0 x.f1 x.f2 y.f0 y.f1 y.f2) (if (x.f0 = 1 ∧ x.f1 = 1) ∨ (y.f0 = 1 ∧ y.f1 = 1) then tv true else if x.f0 = 0 ∨ y.f0 = 0 then bad 0 else tv false) := by
      intro x y hx hy
      have hh := Or_ev x y (by rcases hx with rfl | rfl | rfl <;> exact fits_ee _ _) (by rcases hy with rfl | rfl | rfl <;> exact fits_ee _ _)
      unfold orS at hh
      rwa [if_pos (ofS_zero.2 ⟨(right_cv hx).1, (right_cv hy).1, (right_cv hx).2, (right_cv hy).2⟩)] at hh
    have nott : ∀ x : Val, (x = ⟨0, 0, ee⟩ ∨ x = ⟨1, 0, ee⟩ ∨ x = ⟨1, 1, ee⟩) → Ev (fun k => value_Not.f k x.f0 x.f1 x.f2) (if x.f0 = 0 then bad 0 else tv (x.f1 == 0)) := by
      intro x hx
      have hh := Not_ev x (by rcases hx with rfl | rfl | rfl <;> exact fits_ee _ _)
      unfold notS at hh
      rwa [if_pos (ofS1_zero.2 (right_cv hx))] at hh
    rcases right01 ra ka with rfl | rfl | rfl <;> rcases right01 rb kb with rfl | rfl | rfl
    all_goals
      clear ra rb ka kb
      simp [tv, bad]
      first
        | refine Ev.bind (orr ⟨0, 0, ee⟩ ⟨0, 0, ee⟩ (by simp) (by simp)) ?_
        | refine Ev.bind (orr ⟨0, 0, ee⟩ ⟨1, 0, ee⟩ (by simp) (by simp)) ?_
        | refine Ev.bind (orr ⟨0, 0, ee⟩ ⟨1, 1, ee⟩ (by simp) (by simp)) ?_
        | refine Ev.bind (orr ⟨1, 0, ee⟩ ⟨0, 0, ee⟩ (by simp) (by simp)) ?_
        | refine Ev.bind (orr ⟨1, 0, ee⟩ ⟨1, 0, ee⟩ (by simp) (by simp)) ?_
        | refine Ev.bind (orr ⟨1, 0, ee⟩ ⟨1, 1, ee⟩ (by simp) (by simp)) ?_
        | refine Ev.bind (orr ⟨1, 1, ee⟩ ⟨0, 0, ee⟩ (by simp) (by simp)) ?_
        | refine Ev.bind (orr ⟨1, 1, ee⟩ ⟨1, 0, ee⟩ (by simp) (by simp)) ?_
        | refine Ev.bind (orr ⟨1, 1, ee⟩ ⟨1, 1, ee⟩ (by simp) (by simp)) ?_
      simp [tv, bad]
      first
        | refine Ev.bind (nott ⟨0, 0, ee⟩ (by simp)) ?_
        | refine Ev.bind (nott ⟨1, 0, ee⟩ (by simp)) ?_
        | refine Ev.bind (nott ⟨1, 1, ee⟩ (by simp)) ?_
      simp [tv, bad, Ev_awake]
  · have e : andS a b = bad (ofS 1 a b) := if_neg h
    rw [e]
    unfold bad
    simp only [if_neg h, ee_tl]
    exact Ev.bind Ev_awake (Ev.now _)
end Go.Proofs.YtokphfhihhdfpaaDoor.Pure
