/- Plain laws, part L: And, Or, Not of the program and of the reference. -/
import Derived.Test.YtokphfhihhdfpaaDoorPureC
import Derived.Test.YtokphfhihhdfpaaDoorQxAndOrNot
namespace Go.Proofs.YtokphfhihhdfpaaDoor.Pure
open Go.RowKit Go.Proofs.YtokphfhihhdfpaaDoor.Q Go.Proofs.YtokphfhihhdfpaaDoor.Ext Go.Proofs.YtokphfhihhdfpaaDoorW.PrintWords Go.Proofs.YtokphfhihhdfpaaDoorW.PrintLast Go.Proofs.YtokphfhihhdfpaaDoorW.PrintMore
set_option linter.unusedVariables false
set_option linter.unusedSimpArgs false

def andS (a b : Val) : Res := if ofS 1 a b = 0 then (if (a.f0 = 1 ∧ a.f1 = 0) ∨ (b.f0 = 1 ∧ b.f1 = 0) then tv false else if a.f0 = 0 ∨ b.f0 = 0 then bad 0 else tv true) else bad (ofS 1 a b)
def orS (a b : Val) : Res := if ofS 1 a b = 0 then (if (a.f0 = 1 ∧ a.f1 = 1) ∨ (b.f0 = 1 ∧ b.f1 = 1) then tv true else if a.f0 = 0 ∨ b.f0 = 0 then bad 0 else tv false) else bad (ofS 1 a b)
def notS (a : Val) : Res := if ofS1 1 a = 0 then (if a.f0 = 0 then bad 0 else tv (a.f1 == 0)) else bad (ofS1 1 a)
theorem right01 {a : Val} (h : cvV a = 0) (h1 : a.f0 = 0 ∨ a.f0 = 1) : a = ⟨0, 0, ee⟩ ∨ a = ⟨1, 0, ee⟩ ∨ a = ⟨1, 1, ee⟩ := h1.elim (fun h0 => .inl (right0 h h0)) (fun h0 => .inr (right1 h h0))
theorem And_ev (a b : Val) (ha : fits a) (hb : fits b) : Ev (fun k => value_And.f k a.f0 a.f1 a.f2 b.f0 b.f1 b.f2) (andS a b) := by
  unfold value_And.f
  refine Ev.bind (Of2 1 a b ha hb) ?_
  unfold andS
  by_cases h : ofS 1 a b = 0
  · simp only [if_pos h]
    obtain ⟨ra, rb, ka, kb⟩ := ofS_zero.1 h
    clear h ha hb
    rcases right01 ra ka with rfl | rfl | rfl <;> rcases right01 rb kb with rfl | rfl | rfl <;> refine Ev.step (f := fun _ => some _) (fun k => ?_) (Ev.now _) <;> simp [value_And.j0, kit_Bool.f, kit_IsNull.f, ee_tl, tv, bad]
  · simp only [if_neg h]; exact Ev.now _
theorem Or_ev (a b : Val) (ha : fits a) (hb : fits b) : Ev (fun k => value_Or.f k a.f0 a.f1 a.f2 b.f0 b.f1 b.f2) (orS a b) := by
  unfold value_Or.f
  refine Ev.bind (Of2 1 a b ha hb) ?_
  unfold orS
  by_cases h : ofS 1 a b = 0
  · simp only [if_pos h]
    obtain ⟨ra, rb, ka, kb⟩ := ofS_zero.1 h
    clear h ha hb
    rcases right01 ra ka with rfl | rfl | rfl <;> rcases right01 rb kb with rfl | rfl | rfl <;> refine Ev.step (f := fun _ => some _) (fun k => ?_) (Ev.now _) <;> simp [value_Or.j0, kit_Bool.f, kit_IsNull.f, kit_True.f, ee_tl, tv, bad]
  · simp only [if_neg h]; exact Ev.now _
theorem Not_ev (a : Val) (ha : fits a) : Ev (fun k => value_Not.f k a.f0 a.f1 a.f2) (notS a) := by
  unfold value_Not.f
  refine Ev.bind (Of1 1 a ha) ?_
  unfold notS
  by_cases h : ofS1 1 a = 0
  · simp only [if_pos h]
    obtain ⟨ra, ka⟩ := ofS1_zero.1 h
    clear h ha
    rcases right01 ra ka with rfl | rfl | rfl <;> refine Ev.step (f := fun _ => some _) (fun k => ?_) (Ev.now _) <;> simp [kit_Bool.f, kit_IsNull.f, ee_tl, tv, bad]
  · simp only [if_neg h]; exact Ev.now _
end Go.Proofs.YtokphfhihhdfpaaDoor.Pure
