/- Plain laws, part B: what check comes to; right values. -/
import Derived.Test.YtokphfhihhdfpaaDoorPureA
import Derived.Test.YtokphfhihhdfpaaDoorOpen
namespace Go.Proofs.YtokphfhihhdfpaaDoor.Pure
open Go.RowKit Go.Proofs.YtokphfhihhdfpaaDoor.Q Go.Proofs.YtokphfhihhdfpaaDoor.Ext Go.Proofs.YtokphfhihhdfpaaDoorW.PrintWords Go.Proofs.YtokphfhihhdfpaaDoorW.PrintLast Go.Proofs.YtokphfhihhdfpaaDoorW.PrintMore
set_option linter.unusedVariables false
set_option linter.unusedSimpArgs false

/-! ### what the functions come to -/
abbrev fits (a : Val) : Prop := a.f2.size ≤ 9223372036854775807
abbrev cvV (a : Val) : Int := cv a.f0 a.f1 a.f2
theorem Check_nil (l : List Val) : Ev (fun k => value_check.l0 k l (l.length : Int) (l.length : Int)) 0 := by
  refine Ev.step (f := fun _ => some 0) (fun k => ?_) (Ev.now _)
  simp only [value_check.l0]
  rw [if_neg (by omega)]
theorem Check_step (l : List Val) (i : Nat) (hi : i < l.length) (hl : l.length ≤ 100) (hf : fits (valAt l i)) (r : Int) (h : cvV (valAt l i) = 0 → Ev (fun k => value_check.l0 k l (l.length : Int) ((i + 1 : Nat) : Int)) r) :
    Ev (fun k => value_check.l0 k l (l.length : Int) (i : Int)) (if cvV (valAt l i) = 0 then r else cvV (valAt l i)) := by
  refine Ev.step (f := fun k => (value_CheckValue.f k (valAt l i).f0 (valAt l i).f1 (valAt l i).f2).bind fun t => if t = 0 then value_check.l0 k l (l.length : Int) ((i + 1 : Nat) : Int) else some t) (fun k => ?_) ?_
  · simp only [value_check.l0]
    rw [if_pos (by omega), if_pos (by omega), if_pos (by omega), w64s hi (by omega)]
  · refine Ev.bind (CV _ _ _ hf) ?_
    by_cases h0 : cvV (valAt l i) = 0
    · rw [if_pos h0]; unfold cvV at h0; simp only [if_pos h0]; exact h h0
    · rw [if_neg h0]; unfold cvV at h0; simp only [if_neg h0]; exact Ev.now _
theorem Check1 (a : Val) (ha : fits a) : Ev (fun k => value_check.f k [a]) (cvV a) := by
  unfold value_check.f
  have h := Check_step [a] 0 (by simp) (by simp) ha 0 (fun _ => Check_nil [a])
  have e : (if cvV (valAt [a] 0) = 0 then (0 : Int) else cvV (valAt [a] 0)) = cvV a := by
    show (if cvV a = 0 then (0 : Int) else cvV a) = cvV a
    split
    · omega
    · rfl
  rw [e] at h
  exact h
/-- What is wrong with two values, one after the other. -/
def cv2 (a b : Val) : Int := if cvV a = 0 then cvV b else cvV a
theorem Check2 (a b : Val) (ha : fits a) (hb : fits b) : Ev (fun k => value_check.f k [a, b]) (cv2 a b) := by
  unfold value_check.f
  have h := Check_step [a, b] 0 (by simp) (by simp) ha (if cvV b = 0 then 0 else cvV b) (fun _ => Check_step [a, b] 1 (by simp) (by simp) hb 0 (fun _ => Check_nil [a, b]))
  have e : (if cvV (valAt [a, b] 0) = 0 then (if cvV b = 0 then 0 else cvV b) else cvV (valAt [a, b] 0)) = cv2 a b := by
    show (if cvV a = 0 then (if cvV b = 0 then 0 else cvV b) else cvV a) = cv2 a b
    unfold cv2
    by_cases h : cvV a = 0
    · rw [if_pos h, if_pos h]
      by_cases h' : cvV b = 0
      · rw [if_pos h', h']
      · rw [if_neg h']
    · rw [if_neg h, if_neg h]
  rw [e] at h
  exact h
/-- A right value: the fields that its kind does not have are zero. -/
theorem right_value {a : Val} (h : cvV a = 0) : (a.f0 = 0 ∧ a.f1 = 0 ∧ a.f2.toList = []) ∨ (a.f0 = 1 ∧ 0 ≤ a.f1 ∧ a.f1 ≤ 1 ∧ a.f2.toList = []) ∨ (a.f0 = 2 ∧ -1000000000000000 ≤ a.f1 ∧ a.f1 ≤ 1000000000000000 ∧ a.f2.toList = []) ∨
    (a.f0 = 3 ∧ a.f1 = 0 ∧ a.f2.size ≤ 200 ∧ ∀ i, i < a.f2.size → 32 ≤ bt a.f2 i ∧ bt a.f2 i ≤ 126) := by
  unfold cvV cv at h
  by_cases h0 : a.f0 = 0
  · rw [if_pos h0] at h
    split at h
    · rename_i hh; exact .inl ⟨h0, hh⟩
    · omega
  rw [if_neg h0] at h
  by_cases h1 : a.f0 = 1
  · rw [if_pos h1] at h
    split at h
    · split at h
      · rename_i hh hr; exact .inr (.inl ⟨h1, hr.1, hr.2, hh⟩)
      · omega
    · omega
  rw [if_neg h1] at h
  by_cases h2 : a.f0 = 2
  · rw [if_pos h2] at h
    split at h
    · split at h
      · rename_i hh hr; exact .inr (.inr (.inl ⟨h2, hr.1, hr.2, hh⟩))
      · omega
    · omega
  rw [if_neg h2] at h
  by_cases h3 : a.f0 = 3
  · rw [if_pos h3] at h
    split at h
    · rename_i hn
      split at h
      · omega
      · rename_i hl
        refine .inr (.inr (.inr ⟨h3, hn, by omega, fun i hi => ?_⟩))
        have := scan_fin (t := okB a.f2) (fin := 0) (fun j e => by unfold okB at e; split at e <;> cases e) a.f2.size 0 h i (by omega) (by omega)
        unfold okB at this
        split at this
        · assumption
        · cases this
    · omega
  · rw [if_neg h3] at h; omega
theorem cv2_zero {a b : Val} : cv2 a b = 0 ↔ cvV a = 0 ∧ cvV b = 0 := by
  unfold cv2
  split
  · exact ⟨fun h => ⟨by assumption, h⟩, fun h => h.2⟩
  · exact ⟨fun h => absurd h (by assumption), fun h => absurd h.1 (by assumption)⟩
end Go.Proofs.YtokphfhihhdfpaaDoor.Pure
