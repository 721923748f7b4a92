/- Plain laws, part C: results (a value and a fault), right values taken apart, what value.of and the reference's checks come to. -/
import Derived.Test.YtokphfhihhdfpaaDoorPureB
import Derived.Test.YtokphfhihhdfpaaDoorQxOfResult
import Derived.Test.YtokphfhihhdfpaaDoorQxRefA
namespace Go.Proofs.YtokphfhihhdfpaaDoor.Pure
open Go.RowKit Go.Proofs.YtokphfhihhdfpaaDoor.Q Go.Proofs.YtokphfhihhdfpaaDoor.Ext Go.Proofs.YtokphfhihhdfpaaDoorW.PrintWords Go.Proofs.YtokphfhihhdfpaaDoorW.PrintLast Go.Proofs.YtokphfhihhdfpaaDoorW.PrintMore
set_option linter.unusedVariables false
set_option linter.unusedSimpArgs false

abbrev ee : ByteArray := ⟨#[]⟩
theorem ee_tl : ee.toList = [] := by rw [Lib.toList_data]
theorem tl_inj {s t : ByteArray} (h : s.toList = t.toList) : s = t := by
  rw [Lib.toList_data, Lib.toList_data] at h
  cases s; cases t; congr 1; exact Array.toList_inj.1 h
theorem tl_nil {s : ByteArray} (h : s.toList = []) : s = ee := tl_inj (h.trans ee_tl.symm)
/-- A value and a fault, as the functions give them. -/
abbrev Res := Int × Int × ByteArray × Int
def bad (f : Int) : Res := (0, 0, ee, f)
def tv (b : Bool) : Res := (1, if b then 1 else 0, ee, 0)
def num (x : Int) : Res := if -1000000000000000 ≤ x ∧ x ≤ 1000000000000000 then (2, x, ee, 0) else bad 1
/-- What is wrong with a value, if it is to be null or of a kind. -/
def of1 (t : Int) (a : Val) : Int := if a.f0 = 0 ∨ a.f0 = t then 0 else 10
def ofS (t : Int) (a b : Val) : Int := if cv2 a b = 0 then (if of1 t a = 0 then of1 t b else 10) else cv2 a b
def ofS1 (t : Int) (a : Val) : Int := if cvV a = 0 then of1 t a else cvV a
theorem of1_zero {t : Int} {a : Val} : of1 t a = 0 ↔ a.f0 = 0 ∨ a.f0 = t := by
  unfold of1
  split
  · exact ⟨fun _ => by assumption, fun _ => rfl⟩
  · exact ⟨fun h => by omega, fun h => absurd h (by assumption)⟩
theorem ofS_zero {t : Int} {a b : Val} : ofS t a b = 0 ↔ cvV a = 0 ∧ cvV b = 0 ∧ (a.f0 = 0 ∨ a.f0 = t) ∧ (b.f0 = 0 ∨ b.f0 = t) := by
  unfold ofS
  by_cases h : cv2 a b = 0
  · rw [if_pos h]
    have hh := cv2_zero.1 h
    by_cases h1 : of1 t a = 0
    · rw [if_pos h1]; exact ⟨fun k => ⟨hh.1, hh.2, of1_zero.1 h1, of1_zero.1 k⟩, fun k => of1_zero.2 k.2.2.2⟩
    · rw [if_neg h1]; exact ⟨fun k => by omega, fun k => absurd (of1_zero.2 k.2.2.1) h1⟩
  · rw [if_neg h]; exact ⟨fun k => absurd k h, fun k => absurd (cv2_zero.2 ⟨k.1, k.2.1⟩) h⟩
theorem ofS1_zero {t : Int} {a : Val} : ofS1 t a = 0 ↔ cvV a = 0 ∧ (a.f0 = 0 ∨ a.f0 = t) := by
  unfold ofS1
  by_cases h : cvV a = 0
  · rw [if_pos h]; exact ⟨fun k => ⟨h, of1_zero.1 k⟩, fun k => of1_zero.2 k.2⟩
  · rw [if_neg h]; exact ⟨fun k => absurd k h, fun k => absurd k.1 h⟩
theorem of_ne {t : Int} {a b : Val} (h : ofS t a b ≠ 0) (hc : cv2 a b = 0) : ofS t a b = 10 := by
  unfold ofS at h ⊢
  rw [if_pos hc] at h ⊢
  by_cases h1 : of1 t a = 0
  · rw [if_pos h1] at h ⊢
    unfold of1 at h ⊢
    split
    · rename_i h2; rw [if_pos h2] at h; exact absurd rfl h
    · rfl
  · rw [if_neg h1]

theorem Of_nil (t : Int) (l : List Val) : Ev (fun k => value_of.l0 k t l (l.length : Int) (l.length : Int)) 0 := by
  refine Ev.step (f := fun _ => some 0) (fun k => ?_) (Ev.now _)
  simp only [value_of.l0]
  rw [if_neg (by omega)]
theorem Of_step (t : Int) (l : List Val) (i : Nat) (hi : i < l.length) (hl : l.length ≤ 100) (r : Int) (h : Ev (fun k => value_of.l0 k t l (l.length : Int) ((i + 1 : Nat) : Int)) r) :
    Ev (fun k => value_of.l0 k t l (l.length : Int) (i : Int)) (if of1 t (valAt l i) = 0 then r else 10) := by
  have e : valAt l i = rd_T23 l (i : Int) := rfl
  by_cases h0 : (valAt l i).f0 = 0
  · rw [if_pos (of1_zero.2 (.inl h0))]
    refine Ev.step (fun k => ?_) h
    simp only [value_of.l0]
    rw [if_pos (by omega), if_pos (by omega), if_pos (by omega), w64s hi (by omega), ← e]
    simp only [kit_IsNull.f, Option.bind_some, h0]; rfl
  · by_cases h1 : (valAt l i).f0 = t
    · rw [if_pos (of1_zero.2 (.inr h1))]
      refine Ev.step (fun k => ?_) h
      simp only [value_of.l0]
      rw [if_pos (by omega), if_pos (by omega), if_pos (by omega), w64s hi (by omega), ← e]
      simp only [kit_IsNull.f, Option.bind_some]
      rw [if_neg (by simpa using h0), if_pos h1]
    · rw [if_neg (fun h => (of1_zero.1 h).elim h0 h1)]
      refine Ev.step (f := fun _ => some 10) (fun k => ?_) (Ev.now _)
      simp only [value_of.l0]
      rw [if_pos (by omega), if_pos (by omega), if_pos (by omega), ← e]
      simp only [kit_IsNull.f, Option.bind_some]
      rw [if_neg (by simpa using h0), if_neg h1]
theorem Of2 (t : Int) (a b : Val) (ha : fits a) (hb : fits b) : Ev (fun k => value_of.f k t [a, b]) (ofS t a b) := by
  unfold value_of.f
  refine Ev.bind (Check2 a b ha hb) ?_
  unfold ofS
  by_cases h : cv2 a b = 0
  · simp only [if_pos h]
    have h2 := Of_step t [a, b] 0 (by simp) (by simp) _ (Of_step t [a, b] 1 (by simp) (by simp) 0 (Of_nil t [a, b]))
    have e : (if of1 t (valAt [a, b] 1) = 0 then (0 : Int) else 10) = of1 t b := by
      show (if of1 t b = 0 then (0 : Int) else 10) = of1 t b
      by_cases h : of1 t b = 0
      · rw [if_pos h, h]
      · rw [if_neg h]; unfold of1 at h ⊢; split
        · rename_i k; rw [if_pos k] at h; exact absurd rfl h
        · rfl
    rw [e] at h2
    exact h2
  · simp only [if_neg h]; exact Ev.now _
theorem Of1 (t : Int) (a : Val) (ha : fits a) : Ev (fun k => value_of.f k t [a]) (ofS1 t a) := by
  unfold value_of.f
  refine Ev.bind (Check1 a ha) ?_
  unfold ofS1
  by_cases h : cvV a = 0
  · simp only [if_pos h]
    have h2 := Of_step t [a] 0 (by simp) (by simp) 0 (Of_nil t [a])
    have e : (if of1 t (valAt [a] 0) = 0 then (0 : Int) else 10) = of1 t a := by
      show (if of1 t a = 0 then (0 : Int) else 10) = of1 t a
      by_cases h : of1 t a = 0
      · rw [if_pos h, h]
      · rw [if_neg h]; unfold of1 at h ⊢; split
        · rename_i k; rw [if_pos k] at h; exact absurd rfl h
        · rfl
    rw [e] at h2
    exact h2
  · simp only [if_neg h]; exact Ev.now _
theorem Checks_ev (a b : Val) (ha : fits a) (hb : fits b) : Ev (fun k => peristyleref1_checks.f k a.f0 a.f1 a.f2 b.f0 b.f1 b.f2) (cv2 a b) := by
  unfold peristyleref1_checks.f
  refine Ev.bind (CVr _ _ _ ha) ?_
  unfold cv2
  by_cases h : cvV a = 0
  · rw [if_pos h]; unfold cvV at h; simp only [if_pos h]; exact Ev.bind (CVr _ _ _ hb) (Ev.now _)
  · rw [if_neg h]; unfold cvV at h; simp only [if_neg h]; exact Ev.now _

/-! ### right values, one by one -/
theorem right0 {a : Val} (h : cvV a = 0) (h0 : a.f0 = 0) : a = ⟨0, 0, ee⟩ := by
  rcases right_value h with ⟨_, h1, h2⟩ | h | h | h
  · cases a; simp only at h0 h1 h2; rw [h0, h1, tl_nil h2]
  all_goals omega
theorem right1 {a : Val} (h : cvV a = 0) (h0 : a.f0 = 1) : a = ⟨1, 0, ee⟩ ∨ a = ⟨1, 1, ee⟩ := by
  rcases right_value h with h | ⟨_, h1, h3, h2⟩ | h | h
  · omega
  · rcases (show a.f1 = 0 ∨ a.f1 = 1 by omega) with e | e <;> cases a <;> simp only at h0 h1 h2 h3 e
    · exact .inl (by rw [h0, e, tl_nil h2])
    · exact .inr (by rw [h0, e, tl_nil h2])
  all_goals omega
theorem right2 {a : Val} (h : cvV a = 0) (h0 : a.f0 = 2) : a = ⟨2, a.f1, ee⟩ ∧ -1000000000000000 ≤ a.f1 ∧ a.f1 ≤ 1000000000000000 := by
  rcases right_value h with h | h | ⟨_, h1, h3, h2⟩ | h
  · omega
  · omega
  · refine ⟨?_, h1, h3⟩
    cases a; simp only at h0 h2; rw [h0, tl_nil h2]
  · omega
theorem right3 {a : Val} (h : cvV a = 0) (h0 : a.f0 = 3) : a = ⟨3, 0, a.f2⟩ ∧ a.f2.size ≤ 200 ∧ ∀ i, i < a.f2.size → 32 ≤ bt a.f2 i ∧ bt a.f2 i ≤ 126 := by
  rcases right_value h with h | h | h | ⟨_, h1, h3, h2⟩
  · omega
  · omega
  · omega
  · refine ⟨?_, h3, h2⟩
    cases a; simp only at h0 h1; rw [h0, h1]
theorem kind_of {a : Val} (h : cvV a = 0) : a.f0 = 0 ∨ a.f0 = 1 ∨ a.f0 = 2 ∨ a.f0 = 3 := by
  rcases right_value h with h | h | h | h
  · exact .inl h.1
  · exact .inr (.inl h.1)
  · exact .inr (.inr (.inl h.1))
  · exact .inr (.inr (.inr h.1))
theorem cv_nul : cvV ⟨0, 0, ee⟩ = 0 := by unfold cvV cv; simp [ee_tl]
theorem cv_bool {x : Int} (h : 0 ≤ x ∧ x ≤ 1) : cvV ⟨1, x, ee⟩ = 0 := by unfold cvV cv; simp [ee_tl, h]
theorem cv_int {x : Int} (h : -1000000000000000 ≤ x ∧ x ≤ 1000000000000000) : cvV ⟨2, x, ee⟩ = 0 := by unfold cvV cv; simp [ee_tl, h]
theorem fits_ee (x y : Int) : fits ⟨x, y, ee⟩ := by show (0 : Nat) ≤ _; omega
end Go.Proofs.YtokphfhihhdfpaaDoor.Pure
