/- Plain laws, part Lr: And, Or, Not, Equal and Less of the reference; Equal and Less of the program. -/
import Derived.Test.YtokphfhihhdfpaaDoorPureL
import Derived.Test.YtokphfhihhdfpaaDoorQxRefAndOrNot
import Derived.Test.YtokphfhihhdfpaaDoorQxEqualLess
import Derived.Test.YtokphfhihhdfpaaDoorQxRefEqualLess
namespace Go.Proofs.YtokphfhihhdfpaaDoor.Pure
open Go.RowKit Go.Proofs.YtokphfhihhdfpaaDoor.Q Go.Proofs.YtokphfhihhdfpaaDoor.Ext Go.Proofs.YtokphfhihhdfpaaDoorW.PrintWords Go.Proofs.YtokphfhihhdfpaaDoorW.PrintLast Go.Proofs.YtokphfhihhdfpaaDoorW.PrintMore
set_option linter.unusedVariables false
set_option linter.unusedSimpArgs false

theorem Logic_ev (a b : Val) (ha : fits a) (hb : fits b) : Ev (fun k => peristyleref1_logic.f k a.f0 a.f1 a.f2 b.f0 b.f1 b.f2) (ofS 1 a b) := by
  unfold peristyleref1_logic.f
  refine Ev.bind (Checks_ev a b ha hb) ?_
  unfold ofS
  by_cases h : cv2 a b = 0
  · simp only [if_pos h]
    obtain ⟨ra, rb⟩ := cv2_zero.1 h
    have e : ∀ v : Val, cvV v = 0 → (of1 1 v = 0 ↔ ¬ v.f0 > 1) := fun v hv => by rw [of1_zero]; have := kind_of hv; omega
    by_cases h1 : a.f0 > 1
    · rw [if_pos h1, if_neg (fun h => (e a ra).1 h h1)]; exact Ev.now _
    · rw [if_neg h1, if_pos ((e a ra).2 h1)]
      by_cases h2 : b.f0 > 1
      · rw [if_pos h2]; unfold of1; rw [if_neg (by omega)]; exact Ev.now _
      · rw [if_neg h2, (e b rb).2 h2]; exact Ev.now _
  · simp only [if_neg h]; exact Ev.now _
theorem AndR_ev (a b : Val) (ha : fits a) (hb : fits b) : Ev (fun k => peristyleref1_And.f k a.f0 a.f1 a.f2 b.f0 b.f1 b.f2) (andS a b) := by
  unfold peristyleref1_And.f
  refine Ev.bind (Logic_ev a b ha hb) ?_
  unfold andS
  by_cases h : ofS 1 a b = 0
  · simp only [if_pos h]
    obtain ⟨ra, rb, ka, kb⟩ := ofS_zero.1 h
    clear h ha hb
    rcases right01 ra ka with rfl | rfl | rfl <;> rcases right01 rb kb with rfl | rfl | rfl <;> refine Ev.step (f := fun _ => some _) (fun k => ?_) (Ev.now _) <;> simp [peristyleref1_And.j0, peristyleref1_Truth.f, ee_tl, tv, bad]
  · simp only [if_neg h]; exact Ev.now _
theorem OrR_ev (a b : Val) (ha : fits a) (hb : fits b) : Ev (fun k => peristyleref1_Or.f k a.f0 a.f1 a.f2 b.f0 b.f1 b.f2) (orS a b) := by
  unfold peristyleref1_Or.f
  refine Ev.bind (Logic_ev a b ha hb) ?_
  unfold orS
  by_cases h : ofS 1 a b = 0
  · simp only [if_pos h]
    obtain ⟨ra, rb, ka, kb⟩ := ofS_zero.1 h
    clear h ha hb
    rcases right01 ra ka with rfl | rfl | rfl <;> rcases right01 rb kb with rfl | rfl | rfl <;> refine Ev.step (f := fun _ => some _) (fun k => ?_) (Ev.now _) <;> simp [peristyleref1_Or.j0, peristyleref1_Truth.f, ee_tl, tv, bad]
  · simp only [if_neg h]; exact Ev.now _
theorem ofS_same (t : Int) (a : Val) : ofS t a a = ofS1 t a := by
  unfold ofS ofS1 cv2
  by_cases h : cvV a = 0
  · simp only [if_pos h]
    by_cases h1 : of1 t a = 0
    · rw [if_pos h1]
    · rw [if_neg h1]; unfold of1 at h1 ⊢; split
      · rename_i k; rw [if_pos k] at h1; exact absurd rfl h1
      · rfl
  · simp only [if_neg h]
theorem NotR_ev (a : Val) (ha : fits a) : Ev (fun k => peristyleref1_Not.f k a.f0 a.f1 a.f2) (notS a) := by
  unfold peristyleref1_Not.f
  refine Ev.bind (Logic_ev a a ha ha) ?_
  rw [ofS_same]
  unfold notS
  by_cases h : ofS1 1 a = 0
  · simp only [if_pos h]
    obtain ⟨ra, ka⟩ := ofS1_zero.1 h
    clear h ha
    rcases right01 ra ka with rfl | rfl | rfl <;> refine Ev.step (f := fun _ => some _) (fun k => ?_) (Ev.now _) <;> simp [peristyleref1_Truth.f, ee_tl, tv, bad]
  · simp only [if_neg h]; exact Ev.now _

/-! ### Equal and Less -/
def eqS (a b : Val) : Res := if cv2 a b = 0 then (if a.f0 = 0 ∨ b.f0 = 0 then bad 0 else if a.f0 = b.f0 then tv (ord a b == 0) else bad 10) else bad (cv2 a b)
def lessS (a b : Val) : Res := if cv2 a b = 0 then (if a.f0 = 0 ∨ b.f0 = 0 then bad 0 else if a.f0 = b.f0 then tv (decide (ord a b < 0)) else bad 10) else bad (cv2 a b)
theorem Bool_f (x : Bool) : kit_Bool.f x = some (1, (if x then 1 else 0), ee) := by unfold kit_Bool.f; cases x <;> rfl
theorem Truth_f (x : Bool) : peristyleref1_Truth.f x = some (1, (if x then 1 else 0), ee) := by unfold peristyleref1_Truth.f; cases x <;> rfl
theorem Compared_ev (a b : Val) (ha : fits a) (hb : fits b) : Ev (fun k => value_compared.f k a.f0 a.f1 a.f2 b.f0 b.f1 b.f2)
    (if cv2 a b = 0 then (if a.f0 = 0 ∨ b.f0 = 0 then (0, true, 0) else if a.f0 = b.f0 then (ord a b, false, 0) else (0, false, 10)) else (0, false, cv2 a b)) := by
  unfold value_compared.f
  refine Ev.bind (Check2 a b ha hb) ?_
  by_cases h : cv2 a b = 0
  · simp only [if_pos h, kit_IsNull.f, Option.bind_some, beq_iff_eq]
    obtain ⟨ra, rb⟩ := cv2_zero.1 h
    by_cases h0 : a.f0 = 0
    · rw [if_pos (Or.inl h0)]; simp only [if_pos h0]
      refine Ev.step (f := fun _ => some _) (fun k => ?_) (Ev.now _)
      simp only [value_compared.j0]; rfl
    · simp only [if_neg h0]
      by_cases h1 : b.f0 = 0
      · rw [if_pos (Or.inr h1)]
        refine Ev.step (f := fun _ => some _) (fun k => ?_) (Ev.now _)
        simp only [value_compared.j0]; rw [if_pos (by simpa using h1)]
      · rw [if_neg (fun h => h.elim h0 h1)]
        refine Ev.step (f := fun _ => some _) (fun k => ?_) (Ev.now _)
        simp only [value_compared.j0, Compare_kit ra rb, Option.bind_some]
        rw [if_neg (by simpa using h1)]
        by_cases h2 : a.f0 = b.f0
        · rw [if_pos h2, if_pos h2]
        · rw [if_neg h2, if_neg h2]
  · simp only [if_neg h]; exact Ev.now _
theorem Equal_ev (a b : Val) (ha : fits a) (hb : fits b) : Ev (fun k => value_Equal.f k a.f0 a.f1 a.f2 b.f0 b.f1 b.f2) (eqS a b) := by
  unfold value_Equal.f
  refine Ev.bind (Compared_ev a b ha hb) ?_
  unfold eqS
  by_cases h : cv2 a b = 0
  · by_cases h0 : a.f0 = 0 ∨ b.f0 = 0
    · simp only [if_pos h, if_pos h0]; exact Ev.now _
    · by_cases h2 : a.f0 = b.f0
      · simp only [if_pos h, if_neg h0, if_pos h2, Bool_f, Option.bind_some]; exact Ev.now _
      · simp only [if_pos h, if_neg h0, if_neg h2]; exact Ev.now _
  · simp only [if_neg h]; exact Ev.now _
theorem Less_ev (a b : Val) (ha : fits a) (hb : fits b) : Ev (fun k => value_Less.f k a.f0 a.f1 a.f2 b.f0 b.f1 b.f2) (lessS a b) := by
  unfold value_Less.f
  refine Ev.bind (Compared_ev a b ha hb) ?_
  unfold lessS
  by_cases h : cv2 a b = 0
  · by_cases h0 : a.f0 = 0 ∨ b.f0 = 0
    · simp only [if_pos h, if_pos h0]; exact Ev.now _
    · by_cases h2 : a.f0 = b.f0
      · simp only [if_pos h, if_neg h0, if_pos h2, Bool_f, Option.bind_some]; exact Ev.now _
      · simp only [if_pos h, if_neg h0, if_neg h2]; exact Ev.now _
  · simp only [if_neg h]; exact Ev.now _
theorem ComparedR_ev (a b : Val) (ha : fits a) (hb : fits b) : Ev (fun k => peristyleref1_compared.f k a.f0 a.f1 a.f2 b.f0 b.f1 b.f2)
    (if cv2 a b = 0 then (if a.f0 = 0 ∨ b.f0 = 0 then (true, 0) else if a.f0 = b.f0 then (false, 0) else (false, 10)) else (false, cv2 a b)) := by
  unfold peristyleref1_compared.f
  refine Ev.bind (Checks_ev a b ha hb) ?_
  by_cases h : cv2 a b = 0
  · simp only [if_pos h]
    by_cases h0 : a.f0 = 0
    · rw [if_pos (Or.inl h0)]; simp only [if_pos h0]
      refine Ev.step (f := fun _ => some _) (fun k => ?_) (Ev.now _)
      simp only [peristyleref1_compared.j0]; rfl
    · simp only [if_neg h0]
      by_cases h1 : b.f0 = 0
      · rw [if_pos (Or.inr h1)]
        refine Ev.step (f := fun _ => some _) (fun k => ?_) (Ev.now _)
        simp only [peristyleref1_compared.j0]; rw [if_pos (by simpa using h1)]
      · rw [if_neg (fun h => h.elim h0 h1)]
        refine Ev.step (f := fun _ => some _) (fun k => ?_) (Ev.now _)
        simp only [peristyleref1_compared.j0]
        rw [if_neg (by simpa using h1)]
        by_cases h2 : a.f0 = b.f0
        · rw [if_pos h2, if_pos h2]
        · rw [if_neg h2, if_neg h2]
  · simp only [if_neg h]; exact Ev.now _
theorem EqualR_ev (a b : Val) (ha : fits a) (hb : fits b) : Ev (fun k => peristyleref1_Equal.f k a.f0 a.f1 a.f2 b.f0 b.f1 b.f2) (eqS a b) := by
  unfold peristyleref1_Equal.f
  refine Ev.bind (ComparedR_ev a b ha hb) ?_
  unfold eqS
  by_cases h : cv2 a b = 0
  · by_cases h0 : a.f0 = 0 ∨ b.f0 = 0
    · simp only [if_pos h, if_pos h0]; exact Ev.now _
    · by_cases h2 : a.f0 = b.f0
      · have e : (a.f0 == b.f0 && (a.f1 == b.f1 && (a.f2.toList == b.f2.toList))) = (ord a b == 0) := by
          rw [Bool.eq_iff_iff]
          simp only [Bool.and_eq_true, beq_iff_eq]
          exact (ord_zero a b).symm
        simp only [if_pos h, if_neg h0, if_pos h2, e, Truth_f, Option.bind_some]; exact Ev.now _
      · simp only [if_pos h, if_neg h0, if_neg h2]; exact Ev.now _
  · simp only [if_neg h]; exact Ev.now _
theorem bl_cb : ∀ a b : List UInt8, Op.bytesLess a b = true ↔ cb a b < 0
  | a, [] => by cases a <;> simp [Op.bytesLess, cb, Lib.compareBytes]
  | [], _ :: _ => by simp [Op.bytesLess, cb, Lib.compareBytes]
  | a :: xs, b :: ys => by
    have ih := bl_cb xs ys
    simp only [Op.bytesLess, cb, Lib.compareBytes, Bool.or_eq_true, Bool.and_eq_true, decide_eq_true_eq, beq_iff_eq] at ih ⊢
    by_cases h1 : a < b
    · rw [if_pos h1]; exact ⟨fun _ => by omega, fun _ => .inl h1⟩
    · rw [if_neg h1]
      by_cases h2 : b < a
      · rw [if_pos h2]
        exact ⟨fun h => h.elim (fun h => absurd h h1) (fun h => absurd h2 (by rw [h.1]; exact UInt8.lt_irrefl b)), fun h => by omega⟩
      · rw [if_neg h2]
        have e : a = b := by
          have q1 := mt UInt8.lt_iff_toNat_lt.2 h1
          have q2 := mt UInt8.lt_iff_toNat_lt.2 h2
          exact UInt8.toNat_inj.1 (by omega)
        exact ⟨fun h => h.elim (fun h => absurd h h1) (fun h => ih.1 h.2), fun h => .inr ⟨e, ih.2 h⟩⟩
theorem Order_f (a b : Val) : peristyleref1_Order.f a.f0 a.f1 a.f2 b.f0 b.f1 b.f2 = some (ord a b) := by
  unfold peristyleref1_Order.f ord sgn
  by_cases h0 : a.f0 = b.f0
  · rw [if_pos h0, if_neg (show ¬ a.f0 ≠ b.f0 from fun h => h h0)]
    by_cases h1 : a.f1 = b.f1
    · rw [if_pos h1, if_neg (show ¬ a.f1 ≠ b.f1 from fun h => h h1)]
      by_cases h2 : a.f2.toList = b.f2.toList
      · rw [if_pos h2, cb_zero.2 h2]
      · rw [if_neg h2]
        have := cb_range a.f2.toList b.f2.toList
        by_cases h3 : Op.bytesLess a.f2.toList b.f2.toList = true
        · rw [if_pos h3]; have := (bl_cb _ _).1 h3; congr 1; omega
        · rw [if_neg h3]
          have q := mt (bl_cb _ _).2 h3
          have q2 := mt cb_zero.1 h2
          congr 1; omega
    · rw [if_neg h1, if_pos h1]
      by_cases h2 : a.f1 < b.f1
      · rw [if_pos h2, if_pos h2]
      · rw [if_neg h2, if_neg h2, if_pos (by omega)]
  · rw [if_neg h0, if_pos h0]
    by_cases h2 : a.f0 < b.f0
    · rw [if_pos h2, if_pos h2]
    · rw [if_neg h2, if_neg h2, if_pos (by omega)]
theorem LessR_ev (a b : Val) (ha : fits a) (hb : fits b) : Ev (fun k => peristyleref1_Less.f k a.f0 a.f1 a.f2 b.f0 b.f1 b.f2) (lessS a b) := by
  unfold peristyleref1_Less.f
  refine Ev.bind (ComparedR_ev a b ha hb) ?_
  unfold lessS
  by_cases h : cv2 a b = 0
  · by_cases h0 : a.f0 = 0 ∨ b.f0 = 0
    · simp only [if_pos h, if_pos h0]
      refine Ev.step (f := fun _ => some _) (fun k => ?_) (Ev.now _)
      simp only [peristyleref1_Less.j0]; rfl
    · by_cases h2 : a.f0 = b.f0
      · simp only [if_pos h, if_neg h0, if_pos h2]
        refine Ev.step (f := fun _ => some _) (fun k => ?_) (Ev.now _)
        simp only [peristyleref1_Less.j0, Order_f, Truth_f, Option.bind_some]; rfl
      · simp only [if_pos h, if_neg h0, if_neg h2]
        refine Ev.step (f := fun _ => some _) (fun k => ?_) (Ev.now _)
        simp only [peristyleref1_Less.j0]; rfl
  · simp only [if_neg h]
    refine Ev.step (f := fun _ => some _) (fun k => ?_) (Ev.now _)
    simp only [peristyleref1_Less.j0]; rfl
end Go.Proofs.YtokphfhihhdfpaaDoor.Pure
