/- Plain laws, part B: the order of values. What check, Compare and Order come to; the order is a whole order. -/
import Derived.Test.YtokphfhihhdfpaaDoorPureA
import Derived.Test.YtokphfhihhdfpaaDoorOpen
import Derived.Test.YtokphfhihhdfpaaDoorQxCmp
namespace Go.Proofs.YtokphfhihhdfpaaDoor.Pure
open Go.RowKit Go.Proofs.YtokphfhihhdfpaaDoor.Q Go.Proofs.YtokphfhihhdfpaaDoor.Ext Go.Proofs.YtokphfhihhdfpaaDoorW.PrintWords Go.Proofs.YtokphfhihhdfpaaDoorW.PrintLast Go.Proofs.YtokphfhihhdfpaaDoorW.PrintMore
set_option linter.unusedVariables false
set_option linter.unusedSimpArgs false

/-! ### bytes -/
abbrev cb := Lib.compareBytes
theorem cb_range : ∀ a b, -1 ≤ cb a b ∧ cb a b ≤ 1
  | [], [] => by simp [cb, Lib.compareBytes]
  | [], _ :: _ => by simp [cb, Lib.compareBytes]
  | _ :: _, [] => by simp [cb, Lib.compareBytes]
  | a :: xs, b :: ys => by
    have ih := cb_range xs ys
    simp only [cb, Lib.compareBytes]
    split
    · omega
    · split
      · omega
      · exact ih
theorem cb_self : ∀ a, cb a a = 0
  | [] => rfl
  | a :: xs => by
    have ih := cb_self xs
    simp only [cb, Lib.compareBytes]
    rw [if_neg (UInt8.lt_irrefl a), if_neg (UInt8.lt_irrefl a)]
    exact ih
theorem cb_neg : ∀ a b, cb b a = - cb a b
  | [], [] => rfl
  | [], _ :: _ => by simp [cb, Lib.compareBytes]
  | _ :: _, [] => by simp [cb, Lib.compareBytes]
  | a :: xs, b :: ys => by
    have ih := cb_neg xs ys
    simp only [cb, Lib.compareBytes]
    by_cases h1 : a < b
    · rw [if_pos h1, if_neg (fun h2 => UInt8.lt_irrefl _ (UInt8.lt_trans h1 h2)), if_pos h1]; rfl
    · by_cases h2 : b < a
      · rw [if_pos h2, if_neg h1, if_pos h2]
      · rw [if_neg h2, if_neg h1, if_neg h1, if_neg h2]; exact ih
theorem cb_eq : ∀ {a b}, cb a b = 0 → a = b
  | [], [], _ => rfl
  | [], _ :: _, h => by simp [cb, Lib.compareBytes] at h
  | _ :: _, [], h => by simp [cb, Lib.compareBytes] at h
  | a :: xs, b :: ys, h => by
    simp only [cb, Lib.compareBytes] at h
    by_cases h1 : a < b
    · rw [if_pos h1] at h; omega
    · rw [if_neg h1] at h
      by_cases h2 : b < a
      · rw [if_pos h2] at h; omega
      · rw [if_neg h2] at h
        have e : a = b := by
          have q1 := mt UInt8.lt_iff_toNat_lt.2 h1
          have q2 := mt UInt8.lt_iff_toNat_lt.2 h2
          exact UInt8.toNat_inj.1 (by omega)
        rw [e, cb_eq h]
theorem cb_zero {a b : List UInt8} : cb a b = 0 ↔ a = b := ⟨cb_eq, fun h => by rw [h]; exact cb_self b⟩
theorem cb_trans : ∀ {a b c}, cb a b ≤ 0 → cb b c ≤ 0 → cb a c ≤ 0 ∧ (cb a c = 0 → cb a b = 0 ∧ cb b c = 0)
  | [], [], c, h1, h2 => ⟨h2, fun h => ⟨rfl, h⟩⟩
  | [], b :: ys, [], h1, h2 => by simp [cb, Lib.compareBytes] at h2
  | [], b :: ys, c :: zs, h1, h2 => by simp [cb, Lib.compareBytes]
  | a :: xs, [], c, h1, h2 => by simp [cb, Lib.compareBytes] at h1
  | a :: xs, b :: ys, [], h1, h2 => by simp [cb, Lib.compareBytes] at h2
  | a :: xs, b :: ys, c :: zs, h1, h2 => by
    have ih := @cb_trans xs ys zs
    simp only [cb, Lib.compareBytes, UInt8.lt_iff_toNat_lt] at h1 h2 ih ⊢
    by_cases x1 : a.toNat < b.toNat
    · by_cases y1 : b.toNat < c.toNat
      · rw [if_pos (show a.toNat < c.toNat by omega)]; omega
      · rw [if_neg y1] at h2
        by_cases y2 : c.toNat < b.toNat
        · rw [if_pos y2] at h2; omega
        · rw [if_pos (show a.toNat < c.toNat by omega)]; omega
    · rw [if_neg x1] at h1
      by_cases x2 : b.toNat < a.toNat
      · rw [if_pos x2] at h1; omega
      · rw [if_neg x2] at h1
        by_cases y1 : b.toNat < c.toNat
        · rw [if_pos (show a.toNat < c.toNat by omega)]; omega
        · rw [if_neg y1] at h2
          by_cases y2 : c.toNat < b.toNat
          · rw [if_pos y2] at h2; omega
          · rw [if_neg y2] at h2
            rw [if_neg (show ¬ a.toNat < c.toNat by omega), if_neg (show ¬ c.toNat < a.toNat by omega)]
            rw [if_neg x1, if_neg x2, if_neg y1, if_neg y2]
            exact ih h1 h2

/-! ### the order of values -/
def sgn (x y : Int) : Int := if x < y then -1 else if x > y then 1 else 0
/-- By kind, number, text. -/
def ord (a b : Val) : Int := if a.f0 ≠ b.f0 then sgn a.f0 b.f0 else if a.f1 ≠ b.f1 then sgn a.f1 b.f1 else cb a.f2.toList b.f2.toList
theorem sgn_lt {x y : Int} (h : x < y) : sgn x y = -1 := if_pos h
theorem sgn_gt {x y : Int} (h : y < x) : sgn x y = 1 := by unfold sgn; rw [if_neg (by omega), if_pos h]
theorem sgn_eq (x : Int) : sgn x x = 0 := by unfold sgn; rw [if_neg (by omega), if_neg (by omega)]
theorem sgn_cases (x y : Int) : (x < y ∧ sgn x y = -1) ∨ (x = y ∧ sgn x y = 0) ∨ (y < x ∧ sgn x y = 1) := by
  rcases Int.lt_trichotomy x y with h | h | h
  · exact .inl ⟨h, sgn_lt h⟩
  · subst h; exact .inr (.inl ⟨rfl, sgn_eq x⟩)
  · exact .inr (.inr ⟨h, sgn_gt h⟩)
/-- What the order says: the first part by which they differ. -/
theorem ord_cases (a b : Val) : (a.f0 < b.f0 ∧ ord a b = -1) ∨ (b.f0 < a.f0 ∧ ord a b = 1) ∨ (a.f0 = b.f0 ∧ a.f1 < b.f1 ∧ ord a b = -1) ∨ (a.f0 = b.f0 ∧ b.f1 < a.f1 ∧ ord a b = 1) ∨ (a.f0 = b.f0 ∧ a.f1 = b.f1 ∧ ord a b = cb a.f2.toList b.f2.toList) := by
  unfold ord
  by_cases h0 : a.f0 = b.f0
  · rw [if_neg (by simpa using h0)]
    by_cases h1 : a.f1 = b.f1
    · rw [if_neg (by simpa using h1)]; exact .inr (.inr (.inr (.inr ⟨h0, h1, rfl⟩)))
    · rw [if_pos h1]
      rcases sgn_cases a.f1 b.f1 with h | h | h
      · exact .inr (.inr (.inl ⟨h0, h.1, h.2⟩))
      · exact absurd h.1 h1
      · exact .inr (.inr (.inr (.inl ⟨h0, h.1, h.2⟩)))
  · rw [if_pos h0]
    rcases sgn_cases a.f0 b.f0 with h | h | h
    · exact .inl h
    · exact absurd h.1 h0
    · exact .inr (.inl h)
theorem ord_neg (a b : Val) : ord b a = - ord a b := by
  have := cb_neg a.f2.toList b.f2.toList
  rcases ord_cases a b with h | h | h | h | h <;> rcases ord_cases b a with k | k | k | k | k <;> omega
theorem ord_range (a b : Val) : -1 ≤ ord a b ∧ ord a b ≤ 1 := by
  have := cb_range a.f2.toList b.f2.toList
  rcases ord_cases a b with h | h | h | h | h <;> omega
theorem ord_zero (a b : Val) : ord a b = 0 ↔ a.f0 = b.f0 ∧ a.f1 = b.f1 ∧ a.f2.toList = b.f2.toList := by
  rcases ord_cases a b with h | h | h | h | h
  · exact ⟨fun e => by omega, fun e => by omega⟩
  · exact ⟨fun e => by omega, fun e => by omega⟩
  · exact ⟨fun e => by omega, fun e => by omega⟩
  · exact ⟨fun e => by omega, fun e => by omega⟩
  · rw [h.2.2]
    exact ⟨fun e => ⟨h.1, h.2.1, cb_eq e⟩, fun e => cb_zero.2 e.2.2⟩
theorem ord_trans {a b c : Val} (h1 : ord a b ≤ 0) (h2 : ord b c ≤ 0) : ord a c ≤ 0 ∧ (ord a c = 0 ↔ ord a b = 0 ∧ ord b c = 0) := by
  have ht := @cb_trans a.f2.toList b.f2.toList c.f2.toList
  have key : ord a c ≤ 0 ∧ (ord a c = 0 → ord a b = 0 ∧ ord b c = 0) := by
    rcases ord_cases a b with h | h | h | h | h <;> rcases ord_cases b c with k | k | k | k | k <;> rcases ord_cases a c with m | m | m | m | m <;> first | omega | skip
    all_goals
      have ht' := ht (by omega) (by omega)
      exact ⟨by omega, fun e => by have := ht'.2 (by omega); omega⟩
  refine ⟨key.1, key.2, fun e => ?_⟩
  have e1 := (ord_zero a b).1 e.1
  have e2 := (ord_zero b c).1 e.2
  exact (ord_zero a c).2 ⟨e1.1.trans e2.1, e1.2.1.trans e2.2.1, e1.2.2.trans e2.2.2⟩

/-! ### what the functions come to -/
abbrev fits (a : Val) : Prop := a.f2.size ≤ 9223372036854775807
abbrev cvV (a : Val) : Int := cv a.f0 a.f1 a.f2
theorem Check_nil (l : List Val) : Ev (fun k => value_check.l0 k l (l.length : Int) (l.length : Int)) 0 := by
  refine Ev.step (f := fun _ => some 0) (fun k => ?_) (Ev.now _)
  simp only [value_check.l0]
  rw [if_neg (by omega)]
theorem Check_step (l : List Val) (i : Nat) (hi : i < l.length) (hl : l.length ≤ 100) (hf : fits (valAt l i)) (r : Int) (h : cvV (valAt l i) = 0 → Ev (fun k => value_check.l0 k l (l.length : Int) ((i + 1 : Nat) : Int)) r) :
    Ev (fun k => value_check.l0 k l (l.length : Int) (i : Int)) (if cvV (valAt l i) = 0 then r else cvV (valAt l i)) := by
  refine Ev.step (f := fun k => (value_CheckValue.f k (valAt l i).f0 (valAt l i).f1 (valAt l i).f2).bind fun t => if t = 0 then value_check.l0 k l (l.length : Int) ((i + 1 : Nat) : Int) else some t) (fun k => ?_) ?_
  · simp only [value_check.l0]
    rw [if_pos (by omega), if_pos (by omega), if_pos (by omega), w64s hi (by omega)]
  · refine Ev.bind (CV _ _ _ hf) ?_
    by_cases h0 : cvV (valAt l i) = 0
    · rw [if_pos h0]; unfold cvV at h0; simp only [if_pos h0]; exact h h0
    · rw [if_neg h0]; unfold cvV at h0; simp only [if_neg h0]; exact Ev.now _
theorem Check1 (a : Val) (ha : fits a) : Ev (fun k => value_check.f k [a]) (cvV a) := by
  unfold value_check.f
  have h := Check_step [a] 0 (by simp) (by simp) ha 0 (fun _ => Check_nil [a])
  have e : (if cvV (valAt [a] 0) = 0 then (0 : Int) else cvV (valAt [a] 0)) = cvV a := by
    show (if cvV a = 0 then (0 : Int) else cvV a) = cvV a
    split
    · omega
    · rfl
  rw [e] at h
  exact h
/-- What is wrong with two values, one after the other. -/
def cv2 (a b : Val) : Int := if cvV a = 0 then cvV b else cvV a
theorem Check2 (a b : Val) (ha : fits a) (hb : fits b) : Ev (fun k => value_check.f k [a, b]) (cv2 a b) := by
  unfold value_check.f
  have h := Check_step [a, b] 0 (by simp) (by simp) ha (if cvV b = 0 then 0 else cvV b) (fun _ => Check_step [a, b] 1 (by simp) (by simp) hb 0 (fun _ => Check_nil [a, b]))
  have e : (if cvV (valAt [a, b] 0) = 0 then (if cvV b = 0 then 0 else cvV b) else cvV (valAt [a, b] 0)) = cv2 a b := by
    show (if cvV a = 0 then (if cvV b = 0 then 0 else cvV b) else cvV a) = cv2 a b
    unfold cv2
    by_cases h : cvV a = 0
    · rw [if_pos h, if_pos h]
      by_cases h' : cvV b = 0
      · rw [if_pos h', h']
      · rw [if_neg h']
    · rw [if_neg h, if_neg h]
  rw [e] at h
  exact h
/-- A right value: the fields that its kind does not have are zero. -/
theorem right_value {a : Val} (h : cvV a = 0) : (a.f0 = 0 ∧ a.f1 = 0 ∧ a.f2.toList = []) ∨ (a.f0 = 1 ∧ 0 ≤ a.f1 ∧ a.f1 ≤ 1 ∧ a.f2.toList = []) ∨ (a.f0 = 2 ∧ -1000000000000000 ≤ a.f1 ∧ a.f1 ≤ 1000000000000000 ∧ a.f2.toList = []) ∨
    (a.f0 = 3 ∧ a.f1 = 0 ∧ a.f2.size ≤ 200 ∧ ∀ i, i < a.f2.size → 32 ≤ bt a.f2 i ∧ bt a.f2 i ≤ 126) := by
  unfold cvV cv at h
  by_cases h0 : a.f0 = 0
  · rw [if_pos h0] at h
    split at h
    · rename_i hh; exact .inl ⟨h0, hh⟩
    · omega
  rw [if_neg h0] at h
  by_cases h1 : a.f0 = 1
  · rw [if_pos h1] at h
    split at h
    · split at h
      · rename_i hh hr; exact .inr (.inl ⟨h1, hr.1, hr.2, hh⟩)
      · omega
    · omega
  rw [if_neg h1] at h
  by_cases h2 : a.f0 = 2
  · rw [if_pos h2] at h
    split at h
    · split at h
      · rename_i hh hr; exact .inr (.inr (.inl ⟨h2, hr.1, hr.2, hh⟩))
      · omega
    · omega
  rw [if_neg h2] at h
  by_cases h3 : a.f0 = 3
  · rw [if_pos h3] at h
    split at h
    · rename_i hn
      split at h
      · omega
      · rename_i hl
        refine .inr (.inr (.inr ⟨h3, hn, by omega, fun i hi => ?_⟩))
        have := scan_fin (t := okB a.f2) (fin := 0) (fun j e => by unfold okB at e; split at e <;> cases e) a.f2.size 0 h i (by omega) (by omega)
        unfold okB at this
        split at this
        · assumption
        · cases this
    · omega
  · rw [if_neg h3] at h; omega
theorem cv2_zero {a b : Val} : cv2 a b = 0 ↔ cvV a = 0 ∧ cvV b = 0 := by
  unfold cv2
  split
  · exact ⟨fun h => ⟨by assumption, h⟩, fun h => h.2⟩
  · exact ⟨fun h => absurd h (by assumption), fun h => absurd h.1 (by assumption)⟩
theorem sign_f (x y : Int) : kit_sign.f x y = some (sgn x y) := by
  unfold kit_sign.f sgn
  split
  · rfl
  · split <;> rfl
theorem Compare_kit {a b : Val} (ha : cvV a = 0) (hb : cvV b = 0) : kit_Compare.f a.f0 a.f1 a.f2 b.f0 b.f1 b.f2 = some (ord a b) := by
  unfold kit_Compare.f
  by_cases h0 : a.f0 = b.f0
  · rw [if_pos h0]
    have ra := right_value ha
    have rb := right_value hb
    by_cases h3 : a.f0 = 3
    · rw [if_pos h3]
      simp only [strings_Compare.f, Option.bind_some, ← Lib.toList_data]
      have e1 : a.f1 = b.f1 := by omega
      unfold ord
      rw [if_neg (by simpa using h0), if_neg (by simpa using e1)]
    · rw [if_neg h3, sign_f]
      simp only [Option.bind_some]
      have ta : a.f2.toList = [] := by rcases ra with h | h | h | h <;> first | exact h.2.2 | exact h.2.2.2 | omega
      have tb : b.f2.toList = [] := by rcases rb with h | h | h | h <;> first | exact h.2.2 | exact h.2.2.2 | omega
      unfold ord
      rw [if_neg (by simpa using h0), ta, tb]
      by_cases h1 : a.f1 = b.f1
      · rw [if_neg (by simpa using h1), h1, sgn_eq]; rfl
      · rw [if_pos h1]
  · rw [if_neg h0, sign_f]
    simp only [Option.bind_some]
    unfold ord
    rw [if_pos h0]
theorem Compare_ev (a b : Val) (ha : fits a) (hb : fits b) : Ev (fun k => value_Compare.f k a.f0 a.f1 a.f2 b.f0 b.f1 b.f2) (if cv2 a b = 0 then (ord a b, 0) else (0, cv2 a b)) := by
  unfold value_Compare.f
  refine Ev.bind (Check2 a b ha hb) ?_
  by_cases h : cv2 a b = 0
  · have hh := cv2_zero.1 h
    simp only [if_pos h, Compare_kit hh.1 hh.2, Option.bind_some]
    exact Ev.now _
  · simp only [if_neg h]; exact Ev.now _
end Go.Proofs.YtokphfhihhdfpaaDoor.Pure
