/- Plain laws, part R: the order of right rows, value by value (the program's CompareRows), and whether two rows are the same (the reference's SameRow). -/
import Derived.Test.YtokphfhihhdfpaaDoorPureSd
import Derived.Test.YtokphfhihhdfpaaDoorQxkitCompareRows
import Derived.Test.YtokphfhihhdfpaaDoorQxperistyleref1SameRow
namespace Go.Proofs.YtokphfhihhdfpaaDoor.Pure
open Go.RowKit Go.Proofs.YtokphfhihhdfpaaDoor.Q Go.Proofs.YtokphfhihhdfpaaDoor.Ext Go.Proofs.YtokphfhihhdfpaaDoorW.PrintWords Go.Proofs.YtokphfhihhdfpaaDoorW.PrintLast Go.Proofs.YtokphfhihhdfpaaDoorW.PrintMore
set_option linter.unusedVariables false
set_option linter.unusedSimpArgs false

/-- Rows, value by value. -/
def crl : List Val → List Val → Int
  | a :: x, b :: y => if ord a b = 0 then crl x y else ord a b
  | _, _ => 0
theorem val_drop {l : List Val} {i : Nat} (h : i < l.length) : l.drop i = valAt l i :: l.drop (i + 1) := by
  rw [List.drop_eq_getElem_cons h]
  congr 1
  show _ = l.getD (i : Int).toNat _
  simp [List.getD_eq_getElem?_getD, h]
theorem cr_run (x y : List Val) (hl : x.length ≤ 9223372036854775807) (hxy : x.length = y.length) (rx : ∀ v ∈ x, cvV v = 0) (ry : ∀ v ∈ y, cvV v = 0) : ∀ d i k, i + d = x.length → d < k →
    kit_CompareRows.l0 k x (x.length : Int) (i : Int) y = some (crl (x.drop i) (y.drop i)) := by
  intro d
  induction d with
  | zero =>
    intro i k hi hk
    obtain ⟨k, rfl⟩ : ∃ z_, k = z_ + 1 := ⟨k - 1, by omega⟩
    simp only [kit_CompareRows.l0]
    rw [if_neg (by omega), List.drop_of_length_le (by omega), List.drop_of_length_le (by omega)]
    rfl
  | succ d ih =>
    intro i k hi hk
    obtain ⟨k, rfl⟩ : ∃ z_, k = z_ + 1 := ⟨k - 1, by omega⟩
    have hx : i < x.length := by omega
    have hy : i < y.length := by omega
    have hc := Compare_kit (rx _ (valAt_mem hx)) (ry _ (valAt_mem hy))
    simp only [kit_CompareRows.l0]
    rw [if_pos (by omega), if_pos (by omega), if_pos (by omega), if_pos (by omega), hc]
    simp only [Option.bind_some]
    rw [val_drop hx, val_drop hy, w64s hx hl]
    show _ = some (if ord (valAt x i) (valAt y i) = 0 then crl (x.drop (i + 1)) (y.drop (i + 1)) else ord (valAt x i) (valAt y i))
    by_cases h0 : ord (valAt x i) (valAt y i) = 0
    · rw [if_pos h0, if_pos h0]
      exact ih (i + 1) k (by omega) (by omega)
    · rw [if_neg h0, if_neg h0]
theorem cr_100 (x y : List Val) (hl : x.length ≤ 20) (hxy : x.length = y.length) (rx : ∀ v ∈ x, cvV v = 0) (ry : ∀ v ∈ y, cvV v = 0) (k : Nat) (hk : 20 < k) : kit_CompareRows.f k x y = some (crl x y) := by
  unfold kit_CompareRows.f
  have := cr_run x y (by omega) hxy rx ry x.length 0 k (by omega) (by omega)
  simpa using this
theorem crl_neg : ∀ x y : List Val, x.length = y.length → crl y x = - crl x y
  | [], [], _ => rfl
  | a :: x, b :: y, h => by
    have h2 : x.length = y.length := by simpa using h
    show (if ord b a = 0 then crl y x else ord b a) = - (if ord a b = 0 then crl x y else ord a b)
    have := ord_neg a b
    by_cases h0 : ord a b = 0
    · rw [if_pos h0, if_pos (by omega)]; exact crl_neg x y h2
    · rw [if_neg h0, if_neg (by omega)]; omega
  | [], _ :: _, h => by cases h
  | _ :: _, [], h => by cases h
theorem val_ext {a b : Val} (h : a.f0 = b.f0 ∧ a.f1 = b.f1 ∧ a.f2.toList = b.f2.toList) : a = b := by
  obtain ⟨p, q, r⟩ := a
  obtain ⟨p', q', r'⟩ := b
  obtain ⟨h1, h2, h3⟩ := h
  have := tl_inj h3
  simp only at h1 h2 this
  rw [h1, h2, this]
theorem ord_eq {a b : Val} : ord a b = 0 ↔ a = b := ⟨fun h => val_ext ((ord_zero a b).1 h), fun h => by subst h; exact (ord_zero a a).2 ⟨rfl, rfl, rfl⟩⟩
theorem crl_eq : ∀ x y : List Val, x.length = y.length → (crl x y = 0 ↔ x = y)
  | [], [], _ => ⟨fun _ => rfl, fun _ => rfl⟩
  | a :: x, b :: y, h => by
    have h2 : x.length = y.length := by simpa using h
    show (if ord a b = 0 then crl x y else ord a b) = 0 ↔ _
    by_cases h0 : ord a b = 0
    · rw [if_pos h0, crl_eq x y h2, ord_eq.1 h0]; simp
    · rw [if_neg h0]
      exact ⟨fun h => absurd h h0, fun h => by injection h with h3; exact absurd (ord_eq.2 h3) h0⟩
  | [], _ :: _, h => by cases h
  | _ :: _, [], h => by cases h
theorem crl_trans : ∀ x y z : List Val, x.length = y.length → y.length = z.length → crl x y ≤ 0 → crl y z ≤ 0 → crl x z ≤ 0 ∧ (crl x z = 0 ↔ crl x y = 0 ∧ crl y z = 0)
  | [], [], [], _, _, _, _ => ⟨Int.le_refl _, fun _ => ⟨rfl, rfl⟩, fun _ => rfl⟩
  | a :: x, b :: y, c :: z, h1, h2, h3, h4 => by
    have g1 : x.length = y.length := by simpa using h1
    have g2 : y.length = z.length := by simpa using h2
    have e1 : crl (a :: x) (b :: y) = if ord a b = 0 then crl x y else ord a b := rfl
    have e2 : crl (b :: y) (c :: z) = if ord b c = 0 then crl y z else ord b c := rfl
    have e3 : crl (a :: x) (c :: z) = if ord a c = 0 then crl x z else ord a c := rfl
    rw [e1] at h3 ⊢
    rw [e2] at h4 ⊢
    rw [e3]
    have o1 : ord a b ≤ 0 := by split at h3 <;> omega
    have o2 : ord b c ≤ 0 := by split at h4 <;> omega
    have t := ord_trans o1 o2
    by_cases p : ord a b = 0
    · by_cases q : ord b c = 0
      · rw [if_pos p] at h3 ⊢
        rw [if_pos q] at h4 ⊢
        rw [if_pos (t.2.2 ⟨p, q⟩)]
        exact crl_trans x y z g1 g2 h3 h4
      · have r : ¬ ord a c = 0 := fun r => q (t.2.1 r).2
        rw [if_neg q, if_neg r]
        refine ⟨t.1, fun h => absurd h r, fun h => absurd h.2 q⟩
    · have r : ¬ ord a c = 0 := fun r => p (t.2.1 r).1
      rw [if_neg p, if_neg r]
      refine ⟨t.1, fun h => absurd h r, fun h => absurd h.1 p⟩
/-! ### SameRow -/
def sameV (a b : Val) : Bool := a.f0 == b.f0 && (a.f1 == b.f1 && a.f2.toList == b.f2.toList)
theorem sameV_iff (a b : Val) : sameV a b = true ↔ a = b := by
  unfold sameV
  rw [Bool.and_eq_true, Bool.and_eq_true, beq_iff_eq, beq_iff_eq, beq_iff_eq]
  exact ⟨val_ext, fun h => by subst h; exact ⟨rfl, rfl, rfl⟩⟩
def same : List Val → List Val → Bool
  | a :: x, b :: y => sameV a b && same x y
  | [], [] => true
  | _, _ => false
theorem same_iff : ∀ x y : List Val, same x y = true ↔ x = y
  | [], [] => by simp [same]
  | a :: x, b :: y => by simp only [same, Bool.and_eq_true, sameV_iff, same_iff x y, List.cons.injEq]
  | [], _ :: _ => by simp [same]
  | _ :: _, [] => by simp [same]
theorem sr_run (x y : List Val) (hl : x.length ≤ 9223372036854775807) (hxy : x.length = y.length) : ∀ d i k, i + d = x.length → d < k → peristyleref1_SameRow.l0 k (i : Int) x y = some (same (x.drop i) (y.drop i)) := by
  intro d
  induction d with
  | zero =>
    intro i k hi hk
    obtain ⟨k, rfl⟩ : ∃ z_, k = z_ + 1 := ⟨k - 1, by omega⟩
    simp only [peristyleref1_SameRow.l0]
    rw [if_neg (by omega), List.drop_of_length_le (by omega), List.drop_of_length_le (by omega)]
    rfl
  | succ d ih =>
    intro i k hi hk
    obtain ⟨k, rfl⟩ : ∃ z_, k = z_ + 1 := ⟨k - 1, by omega⟩
    have hx : i < x.length := by omega
    have hy : i < y.length := by omega
    simp only [peristyleref1_SameRow.l0]
    rw [if_pos (by omega), if_pos (by omega), if_pos (by omega), w64s hx hl]
    rw [val_drop hx, val_drop hy]
    show (if (!((valAt x i).f0 == (valAt y i).f0) || (!((valAt x i).f1 == (valAt y i).f1) || !((valAt x i).f2.toList == (valAt y i).f2.toList))) = true then some false else _) = some (sameV (valAt x i) (valAt y i) && same (x.drop (i + 1)) (y.drop (i + 1)))
    rw [ih (i + 1) k (by omega) (by omega)]
    unfold sameV
    cases (valAt x i).f0 == (valAt y i).f0 <;> cases (valAt x i).f1 == (valAt y i).f1 <;> cases (valAt x i).f2.toList == (valAt y i).f2.toList <;> simp
theorem Same_ev (x y : List Val) (hl : x.length ≤ 9223372036854775807) : Ev (fun k => peristyleref1_SameRow.f k x y) (same x y) := by
  unfold peristyleref1_SameRow.f
  by_cases h : x.length = y.length
  · refine ⟨x.length + 1, fun k hk => ?_⟩
    show (if (x.length : Int) = (y.length : Int) then peristyleref1_SameRow.l0 k 0 x y else some false) = _
    rw [if_pos (by omega)]
    have := sr_run x y hl h x.length 0 k (by omega) (by omega)
    simpa using this
  · have e : same x y = false := by
      cases hs : same x y with
      | false => rfl
      | true => exact absurd (congrArg List.length ((same_iff x y).1 hs)) h
    refine ⟨0, fun k hk => ?_⟩
    show (if (x.length : Int) = (y.length : Int) then peristyleref1_SameRow.l0 k 0 x y else some false) = _
    rw [if_neg (by omega), e]
/-! ### right tables -/
structure Right (c : List Col) (l : List Rw) : Prop where
  c20 : c.length ≤ 20
  c1 : 0 < c.length
  rows : l.length ≤ 2000
  row : ∀ r ∈ l, r.f0.length = c.length ∧ ∀ v ∈ r.f0, cvV v = 0
theorem right_of {c : List Col} {l : List Rw} (h : ct c l = 0) : Right c l := by
  unfold ct at h
  split at h
  · rename_i hc
    split at h
    · cases h
    · rename_i hl
      have hcc := hc
      unfold cc at hcc
      split at hcc
      · cases hcc
      · split at hcc
        · cases hcc
        · refine ⟨by omega, by omega, by omega, fun r hr => ?_⟩
          obtain ⟨i, hi⟩ := List.getElem?_of_mem hr
          have hlt := (List.getElem?_eq_some_iff.1 hi).1
          have hn := scan_fin (t := rowT c l) (fin := 0) (fun j e => by
            unfold rowT at e
            split at e
            · cases e
            · rename_i hne; injection e with e; exact hne e) l.length 0 h i (Nat.zero_le _) (by omega)
          unfold rowT at hn
          split at hn
          · rename_i h0
            have er : rowAt l i = r := by
              show l.getD (i : Int).toNat _ = r
              simp [List.getD_eq_getElem?_getD, hi]
            rw [er] at h0
            exact cr_zero h0
          · cases hn
  · rename_i hc
    exact absurd h hc
end Go.Proofs.YtokphfhihhdfpaaDoor.Pure
