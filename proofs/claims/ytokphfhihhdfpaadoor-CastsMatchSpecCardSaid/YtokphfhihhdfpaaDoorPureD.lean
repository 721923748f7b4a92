/- Plain laws, part D: numerals. What kit.Digits comes to; numerals that strconv.Itoa writes are read as what they were. -/
import Derived.Test.YtokphfhihhdfpaaDoorPureC
import Derived.Test.YtokphfhihhdfpaaDoorQxCoreB
namespace Go.Proofs.YtokphfhihhdfpaaDoor.Pure
open Go.RowKit Go.Proofs.YtokphfhihhdfpaaDoor.Q Go.Proofs.YtokphfhihhdfpaaDoor.Ext Go.Proofs.YtokphfhihhdfpaaDoorW.PrintWords Go.Proofs.YtokphfhihhdfpaaDoorW.PrintLast Go.Proofs.YtokphfhihhdfpaaDoorW.PrintMore
set_option linter.unusedVariables false
set_option linter.unusedSimpArgs false

abbrev ul (s : ByteArray) : List UInt8 := s.data.toList
theorem ul_len (s : ByteArray) : (ul s).length = s.size := Lib.size_eq s
theorem bt_ul (s : ByteArray) (i : Nat) (h : i < (ul s).length) : bt s i = ((ul s)[i].toNat : Int) := by
  unfold bt
  rw [dif_pos (by rw [ul_len] at h; simpa using h)]
  rfl
theorem bt_out (s : ByteArray) (i : Nat) (h : s.size ≤ i) : bt s i = 0 := by
  unfold bt
  rw [dif_neg (by simpa using h)]
theorem bt_cons {s : ByteArray} {b : UInt8} {r : List UInt8} (h : ul s = b :: r) : bt s 0 = (b.toNat : Int) := by
  have := bt_ul s 0 (by rw [h]; simp)
  rw [show ((0 : Nat) : Int) = 0 from rfl] at this
  rw [this]
  congr 2
  simp only [h]; rfl
theorem ul_drop (s : ByteArray) : ul (s.extract 1 s.size) = (ul s).drop 1 := by
  show (s.extract 1 s.size).data.toList = _
  rw [ByteArray.data_extract, Array.toList_extract]
  show ((ul s).drop 1).take (s.size - 1) = _
  exact List.take_of_length_le (by rw [List.length_drop, ul_len]; omega)
theorem ul_one (s : ByteArray) : ul (s.extract 0 1) = (ul s).take 1 := by
  show (s.extract 0 1).data.toList = _
  rw [ByteArray.data_extract, Array.toList_extract]; rfl
def allD (l : List UInt8) : Prop := ∀ b ∈ l, 48 ≤ b.toNat ∧ b.toNat ≤ 57
def valOf (acc : Nat) (l : List UInt8) : Nat := l.foldl (fun a b => a * 10 + (b.toNat - 48)) acc
theorem decFrom_all : ∀ (l : List UInt8) (acc : Nat), allD l → Lib.decFrom acc l = some (valOf acc l)
  | [], acc, _ => rfl
  | b :: r, acc, h => by
    have hb := h b (List.mem_cons_self)
    simp only [Lib.decFrom, Lib.digitVal, if_pos hb]
    exact decFrom_all r _ fun x hx => h x (List.mem_cons_of_mem _ hx)
theorem valOf_ge : ∀ (l : List UInt8) (acc : Nat), acc * 10 ^ l.length ≤ valOf acc l
  | [], acc => by simp [valOf]
  | b :: r, acc => by
    have := valOf_ge r (acc * 10 + (b.toNat - 48))
    show acc * 10 ^ (r.length + 1) ≤ valOf (acc * 10 + (b.toNat - 48)) r
    refine Nat.le_trans ?_ this
    rw [Nat.pow_succ, Nat.mul_comm (10 ^ r.length) 10, ← Nat.mul_assoc]
    exact Nat.mul_le_mul_right _ (by omega)
theorem valOf_lt : ∀ (l : List UInt8) (acc : Nat), allD l → valOf acc l < (acc + 1) * 10 ^ l.length
  | [], acc, _ => by simp [valOf]
  | b :: r, acc, h => by
    have hb := h b (List.mem_cons_self)
    have := valOf_lt r (acc * 10 + (b.toNat - 48)) fun x hx => h x (List.mem_cons_of_mem _ hx)
    show valOf (acc * 10 + (b.toNat - 48)) r < (acc + 1) * 10 ^ (r.length + 1)
    refine Nat.lt_of_lt_of_le this ?_
    rw [Nat.pow_succ, Nat.mul_comm (10 ^ r.length) 10, ← Nat.mul_assoc]
    exact Nat.mul_le_mul_right _ (by omega)
theorem valOf_17 {l : List UInt8} (h : allD l) (hl : l.length ≤ 17) : valOf 0 l < 100000000000000000 := by
  have h1 := valOf_lt l 0 h
  have h3 := Nat.pow_le_pow_right (n := 10) (by decide) hl
  have e : (10 : Nat) ^ 17 = 100000000000000000 := by decide
  omega
theorem Atoi_f {s : ByteArray} (h : allD (ul s)) (hn : ul s ≠ []) (hl : s.size ≤ 17) : strconv_Atoi.f s = some ((valOf 0 (ul s) : Int), none) := by
  unfold strconv_Atoi.f
  rw [if_pos (by omega)]
  cases e : s.data.toList with
  | nil => exact absurd e hn
  | cons b r =>
    have hb := h b (by show b ∈ s.data.toList; rw [e]; exact List.mem_cons_self)
    have h45 : (b == 45) = false := by
      rw [beq_eq_false_iff_ne]; intro h; rw [h] at hb; exact absurd hb.1 (by decide)
    have h43 : (b == 43) = false := by
      rw [beq_eq_false_iff_ne]; intro h; rw [h] at hb; exact absurd hb.1 (by decide)
    have hd : Lib.decNat (b :: r) = some (valOf 0 (b :: r)) := by
      unfold Lib.decNat
      rw [if_neg (by simp)]
      exact decFrom_all _ 0 (by rw [← e]; exact h)
    simp only [Lib.atoi, h45, h43, Bool.false_eq_true, if_false, hd, Option.map_some, ul, e]
theorem AtoiNeg_f {s : ByteArray} {r : List UInt8} (e : ul s = 45 :: r) (h : allD r) (hn : r ≠ []) (hl : s.size ≤ 17) : strconv_Atoi.f s = some (-(valOf 0 r : Int), none) := by
  unfold strconv_Atoi.f
  rw [if_pos (by omega)]
  have hd : Lib.decNat r = some (valOf 0 r) := by
    unfold Lib.decNat
    rw [if_neg (by cases r with | nil => exact absurd rfl hn | cons _ _ => simp)]
    exact decFrom_all _ 0 h
  rw [show s.data.toList = 45 :: r from e]
  simp only [Lib.atoi, beq_self_eq_true, if_true, hd, Option.map_some]
/-! ### kit.Digits -/
/-- What stands behind the sign. -/
def cutM (s : ByteArray) : ByteArray × Bool := if bt s 0 = 45 then (s.extract 1 s.size, true) else (s, false)
def badJ (r : ByteArray) (j : Nat) : Prop := ¬ (48 ≤ bt r j ∧ bt r j ≤ 57)
instance (r : ByteArray) : DecidablePred (badJ r) := fun j => by unfold badJ; infer_instance
def numR (r : ByteArray) (m : Bool) : Int := if r.size ≤ 17 then (if m = true then -(valOf 0 (ul r) : Int) else (valOf 0 (ul r) : Int)) else (if m = true then -1000000000000001 else 1000000000000001)
def digR (r : ByteArray) (m : Bool) : Int × Bool :=
  if r.toList = [] then (0, false) else if bt r 0 = 48 ∧ (1 < r.size ∨ m = true) then (0, false) else if ∃ j, j < r.size ∧ badJ r j then (0, false) else (numR r m, true)
def digS (s : ByteArray) : Int × Bool := digR (cutM s).1 (cutM s).2
theorem allD_of {r : ByteArray} (h : ¬ ∃ j, j < r.size ∧ badJ r j) : allD (ul r) := by
  intro b hb
  obtain ⟨i, hi, rfl⟩ := List.mem_iff_getElem.1 hb
  have : ¬ badJ r i := fun hj => h ⟨i, by rw [ul_len] at hi; exact hi, hj⟩
  unfold badJ at this
  rw [bt_ul r i hi] at this
  omega
theorem not_bad {r : ByteArray} (h : allD (ul r)) : ¬ ∃ j, j < r.size ∧ badJ r j := by
  rintro ⟨j, hj, hb⟩
  have hj' : j < (ul r).length := by rw [ul_len]; exact hj
  unfold badJ at hb
  rw [bt_ul r j hj'] at hb
  have := h _ (List.getElem_mem hj')
  omega
theorem ul_nil {s : ByteArray} : s.toList = [] ↔ ul s = [] := by rw [Lib.toList_data]
theorem Cut_f (s : ByteArray) : strings_CutPrefix.f s (⟨#[45]⟩ : ByteArray) = some (cutM s) := by
  unfold strings_CutPrefix.f stringslite_CutPrefix.f stringslite_HasPrefix.f cutM
  have z1 : (⟨#[45]⟩ : ByteArray).size = 1 := rfl
  have t1 : (⟨#[45]⟩ : ByteArray).toList = [45] := by rw [Lib.toList_data]
  rw [z1]
  cases e : ul s with
  | nil =>
    have : s.size = 0 := by rw [← ul_len, e]; rfl
    have hb : ¬ bt s 0 = 45 := by rw [show bt s 0 = 0 from bt_out s 0 (by omega)]; decide
    rw [if_neg (show ¬ (s.size : Int) ≥ ((1 : Nat) : Int) by omega), if_neg hb]
    rfl
  | cons b r =>
    have : s.size = r.length + 1 := by rw [← ul_len, e]; rfl
    have ex : (s.extract 0 (((1 : Nat) : Int)).toNat).toList = [b] := by
      rw [Lib.toList_data]
      show ul (s.extract 0 1) = [b]
      rw [ul_one, e]; rfl
    rw [if_pos (show (s.size : Int) ≥ ((1 : Nat) : Int) by omega), if_pos (show (0 : Int) ≤ ((1 : Nat) : Int) by omega), if_pos (show ((1 : Nat) : Int) ≤ (s.size : Int) by omega), ex, t1]
    simp only [Option.bind_some]
    rw [bt_cons e]
    by_cases hb : b = 45
    · subst hb
      rw [if_pos (show ([45] : List UInt8) == [45] from rfl), if_pos (show (0 : Int) ≤ ((1 : Nat) : Int) by omega), if_pos (show ((1 : Nat) : Int) ≤ (s.size : Int) by omega), if_pos (show (((45 : UInt8).toNat : Nat) : Int) = 45 from rfl)]
      rfl
    · have h1 : (([b] : List UInt8) == [45]) = false := by
        rw [beq_eq_false_iff_ne]; intro h; exact hb (List.cons.inj h).1
      have h2 : ¬ (b.toNat : Int) = 45 := by
        intro h; exact hb (UInt8.toNat_inj.1 (by show b.toNat = 45; omega))
      rw [h1, if_neg (by simp), if_neg h2]
      rfl
theorem Digits_l (r : ByteArray) (m : Bool) (hr : ul r ≠ []) (hs : r.size ≤ 9223372036854775807) : Ev (fun k => kit_Digits.l0 k r m (r.size : Int) 0) (if ∃ j, j < r.size ∧ badJ r j then (0, false) else (numR r m, true)) := by
  rw [← scan_if]
  refine scan_ev2 (told := fun j => if badJ r j then some ((0 : Int), false) else none) (fun k i => kit_Digits.l0 k r m (r.size : Int) i) r.size ?_ ?_ (fun hno => ?_)
  · intro i hi h q hq
    have hb : 48 ≤ bt r i ∧ bt r i ≤ 57 := by
      have : ¬ badJ r i := fun hj => by simp only [if_pos hj] at h; cases h
      unfold badJ at this; omega
    refine Ev.step (fun k => ?_) hq
    simp only [kit_Digits.l0]
    rw [if_pos (by omega), if_pos (by omega), if_pos (by omega), if_neg (by omega), if_neg (by omega), w64s hi hs]
  · intro i hi q h
    have hb : badJ r i ∧ q = (0, false) := by
      by_cases hj : badJ r i
      · simp only [if_pos hj] at h; exact ⟨hj, (Option.some.inj h).symm⟩
      · simp only [if_neg hj] at h; cases h
    obtain ⟨hj, rfl⟩ := hb
    unfold badJ at hj
    refine Ev.step (f := fun _ => some ((0 : Int), false)) (fun k => ?_) (Ev.now _)
    simp only [kit_Digits.l0]
    rw [if_pos (by omega), if_pos (by omega), if_pos (by omega)]
    by_cases h1 : bt r i < 48
    · rw [if_pos h1]
    · rw [if_neg h1, if_pos (by omega)]
  · have hd : allD (ul r) := allD_of fun ⟨j, hj, hb⟩ => by have := hno j hj; simp only [if_pos hb] at this; cases this
    refine Ev.step (f := fun _ => some (numR r m, true)) (fun k => ?_) (Ev.now _)
    simp only [kit_Digits.l0]
    rw [if_neg (by omega)]
    unfold numR
    by_cases hl : r.size ≤ 17
    · have hv := valOf_17 hd (by rw [ul_len]; exact hl)
      rw [if_pos (show (r.size : Int) ≤ 17 by omega), if_pos hl, Atoi_f hd hr hl]
      simp only [Option.bind_some]
      by_cases hm : m = true
      · rw [if_pos hm, if_pos hm, w64 (by omega) (by omega)]
      · rw [if_neg hm, if_neg hm]
    · rw [if_neg (show ¬ (r.size : Int) ≤ 17 by omega), if_neg hl]
      by_cases hm : m = true
      · rw [if_pos hm, if_pos hm]
      · rw [if_neg hm, if_neg hm]
theorem cutM_size (s : ByteArray) : (cutM s).1.size ≤ s.size := by
  unfold cutM
  split
  · show (s.extract 1 s.size).size ≤ _
    rw [← ul_len, ul_drop, List.length_drop, ul_len]; omega
  · exact Nat.le_refl _
theorem Digits_ev (s : ByteArray) (hs : s.size ≤ 9223372036854775807) : Ev (fun k => kit_Digits.f k s) (digS s) := by
  unfold kit_Digits.f digS digR
  rw [Cut_f]
  simp only [Option.bind_some]
  have hr := cutM_size s
  generalize (cutM s).1 = r at hr ⊢
  generalize (cutM s).2 = m
  have bad : ∀ v : Bool, v = true → Ev (fun k => kit_Digits.j0 k r m v) (0, false) := by
    intro v hv; subst hv
    exact Ev.step (f := fun _ => some ((0 : Int), false)) (fun k => by simp only [kit_Digits.j0]; rfl) (Ev.now _)
  by_cases h0 : r.toList = []
  · simp only [if_pos h0]; exact bad _ rfl
  · have hne : ul r ≠ [] := fun h => h0 (ul_nil.2 h)
    have hp : 0 < r.size := by
      rw [← ul_len]; cases e : ul r with | nil => exact absurd e hne | cons _ _ => simp
    have good : ∀ v : Bool, v = false → Ev (fun k => kit_Digits.j0 k r m v) (if ∃ j, j < r.size ∧ badJ r j then (0, false) else (numR r m, true)) := by
      intro v hv; subst hv
      exact Ev.step (fun k => by simp only [kit_Digits.j0, Bool.false_eq_true, if_false]) (Digits_l r m hne (by omega))
    simp only [if_neg h0, if_pos (show (0 : Int) < (r.size : Int) by omega)]
    by_cases h1 : bt r 0 = 48
    · simp only [if_pos h1]
      by_cases h2 : (r.size : Int) > 1
      · rw [if_pos (show bt r 0 = 48 ∧ (1 < r.size ∨ m = true) from ⟨h1, .inl (by omega)⟩)]
        simp only [if_pos h2]; exact bad _ rfl
      · simp only [if_neg h2]
        cases hm : m with
        | true =>
          rw [if_pos (show bt r 0 = 48 ∧ (1 < r.size ∨ true = true) from ⟨h1, .inr rfl⟩)]
          rw [hm] at bad; exact bad _ rfl
        | false =>
          rw [if_neg (show ¬ (bt r 0 = 48 ∧ (1 < r.size ∨ false = true)) from fun h => by rcases h.2 with h | h; omega; cases h)]
          rw [hm] at good; exact good _ rfl
    · rw [if_neg (show ¬ (bt r 0 = 48 ∧ (1 < r.size ∨ m = true)) from fun h => h1 h.1)]
      simp only [if_neg h1]; exact good _ rfl
end Go.Proofs.YtokphfhihhdfpaaDoor.Pure
