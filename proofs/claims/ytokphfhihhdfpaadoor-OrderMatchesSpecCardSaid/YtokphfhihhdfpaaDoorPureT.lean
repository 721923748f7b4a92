/- Plain laws, part T: what CheckColumns and CheckRow of the program and of the reference come to (the same). -/
import Derived.Test.YtokphfhihhdfpaaDoorPureA
import Derived.Test.YtokphfhihhdfpaaDoorQxTables
import Derived.Test.YtokphfhihhdfpaaDoorQxRefTables
import Derived.Test.YtokphfhihhdfpaaDoorQxNames
import Derived.Test.YtokphfhihhdfpaaDoorQxRefNames
namespace Go.Proofs.YtokphfhihhdfpaaDoor.Pure
open Go.RowKit Go.Proofs.YtokphfhihhdfpaaDoor.Q Go.Proofs.YtokphfhihhdfpaaDoor.Ext Go.Proofs.YtokphfhihhdfpaaDoorW.PrintWords Go.Proofs.YtokphfhihhdfpaaDoorW.PrintLast Go.Proofs.YtokphfhihhdfpaaDoorW.PrintMore
set_option linter.unusedVariables false
set_option linter.unusedSimpArgs false

/-! ### names of columns -/
def okN (s : ByteArray) (i : Nat) : Option Bool :=
  if (97 ≤ bt s i ∧ bt s i ≤ 122) ∨ (0 < i ∧ (bt s i = 95 ∨ (48 ≤ bt s i ∧ bt s i ≤ 57))) then none else some false
/-- Is this a name? -/
def isN (s : ByteArray) : Bool := if s.toList = [] then false else if 32 < s.size then false else scan (okN s) true 0 s.size
theorem size_pos {s : ByteArray} (h : ¬ s.toList = []) : 0 < s.size := by
  rcases Nat.eq_zero_or_pos s.size with hz | hz
  · exact absurd (List.eq_nil_of_length_eq_zero (by rw [Lib.toList_data, ← Lib.size_eq]; exact hz)) h
  · exact hz
theorem okN_none {s : ByteArray} {i : Nat} (h : okN s i = none) : (97 ≤ bt s i ∧ bt s i ≤ 122) ∨ (0 < i ∧ (bt s i = 95 ∨ (48 ≤ bt s i ∧ bt s i ≤ 57))) := by
  unfold okN at h
  split at h
  · assumption
  · cases h
theorem okN_some {s : ByteArray} {i : Nat} {r : Bool} (h : okN s i = some r) : ¬ ((97 ≤ bt s i ∧ bt s i ≤ 122) ∨ (0 < i ∧ (bt s i = 95 ∨ (48 ≤ bt s i ∧ bt s i ≤ 57)))) ∧ r = false := by
  unfold okN at h
  split at h
  · cases h
  · exact ⟨by assumption, (Option.some.inj h).symm⟩
theorem Name_ev (s : ByteArray) (hs : s.size ≤ 9223372036854775807) : Ev (fun k => kit_Name.f k s) (isN s) := by
  unfold kit_Name.f isN
  by_cases ht : s.toList = []
  · simp only [if_pos ht]
    refine Ev.step (f := fun _ => some false) (fun j => ?_) (Ev.now _)
    simp [kit_Name.j0]
  simp only [if_neg ht]
  by_cases hl : 32 < s.size
  · refine Ev.step (f := fun _ => some false) (fun j => ?_) (by rw [if_pos hl]; exact Ev.now _)
    simp only [kit_Name.j0]
    rw [if_pos (by simp; omega)]
  rw [if_neg hl]
  refine Ev.step (f := fun j => kit_Name.l0 j s (s.size : Int) 0) (fun j => ?_) ?_
  · simp only [kit_Name.j0]
    rw [if_neg (by simp; omega)]
  refine scan_ev (told := okN s) (fun j i => kit_Name.l0 j s (s.size : Int) i) s.size ?_ ?_ ?_ s.size 0 (by omega)
  · intro i hi h r hr
    have h' := okN_none h
    refine Ev.step (fun j => ?_) hr
    simp only [kit_Name.l0]
    rw [if_pos (by omega), if_pos (by omega), if_pos (by omega), w64s hi hs]
    by_cases c1 : bt s i < 97
    · rw [if_pos c1, if_neg (by omega)]
      by_cases c2 : bt s i = 95
      · rw [if_pos c2]
      · rw [if_neg c2, if_neg (by omega), if_neg (by omega)]
    · rw [if_neg c1]
      by_cases c3 : bt s i > 122
      · rw [if_pos c3, if_neg (by omega), if_neg (by omega), if_neg (by omega), if_neg (by omega)]
      · rw [if_neg c3]
  · intro i hi r h
    obtain ⟨h', rfl⟩ := okN_some h
    refine Ev.step (f := fun _ => some false) (fun j => ?_) (Ev.now _)
    simp only [kit_Name.l0]
    rw [if_pos (by omega), if_pos (by omega), if_pos (by omega)]
    by_cases c1 : bt s i < 97
    · rw [if_pos c1]
      by_cases c0 : (i : Int) = 0
      · rw [if_pos c0]
      · rw [if_neg c0, if_neg (by omega)]
        by_cases c2 : bt s i < 48
        · rw [if_pos c2]
        · rw [if_neg c2, if_pos (by omega)]
    · rw [if_neg c1, if_pos (by omega)]
      by_cases c0 : (i : Int) = 0
      · rw [if_pos c0]
      · rw [if_neg c0, if_neg (by omega), if_neg (by omega), if_pos (by omega)]
  · refine Ev.step (f := fun _ => some true) (fun j => ?_) (Ev.now _)
    simp only [kit_Name.l0]
    rw [if_neg (by omega)]
theorem scan_true : ∀ (t : Nat → Option Bool) (d i : Nat) (f : Bool), (∀ j r, t j = some r → r = false) → scan t f i d = (scan t true i d && f)
  | t, 0, i, f, h => by simp [scan]
  | t, d + 1, i, f, h => by
    unfold scan
    cases ht : t i with
    | some r => have := h i r ht; subst this; rfl
    | none => exact scan_true t d (i + 1) f h
theorem IsName_ev (s : ByteArray) (hs : s.size ≤ 9223372036854775807) : Ev (fun k => peristyleref1_IsName.f k s) (isN s) := by
  have main : Ev (fun k => peristyleref1_IsName.f k s) (scan (okN s) (if s.toList = [] then false else decide ((s.size : Int) ≤ 32)) 0 s.size) := by
    unfold peristyleref1_IsName.f
    refine scan_ev (told := okN s) (fun j i => peristyleref1_IsName.l0 j s i) s.size ?_ ?_ ?_ s.size 0 (by omega)
    · intro i hi h r hr
      have h' := okN_none h
      refine Ev.step (fun j => ?_) hr
      simp only [peristyleref1_IsName.l0]
      rw [if_pos (by omega), if_pos (by omega), w64s hi hs]
      by_cases c1 : bt s i ≥ 97
      · rw [if_pos c1]
        by_cases c3 : bt s i ≤ 122
        · rw [if_pos c3]
        · rw [if_neg c3, if_neg (by omega), if_neg (by omega), if_neg (by omega), if_neg (by omega)]
      · rw [if_neg c1, if_neg (by omega)]
        by_cases c2 : bt s i = 95
        · rw [if_pos c2]
        · rw [if_neg c2, if_neg (by omega), if_neg (by omega)]
    · intro i hi r h
      obtain ⟨h', rfl⟩ := okN_some h
      refine Ev.step (f := fun _ => some false) (fun j => ?_) (Ev.now _)
      simp only [peristyleref1_IsName.l0]
      rw [if_pos (by omega), if_pos (by omega)]
      by_cases c1 : bt s i ≥ 97
      · rw [if_pos c1, if_neg (by omega)]
        by_cases c0 : (i : Int) = 0
        · rw [if_pos c0]
        · rw [if_neg c0, if_neg (by omega), if_neg (by omega), if_pos (by omega)]
      · rw [if_neg c1]
        by_cases c0 : (i : Int) = 0
        · rw [if_pos c0]
        · rw [if_neg c0, if_neg (by omega)]
          by_cases c2 : bt s i < 48
          · rw [if_pos c2]
          · rw [if_neg c2, if_pos (by omega)]
    · by_cases ht : s.toList = []
      · refine Ev.step (f := fun _ => some false) (fun j => ?_) (by rw [if_pos ht]; exact Ev.now _)
        simp only [peristyleref1_IsName.l0]
        rw [if_neg (by omega), if_pos ht]
      · refine Ev.step (f := fun _ => some (decide ((s.size : Int) ≤ 32))) (fun j => ?_) (by rw [if_neg ht]; exact Ev.now _)
        simp only [peristyleref1_IsName.l0]
        rw [if_neg (by omega), if_neg ht]
  have e : scan (okN s) (if s.toList = [] then false else decide ((s.size : Int) ≤ 32)) 0 s.size = isN s := by
    rw [scan_true _ _ _ _ (fun j r h => (okN_some h).2)]
    unfold isN
    by_cases ht : s.toList = []
    · simp [ht]
    · by_cases hl : 32 < s.size
      · simp [ht, hl]; omega
      · simp only [if_neg ht, if_neg hl]
        rw [decide_eq_true (by omega : (s.size : Int) ≤ 32), Bool.and_true]
  rw [e] at main
  exact main

/-! ### columns -/
abbrev Col := S80
abbrev Rw := S50
abbrev colAt (l : List Col) (i : Nat) : Col := rd_T80 l (i : Int)
abbrev rowAt (l : List Rw) (i : Nat) : Rw := rd_T50 l (i : Int)
theorem colAt_eq (l : List Col) (i : Nat) : rd_T80 l (i : Int) = l.getD i z80 := rfl
theorem colAt_mem {l : List Col} {i : Nat} (h : i < l.length) : colAt l i ∈ l := by
  show l.getD i _ ∈ l
  rw [List.getD_eq_getElem?_getD, List.getElem?_eq_getElem h]
  exact List.getElem_mem h
theorem rowAt_mem {l : List Rw} {i : Nat} (h : i < l.length) : rowAt l i ∈ l := by
  show l.getD i _ ∈ l
  rw [List.getD_eq_getElem?_getD, List.getElem?_eq_getElem h]
  exact List.getElem_mem h
theorem colAt_take {l : List Col} {i j : Nat} (h : j < i) : colAt (l.take i) j = colAt l j := by
  show (l.take i).getD j _ = l.getD j _
  rw [List.getD_eq_getElem?_getD, List.getD_eq_getElem?_getD, List.getElem?_take_of_lt h]

/-- What is wrong with column i. -/
def colT (l : List Col) (i : Nat) : Option Int :=
  if isN (colAt l i).f0 = true then
    (if ∃ j, j < i ∧ (colAt l j).f0.toList = (colAt l i).f0.toList then some 7
     else if 1 ≤ (colAt l i).f1 ∧ (colAt l i).f1 ≤ 3 then none else some 4)
  else some 5
/-- What is wrong with columns. -/
def cc (l : List Col) : Int := if 20 < l.length then 2 else if l.length = 0 then 6 else scan (colT l) 0 0 l.length

theorem CC (l : List Col) (hs : ∀ c ∈ l, c.f0.size ≤ 9223372036854775807) : Ev (fun k => value_CheckColumns.f k l) (cc l) := by
  unfold value_CheckColumns.f cc
  by_cases h20 : 20 < l.length
  · simp only [if_pos h20, if_pos (show (l.length : Int) > 20 by omega)]; exact Ev.now _
  simp only [if_neg h20, if_neg (show ¬ (l.length : Int) > 20 by omega)]
  by_cases h0 : l.length = 0
  · simp only [if_pos h0, if_pos (show (l.length : Int) = 0 by omega)]; exact Ev.now _
  simp only [if_neg h0, if_neg (show ¬ (l.length : Int) = 0 by omega)]
  have inner : ∀ i, i < l.length → isN (colAt l i).f0 = true → ∀ r, ((¬ ∃ j, j < i ∧ (colAt l j).f0.toList = (colAt l i).f0.toList) → Ev (fun k => if 1 ≤ (colAt l i).f1 ∧ (colAt l i).f1 ≤ 3 then value_CheckColumns.l0 k l l (l.length : Int) ((i + 1 : Nat) : Int) else some 4) r) →
      Ev (fun k => value_CheckColumns.l0 k l l (l.length : Int) (i : Int)) (if ∃ j, j < i ∧ (colAt l j).f0.toList = (colAt l i).f0.toList then 7 else r) := by
    intro i hi hn r hr
    refine Ev.step (f := fun k => (kit_Name.f k (colAt l i).f0).bind fun t => if t = true then value_CheckColumns.l1 k l l (l.length : Int) i (l.take i) (((l.take i).length : Nat) : Int) 0 (colAt l i).f0 (colAt l i).f1 else some 5) (fun k => ?_) ?_
    · simp only [value_CheckColumns.l0]
      rw [if_pos (by omega), if_pos (by omega), if_pos (by omega)]
      simp only [if_pos (show (i : Int) ≤ (l.length : Int) by omega), Option.bind_some, Int.toNat_natCast]
    refine Ev.bind (Name_ev _ (hs _ (colAt_mem hi))) ?_
    rw [hn]
    simp only [if_true]
    have hlen : (l.take i).length = i := by rw [List.length_take]; omega
    rw [hlen, ← scan_if]
    refine scan_ev2 (told := fun j => if (colAt l j).f0.toList = (colAt l i).f0.toList then some 7 else none) (fun k j => value_CheckColumns.l1 k l l (l.length : Int) i (l.take i) (i : Int) j (colAt l i).f0 (colAt l i).f1) i ?_ ?_ (fun hno => ?_)
    · intro j hj h r hr
      refine Ev.step (fun k => ?_) hr
      simp only [value_CheckColumns.l1]
      rw [if_pos (by omega), if_pos (by omega), if_pos (by rw [hlen]; omega), w64s hj (by omega), if_neg]
      have := colAt_take (l := l) hj
      unfold colAt at this
      rw [this]
      intro e
      simp only [if_pos e] at h
      cases h
    · intro j hj r h
      have e : (colAt l j).f0.toList = (colAt l i).f0.toList ∧ r = 7 := by
        by_cases e : (colAt l j).f0.toList = (colAt l i).f0.toList
        · simp only [if_pos e] at h; exact ⟨e, (Option.some.inj h).symm⟩
        · simp only [if_neg e] at h; cases h
      obtain ⟨e, rfl⟩ := e
      refine Ev.step (f := fun _ => some 7) (fun k => ?_) (Ev.now _)
      simp only [value_CheckColumns.l1]
      rw [if_pos (by omega), if_pos (by omega), if_pos (by rw [hlen]; omega), if_pos]
      have := colAt_take (l := l) hj
      unfold colAt at this
      rw [this]
      exact e
    · refine Ev.step (fun k => ?_) (hr fun ⟨j, hj, e⟩ => by have := hno j hj; simp only [if_pos e] at this; cases this)
      simp only [value_CheckColumns.l1]
      rw [if_neg (by omega), kit_In_f, w64s hi (by omega)]
      simp only [Option.bind_some, decide_eq_true_eq]
  refine scan_ev (told := colT l) (fun k i => value_CheckColumns.l0 k l l (l.length : Int) i) l.length ?_ ?_ ?_ l.length 0 (by omega)
  · intro i hi h r hr
    unfold colT at h
    by_cases hn : isN (colAt l i).f0 = true
    · rw [if_pos hn] at h
      by_cases hd : ∃ j, j < i ∧ (colAt l j).f0.toList = (colAt l i).f0.toList
      · rw [if_pos hd] at h; cases h
      · rw [if_neg hd] at h
        by_cases hk : 1 ≤ (colAt l i).f1 ∧ (colAt l i).f1 ≤ 3
        · have := inner i hi hn r (fun _ => by simp only [if_pos hk]; exact hr)
          rw [if_neg hd] at this
          exact this
        · rw [if_neg hk] at h; cases h
    · rw [if_neg hn] at h; cases h
  · intro i hi r h
    unfold colT at h
    by_cases hn : isN (colAt l i).f0 = true
    · rw [if_pos hn] at h
      by_cases hd : ∃ j, j < i ∧ (colAt l j).f0.toList = (colAt l i).f0.toList
      · rw [if_pos hd] at h
        have := inner i hi hn 4 (fun h' => absurd hd h')
        rw [if_pos hd, Option.some.inj h] at this
        exact this
      · rw [if_neg hd] at h
        by_cases hk : 1 ≤ (colAt l i).f1 ∧ (colAt l i).f1 ≤ 3
        · rw [if_pos hk] at h; cases h
        · rw [if_neg hk] at h
          have := inner i hi hn 4 (fun _ => by simp only [if_neg hk]; exact Ev.now _)
          rw [if_neg hd, Option.some.inj h] at this
          exact this
    · rw [if_neg hn] at h
      obtain rfl := Option.some.inj h
      refine Ev.step (f := fun k => (kit_Name.f k (colAt l i).f0).bind fun t => if t = true then value_CheckColumns.l1 k l l (l.length : Int) i (l.take i) (((l.take i).length : Nat) : Int) 0 (colAt l i).f0 (colAt l i).f1 else some 5) (fun k => ?_) ?_
      · simp only [value_CheckColumns.l0]
        rw [if_pos (by omega), if_pos (by omega), if_pos (by omega)]
        simp only [if_pos (show (i : Int) ≤ (l.length : Int) by omega), Option.bind_some, Int.toNat_natCast]
      refine Ev.bind (Name_ev _ (hs _ (colAt_mem hi))) ?_
      simp only [if_neg hn]
      exact Ev.now _
  · refine Ev.step (f := fun _ => some 0) (fun k => ?_) (Ev.now _)
    simp only [value_CheckColumns.l0]
    rw [if_neg (by omega)]

theorem CCr (l : List Col) (hs : ∀ c ∈ l, c.f0.size ≤ 9223372036854775807) : Ev (fun k => peristyleref1_CheckColumns.f k l) (cc l) := by
  unfold peristyleref1_CheckColumns.f cc
  by_cases h20 : 20 < l.length
  · simp only [if_pos h20, if_pos (show (l.length : Int) > 20 by omega)]; exact Ev.now _
  simp only [if_neg h20, if_neg (show ¬ (l.length : Int) > 20 by omega)]
  by_cases h0 : l.length = 0
  · simp only [if_pos h0, if_pos (show (l.length : Int) = 0 by omega)]; exact Ev.now _
  simp only [if_neg h0, if_neg (show ¬ (l.length : Int) = 0 by omega)]
  have inner : ∀ i, i < l.length → isN (colAt l i).f0 = true → ∀ r, ((¬ ∃ j, j < i ∧ (colAt l j).f0.toList = (colAt l i).f0.toList) → Ev (fun k => if 1 ≤ (colAt l i).f1 ∧ (colAt l i).f1 ≤ 3 then peristyleref1_CheckColumns.l0 k l ((i + 1 : Nat) : Int) else some 4) r) →
      Ev (fun k => peristyleref1_CheckColumns.l0 k l (i : Int)) (if ∃ j, j < i ∧ (colAt l j).f0.toList = (colAt l i).f0.toList then 7 else r) := by
    intro i hi hn r hr
    refine Ev.step (f := fun k => (peristyleref1_IsName.f k (colAt l i).f0).bind fun t => if t = true then peristyleref1_CheckColumns.l1 k l i 0 else some 5) (fun k => ?_) ?_
    · simp only [peristyleref1_CheckColumns.l0]
      rw [if_pos (by omega), if_pos (by omega)]
    refine Ev.bind (IsName_ev _ (hs _ (colAt_mem hi))) ?_
    rw [hn]
    simp only [if_true]
    rw [← scan_if]
    refine scan_ev2 (told := fun j => if (colAt l j).f0.toList = (colAt l i).f0.toList then some 7 else none) (fun k j => peristyleref1_CheckColumns.l1 k l i j) i ?_ ?_ (fun hno => ?_)
    · intro j hj h r hr
      refine Ev.step (fun k => ?_) hr
      simp only [peristyleref1_CheckColumns.l1]
      rw [if_pos (by omega), if_pos (by omega), if_pos (by omega), if_pos (by omega), if_pos (by omega), w64s hj (by omega), if_neg]
      intro e
      simp only [if_pos e] at h
      cases h
    · intro j hj r h
      have e : (colAt l j).f0.toList = (colAt l i).f0.toList ∧ r = 7 := by
        by_cases e : (colAt l j).f0.toList = (colAt l i).f0.toList
        · simp only [if_pos e] at h; exact ⟨e, (Option.some.inj h).symm⟩
        · simp only [if_neg e] at h; cases h
      obtain ⟨e, rfl⟩ := e
      refine Ev.step (f := fun _ => some 7) (fun k => ?_) (Ev.now _)
      simp only [peristyleref1_CheckColumns.l1]
      rw [if_pos (by omega), if_pos (by omega), if_pos (by omega), if_pos (by omega), if_pos (by omega), if_pos e]
    · refine Ev.step (fun k => ?_) (hr fun ⟨j, hj, e⟩ => by have := hno j hj; simp only [if_pos e] at this; cases this)
      simp only [peristyleref1_CheckColumns.l1]
      rw [if_neg (by omega), if_pos (by omega), if_pos (by omega), within_f, w64s hi (by omega)]
      simp only [Option.bind_some, decide_eq_true_eq]
  refine scan_ev (told := colT l) (fun k i => peristyleref1_CheckColumns.l0 k l i) l.length ?_ ?_ ?_ l.length 0 (by omega)
  · intro i hi h r hr
    unfold colT at h
    by_cases hn : isN (colAt l i).f0 = true
    · rw [if_pos hn] at h
      by_cases hd : ∃ j, j < i ∧ (colAt l j).f0.toList = (colAt l i).f0.toList
      · rw [if_pos hd] at h; cases h
      · rw [if_neg hd] at h
        by_cases hk : 1 ≤ (colAt l i).f1 ∧ (colAt l i).f1 ≤ 3
        · have := inner i hi hn r (fun _ => by simp only [if_pos hk]; exact hr)
          rw [if_neg hd] at this
          exact this
        · rw [if_neg hk] at h; cases h
    · rw [if_neg hn] at h; cases h
  · intro i hi r h
    unfold colT at h
    by_cases hn : isN (colAt l i).f0 = true
    · rw [if_pos hn] at h
      by_cases hd : ∃ j, j < i ∧ (colAt l j).f0.toList = (colAt l i).f0.toList
      · rw [if_pos hd] at h
        have := inner i hi hn 4 (fun h' => absurd hd h')
        rw [if_pos hd, Option.some.inj h] at this
        exact this
      · rw [if_neg hd] at h
        by_cases hk : 1 ≤ (colAt l i).f1 ∧ (colAt l i).f1 ≤ 3
        · rw [if_pos hk] at h; cases h
        · rw [if_neg hk] at h
          have := inner i hi hn 4 (fun _ => by simp only [if_neg hk]; exact Ev.now _)
          rw [if_neg hd, Option.some.inj h] at this
          exact this
    · rw [if_neg hn] at h
      obtain rfl := Option.some.inj h
      refine Ev.step (f := fun k => (peristyleref1_IsName.f k (colAt l i).f0).bind fun t => if t = true then peristyleref1_CheckColumns.l1 k l i 0 else some 5) (fun k => ?_) ?_
      · simp only [peristyleref1_CheckColumns.l0]
        rw [if_pos (by omega), if_pos (by omega)]
      refine Ev.bind (IsName_ev _ (hs _ (colAt_mem hi))) ?_
      simp only [if_neg hn]
      exact Ev.now _
  · refine Ev.step (f := fun _ => some 0) (fun k => ?_) (Ev.now _)
    simp only [peristyleref1_CheckColumns.l0]
    rw [if_neg (by omega)]

/-! ### rows and tables -/
theorem cv_ne {k n : Int} {s : ByteArray} : 0 ≤ cv k n s ∧ cv k n s ≤ 4 := by
  have hsc : ∀ d i, scan (okB s) 0 i d = 0 ∨ scan (okB s) 0 i d = 3 := by
    intro d
    induction d with
    | zero => intro i; exact .inl rfl
    | succ d ih =>
      intro i
      unfold scan
      cases ht : okB s i with
      | none => exact ih (i + 1)
      | some r =>
        unfold okB at ht
        split at ht
        · cases ht
        · exact .inr (Option.some.inj ht).symm
  unfold cv
  have := hsc s.size 0
  repeat' split
  all_goals omega
/-- What is wrong with value i of a row. -/
def valT (c : List Col) (r : List Val) (i : Nat) : Option Int :=
  if cv (valAt r i).f0 (valAt r i).f1 (valAt r i).f2 = 0 then (if (valAt r i).f0 = 0 ∨ (valAt r i).f0 = (colAt c i).f1 then none else some 10)
  else some (cv (valAt r i).f0 (valAt r i).f1 (valAt r i).f2)
/-- What is wrong with a row. -/
def cr (c : List Col) (r : List Val) : Int := if r.length = c.length then scan (valT c r) 0 0 r.length else 3
theorem CR (c : List Col) (r : List Val) (hs : ∀ v ∈ r, v.f2.size ≤ 9223372036854775807) (hn : r.length ≤ 9223372036854775807) : Ev (fun k => value_CheckRow.f k c r) (cr c r) := by
  unfold value_CheckRow.f cr
  by_cases h : r.length = c.length
  · simp only [if_pos h, if_pos (show (r.length : Int) = (c.length : Int) by omega)]
    have body : ∀ i, i < r.length → ∀ q, Ev (fun k => if cv (valAt r i).f0 (valAt r i).f1 (valAt r i).f2 = 0 then (if (valAt r i).f0 = 0 then value_CheckRow.l0 k c r (r.length : Int) ((i + 1 : Nat) : Int) else if (valAt r i).f0 = (colAt c i).f1 then value_CheckRow.l0 k c r (r.length : Int) ((i + 1 : Nat) : Int) else some 10) else some (cv (valAt r i).f0 (valAt r i).f1 (valAt r i).f2)) q →
        Ev (fun k => value_CheckRow.l0 k c r (r.length : Int) (i : Int)) q := by
      intro i hi q hq
      refine Ev.step (f := fun k => (value_CheckValue.f k (valAt r i).f0 (valAt r i).f1 (valAt r i).f2).bind fun t => if t = 0 then (if (valAt r i).f0 = 0 then value_CheckRow.l0 k c r (r.length : Int) ((i + 1 : Nat) : Int) else if (valAt r i).f0 = (colAt c i).f1 then value_CheckRow.l0 k c r (r.length : Int) ((i + 1 : Nat) : Int) else some 10) else some t) (fun k => ?_) ?_
      · simp only [value_CheckRow.l0]
        rw [if_pos (by omega), if_pos (by omega), if_pos (by omega), if_pos (show (i : Int) < (c.length : Int) by omega), w64s hi hn]
        simp only [kit_IsNull.f, Option.bind_some, beq_iff_eq]
      · exact Ev.bind (CV _ _ _ (hs _ (valAt_mem hi))) hq
    refine scan_ev (told := valT c r) (fun k i => value_CheckRow.l0 k c r (r.length : Int) i) r.length ?_ ?_ ?_ r.length 0 (by omega)
    · intro i hi ht q hq
      unfold valT at ht
      refine body i hi q ?_
      by_cases h0 : cv (valAt r i).f0 (valAt r i).f1 (valAt r i).f2 = 0
      · simp only [if_pos h0]
        rw [if_pos h0] at ht
        by_cases h1 : (valAt r i).f0 = 0
        · simp only [if_pos h1]; exact hq
        · simp only [if_neg h1]
          by_cases h2 : (valAt r i).f0 = (colAt c i).f1
          · simp only [if_pos h2]; exact hq
          · rw [if_neg (by rintro (e | e); exact h1 e; exact h2 e)] at ht; cases ht
      · rw [if_neg h0] at ht; cases ht
    · intro i hi q ht
      unfold valT at ht
      refine body i hi q ?_
      by_cases h0 : cv (valAt r i).f0 (valAt r i).f1 (valAt r i).f2 = 0
      · simp only [if_pos h0]
        rw [if_pos h0] at ht
        by_cases h1 : (valAt r i).f0 = 0
        · rw [if_pos (.inl h1)] at ht; cases ht
        · simp only [if_neg h1]
          by_cases h2 : (valAt r i).f0 = (colAt c i).f1
          · rw [if_pos (.inr h2)] at ht; cases ht
          · rw [if_neg (by rintro (e | e); exact h1 e; exact h2 e)] at ht
            simp only [if_neg h2, Option.some.inj ht]; exact Ev.now _
      · rw [if_neg h0] at ht
        obtain rfl := Option.some.inj ht
        simp only [if_neg h0]; exact Ev.now _
    · refine Ev.step (f := fun _ => some 0) (fun k => ?_) (Ev.now _)
      simp only [value_CheckRow.l0]
      rw [if_neg (by omega)]
  · simp only [if_neg h, if_neg (show ¬ (r.length : Int) = (c.length : Int) by omega)]
    exact Ev.now _
theorem CRr (c : List Col) (r : List Val) (hs : ∀ v ∈ r, v.f2.size ≤ 9223372036854775807) (hn : r.length ≤ 9223372036854775807) : Ev (fun k => peristyleref1_CheckRow.f k c r) (cr c r) := by
  unfold peristyleref1_CheckRow.f cr
  by_cases h : r.length = c.length
  · simp only [if_pos h, if_pos (show (r.length : Int) = (c.length : Int) by omega)]
    have body : ∀ i, i < r.length → ∀ q, Ev (fun k => if cv (valAt r i).f0 (valAt r i).f1 (valAt r i).f2 = 0 then (if (valAt r i).f0 = 0 then peristyleref1_CheckRow.l0 k c ((i + 1 : Nat) : Int) r else if (valAt r i).f0 = (colAt c i).f1 then peristyleref1_CheckRow.l0 k c ((i + 1 : Nat) : Int) r else some 10) else some (cv (valAt r i).f0 (valAt r i).f1 (valAt r i).f2)) q →
        Ev (fun k => peristyleref1_CheckRow.l0 k c (i : Int) r) q := by
      intro i hi q hq
      refine Ev.step (f := fun k => (peristyleref1_CheckValue.f k (valAt r i).f0 (valAt r i).f1 (valAt r i).f2).bind fun t => if t = 0 then (if (valAt r i).f0 = 0 then peristyleref1_CheckRow.l0 k c ((i + 1 : Nat) : Int) r else if (valAt r i).f0 = (colAt c i).f1 then peristyleref1_CheckRow.l0 k c ((i + 1 : Nat) : Int) r else some 10) else some t) (fun k => ?_) ?_
      · simp only [peristyleref1_CheckRow.l0]
        rw [if_pos (by omega), if_pos (by omega), if_pos (by omega), w64s (show i < c.length by omega) (by omega)]
      · exact Ev.bind (CVr _ _ _ (hs _ (valAt_mem hi))) hq
    refine scan_ev (told := valT c r) (fun k i => peristyleref1_CheckRow.l0 k c i r) r.length ?_ ?_ ?_ r.length 0 (by omega)
    · intro i hi ht q hq
      unfold valT at ht
      refine body i hi q ?_
      by_cases h0 : cv (valAt r i).f0 (valAt r i).f1 (valAt r i).f2 = 0
      · simp only [if_pos h0]
        rw [if_pos h0] at ht
        by_cases h1 : (valAt r i).f0 = 0
        · simp only [if_pos h1]; exact hq
        · simp only [if_neg h1]
          by_cases h2 : (valAt r i).f0 = (colAt c i).f1
          · simp only [if_pos h2]; exact hq
          · rw [if_neg (by rintro (e | e); exact h1 e; exact h2 e)] at ht; cases ht
      · rw [if_neg h0] at ht; cases ht
    · intro i hi q ht
      unfold valT at ht
      refine body i hi q ?_
      by_cases h0 : cv (valAt r i).f0 (valAt r i).f1 (valAt r i).f2 = 0
      · simp only [if_pos h0]
        rw [if_pos h0] at ht
        by_cases h1 : (valAt r i).f0 = 0
        · rw [if_pos (.inl h1)] at ht; cases ht
        · simp only [if_neg h1]
          by_cases h2 : (valAt r i).f0 = (colAt c i).f1
          · rw [if_pos (.inr h2)] at ht; cases ht
          · rw [if_neg (by rintro (e | e); exact h1 e; exact h2 e)] at ht
            simp only [if_neg h2, Option.some.inj ht]; exact Ev.now _
      · rw [if_neg h0] at ht
        obtain rfl := Option.some.inj ht
        simp only [if_neg h0]; exact Ev.now _
    · refine Ev.step (f := fun _ => some 0) (fun k => ?_) (Ev.now _)
      simp only [peristyleref1_CheckRow.l0]
      rw [if_neg (by omega)]
  · simp only [if_neg h, if_neg (show ¬ (r.length : Int) = (c.length : Int) by omega)]
    exact Ev.now _
end Go.Proofs.YtokphfhihhdfpaaDoor.Pure
