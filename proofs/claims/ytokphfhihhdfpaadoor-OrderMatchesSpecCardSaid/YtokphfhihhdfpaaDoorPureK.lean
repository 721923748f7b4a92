/- Plain laws, part K: keys, and the order of rows by keys: CheckKeys and Before of the program and of the reference. -/
import Derived.Test.YtokphfhihhdfpaaDoorPureT
import Derived.Test.YtokphfhihhdfpaaDoorPureB
import Derived.Test.YtokphfhihhdfpaaDoorQxKeys
import Derived.Test.YtokphfhihhdfpaaDoorQxRefKeys
namespace Go.Proofs.YtokphfhihhdfpaaDoor.Pure
open Go.RowKit Go.Proofs.YtokphfhihhdfpaaDoor.Q Go.Proofs.YtokphfhihhdfpaaDoor.Ext Go.Proofs.YtokphfhihhdfpaaDoorW.PrintWords Go.Proofs.YtokphfhihhdfpaaDoorW.PrintLast Go.Proofs.YtokphfhihhdfpaaDoorW.PrintMore
set_option linter.unusedVariables false
set_option linter.unusedSimpArgs false

abbrev Ky := S138
abbrev keyAt (l : List Ky) (i : Nat) : Ky := rd_T138 l (i : Int)
abbrev vAt (l : List Val) (i : Int) : Val := rd_T23 l i
theorem keyAt_take {l : List Ky} {i j : Nat} (h : j < i) : keyAt (l.take i) j = keyAt l j := by
  show (l.take i).getD j _ = l.getD j _
  rw [List.getD_eq_getElem?_getD, List.getD_eq_getElem?_getD, List.getElem?_take_of_lt h]
theorem vAt_mem {l : List Val} {i : Int} (h0 : 0 ≤ i) (h : i < l.length) : vAt l i ∈ l := by
  have e : i = ((i.toNat : Nat) : Int) := by omega
  rw [e]
  exact valAt_mem (by omega)
/-- What is wrong with key i of a table of n columns. -/
def keyT (n : Nat) (l : List Ky) (i : Nat) : Option Int :=
  if 0 ≤ (keyAt l i).f0 ∧ (keyAt l i).f0 ≤ (n : Int) - 1 then (if ∃ j, j < i ∧ (keyAt l j).f0 = (keyAt l i).f0 then some 7 else none) else some 1
def ck (n : Nat) (l : List Ky) : Int := scan (keyT n l) 0 0 l.length
theorem ck_zero {n : Nat} {l : List Ky} (h : ck n l = 0) : ∀ i, i < l.length → 0 ≤ (keyAt l i).f0 ∧ (keyAt l i).f0 < (n : Int) := by
  intro i hi
  have := scan_fin (t := keyT n l) (fin := 0) (fun j e => by unfold keyT at e; split at e <;> (try split at e) <;> cases e) l.length 0 h i (by omega) (by omega)
  unfold keyT at this
  split at this
  · omega
  · cases this
theorem CK (c : List Col) (l : List Ky) (hc : c.length ≤ 9223372036854775807) (hl : l.length ≤ 9223372036854775807) : Ev (fun k => value_CheckKeys.f k c l) (ck c.length l) := by
  unfold value_CheckKeys.f
  have wl : wrap64 ((c.length : Int) - 1) = (c.length : Int) - 1 := w64 (by omega) (by omega)
  have inner : ∀ i, i < l.length → ∀ r, ((¬ ∃ j, j < i ∧ (keyAt l j).f0 = (keyAt l i).f0) → Ev (fun k => value_CheckKeys.l0 k c l l (l.length : Int) ((i + 1 : Nat) : Int)) r) →
      Ev (fun k => value_CheckKeys.l1 k c l l (l.length : Int) i (l.take i) (i : Int) 0 (keyAt l i).f0 (keyAt l i).f1 (keyAt l i).f2) (if ∃ j, j < i ∧ (keyAt l j).f0 = (keyAt l i).f0 then 7 else r) := by
    intro i hi r hr
    have hlen : (l.take i).length = i := by rw [List.length_take]; omega
    rw [← scan_if]
    refine scan_ev2 (told := fun j => if (keyAt l j).f0 = (keyAt l i).f0 then some 7 else none) (fun k j => value_CheckKeys.l1 k c l l (l.length : Int) i (l.take i) (i : Int) j (keyAt l i).f0 (keyAt l i).f1 (keyAt l i).f2) i ?_ ?_ (fun hno => ?_)
    · intro j hj h r hr
      refine Ev.step (fun k => ?_) hr
      simp only [value_CheckKeys.l1]
      rw [if_pos (by omega), if_pos (by omega), if_pos (by rw [hlen]; omega), w64s hj (by omega), if_neg]
      have := keyAt_take (l := l) hj
      unfold keyAt at this
      rw [this]
      intro e
      simp only [if_pos e] at h
      cases h
    · intro j hj r h
      have e : (keyAt l j).f0 = (keyAt l i).f0 ∧ r = 7 := by
        by_cases e : (keyAt l j).f0 = (keyAt l i).f0
        · simp only [if_pos e] at h; exact ⟨e, (Option.some.inj h).symm⟩
        · simp only [if_neg e] at h; cases h
      obtain ⟨e, rfl⟩ := e
      refine Ev.step (f := fun _ => some 7) (fun k => ?_) (Ev.now _)
      simp only [value_CheckKeys.l1]
      rw [if_pos (by omega), if_pos (by omega), if_pos (by rw [hlen]; omega), if_pos]
      have := keyAt_take (l := l) hj
      unfold keyAt at this
      rw [this]
      exact e
    · refine Ev.step (fun k => ?_) (hr fun ⟨j, hj, e⟩ => by have := hno j hj; simp only [if_pos e] at this; cases this)
      simp only [value_CheckKeys.l1]
      rw [if_neg (by omega), w64s hi (by omega)]
  have hlen : ∀ i, i < l.length → (((l.take i).length : Nat) : Int) = i := fun i hi => by rw [List.length_take]; omega
  have head : ∀ i, i < l.length → ∀ k, value_CheckKeys.l0 (k + 1) c l l (l.length : Int) (i : Int) = if 0 ≤ (keyAt l i).f0 ∧ (keyAt l i).f0 ≤ (c.length : Int) - 1 then value_CheckKeys.l1 k c l l (l.length : Int) i (l.take i) (i : Int) 0 (keyAt l i).f0 (keyAt l i).f1 (keyAt l i).f2 else some 1 := by
    intro i hi k
    simp only [value_CheckKeys.l0]
    rw [if_pos (by omega), if_pos (by omega), if_pos (by omega), kit_In_f, wl]
    simp only [Option.bind_some, decide_eq_true_eq, if_pos (show (i : Int) ≤ (l.length : Int) by omega), Int.toNat_natCast, hlen i hi]
  refine scan_ev (told := keyT c.length l) (fun k i => value_CheckKeys.l0 k c l l (l.length : Int) i) l.length ?_ ?_ ?_ l.length 0 (by omega)
  · intro i hi h r hr
    unfold keyT at h
    by_cases hn : 0 ≤ (keyAt l i).f0 ∧ (keyAt l i).f0 ≤ (c.length : Int) - 1
    · rw [if_pos hn] at h
      by_cases hd : ∃ j, j < i ∧ (keyAt l j).f0 = (keyAt l i).f0
      · rw [if_pos hd] at h; cases h
      · have := inner i hi r (fun _ => hr)
        rw [if_neg hd] at this
        exact Ev.step (fun k => by rw [head i hi k, if_pos hn]) this
    · rw [if_neg hn] at h; cases h
  · intro i hi r h
    unfold keyT at h
    by_cases hn : 0 ≤ (keyAt l i).f0 ∧ (keyAt l i).f0 ≤ (c.length : Int) - 1
    · rw [if_pos hn] at h
      by_cases hd : ∃ j, j < i ∧ (keyAt l j).f0 = (keyAt l i).f0
      · rw [if_pos hd] at h
        have := inner i hi 4 (fun h' => absurd hd h')
        rw [if_pos hd, Option.some.inj h] at this
        exact Ev.step (fun k => by rw [head i hi k, if_pos hn]) this
      · rw [if_neg hd] at h; cases h
    · rw [if_neg hn] at h
      rw [← Option.some.inj h]
      exact Ev.step (f := fun _ => some 1) (fun k => by rw [head i hi k, if_neg hn]) (Ev.now _)
  · refine Ev.step (f := fun _ => some 0) (fun k => ?_) (Ev.now _)
    simp only [value_CheckKeys.l0]
    rw [if_neg (by omega)]
theorem CKr (c : List Col) (l : List Ky) (hc : c.length ≤ 9223372036854775807) (hl : l.length ≤ 9223372036854775807) : Ev (fun k => peristyleref1_CheckKeys.f k c l) (ck c.length l) := by
  unfold peristyleref1_CheckKeys.f
  have wl : wrap64 ((c.length : Int) - 1) = (c.length : Int) - 1 := w64 (by omega) (by omega)
  have inner : ∀ i, i < l.length → ∀ r, ((¬ ∃ j, j < i ∧ (keyAt l j).f0 = (keyAt l i).f0) → Ev (fun k => peristyleref1_CheckKeys.l0 k c l ((i + 1 : Nat) : Int)) r) →
      Ev (fun k => peristyleref1_CheckKeys.l1 k c l i 0) (if ∃ j, j < i ∧ (keyAt l j).f0 = (keyAt l i).f0 then 7 else r) := by
    intro i hi r hr
    rw [← scan_if]
    refine scan_ev2 (told := fun j => if (keyAt l j).f0 = (keyAt l i).f0 then some 7 else none) (fun k j => peristyleref1_CheckKeys.l1 k c l i j) i ?_ ?_ (fun hno => ?_)
    · intro j hj h r hr
      refine Ev.step (fun k => ?_) hr
      simp only [peristyleref1_CheckKeys.l1]
      rw [if_pos (by omega), if_pos (by omega), if_pos (by omega), if_pos (by omega), if_pos (by omega), w64s hj (by omega), if_neg]
      intro e
      simp only [if_pos e] at h
      cases h
    · intro j hj r h
      have e : (keyAt l j).f0 = (keyAt l i).f0 ∧ r = 7 := by
        by_cases e : (keyAt l j).f0 = (keyAt l i).f0
        · simp only [if_pos e] at h; exact ⟨e, (Option.some.inj h).symm⟩
        · simp only [if_neg e] at h; cases h
      obtain ⟨e, rfl⟩ := e
      refine Ev.step (f := fun _ => some 7) (fun k => ?_) (Ev.now _)
      simp only [peristyleref1_CheckKeys.l1]
      rw [if_pos (by omega), if_pos (by omega), if_pos (by omega), if_pos (by omega), if_pos (by omega), if_pos]
      exact e
    · refine Ev.step (fun k => ?_) (hr fun ⟨j, hj, e⟩ => by have := hno j hj; simp only [if_pos e] at this; cases this)
      simp only [peristyleref1_CheckKeys.l1]
      rw [if_neg (by omega), w64s hi (by omega)]
  have head : ∀ i, i < l.length → ∀ k, peristyleref1_CheckKeys.l0 (k + 1) c l (i : Int) = if 0 ≤ (keyAt l i).f0 ∧ (keyAt l i).f0 ≤ (c.length : Int) - 1 then peristyleref1_CheckKeys.l1 k c l i 0 else some 1 := by
    intro i hi k
    simp only [peristyleref1_CheckKeys.l0]
    rw [if_pos (by omega), if_pos (by omega), within_f, wl]
    simp only [Option.bind_some, decide_eq_true_eq]
  refine scan_ev (told := keyT c.length l) (fun k i => peristyleref1_CheckKeys.l0 k c l i) l.length ?_ ?_ ?_ l.length 0 (by omega)
  · intro i hi h r hr
    unfold keyT at h
    by_cases hn : 0 ≤ (keyAt l i).f0 ∧ (keyAt l i).f0 ≤ (c.length : Int) - 1
    · rw [if_pos hn] at h
      by_cases hd : ∃ j, j < i ∧ (keyAt l j).f0 = (keyAt l i).f0
      · rw [if_pos hd] at h; cases h
      · have := inner i hi r (fun _ => hr)
        rw [if_neg hd] at this
        exact Ev.step (fun k => by rw [head i hi k, if_pos hn]) this
    · rw [if_neg hn] at h; cases h
  · intro i hi r h
    unfold keyT at h
    by_cases hn : 0 ≤ (keyAt l i).f0 ∧ (keyAt l i).f0 ≤ (c.length : Int) - 1
    · rw [if_pos hn] at h
      by_cases hd : ∃ j, j < i ∧ (keyAt l j).f0 = (keyAt l i).f0
      · rw [if_pos hd] at h
        have := inner i hi 4 (fun h' => absurd hd h')
        rw [if_pos hd, Option.some.inj h] at this
        exact Ev.step (fun k => by rw [head i hi k, if_pos hn]) this
      · rw [if_neg hd] at h; cases h
    · rw [if_neg hn] at h
      rw [← Option.some.inj h]
      exact Ev.step (f := fun _ => some 1) (fun k => by rw [head i hi k, if_neg hn]) (Ev.now _)
  · refine Ev.step (f := fun _ => some 0) (fun k => ?_) (Ev.now _)
    simp only [peristyleref1_CheckKeys.l0]
    rw [if_neg (by omega)]

/-! ### the order by keys -/
def keyOrd (q : Ky) (a b : Val) : Int := if ord a b = 0 then 0 else if a.f0 = 0 ∨ b.f0 = 0 then (if q.f2 = true then ord a b else - ord a b) else (if q.f1 = true then - ord a b else ord a b)
theorem keyOrd_zero {q : Ky} {a b : Val} : keyOrd q a b = 0 ↔ ord a b = 0 := by
  unfold keyOrd
  split
  · exact ⟨fun _ => by assumption, fun _ => rfl⟩
  · split <;> split <;> omega
theorem ByKey_ev (q : Ky) {a b : Val} (ha : cvV a = 0) (hb : cvV b = 0) : Ev (fun k => kit_ByKey.f k q.f0 q.f1 q.f2 a.f0 a.f1 a.f2 b.f0 b.f1 b.f2) (keyOrd q a b) := by
  unfold kit_ByKey.f
  have hr := ord_range a b
  have wn : wrap64 (- ord a b) = - ord a b := w64 (by omega) (by omega)
  simp only [Compare_kit ha hb, Option.bind_some, kit_IsNull.f, beq_iff_eq]
  unfold keyOrd
  by_cases h : ord a b = 0
  · simp only [if_pos h]; exact Ev.now _
  · simp only [if_neg h]
    have nul : ∀ v : Bool, v = true → Ev (fun k => kit_ByKey.j0 k (ord a b) v q.f0 q.f1 q.f2) (if q.f2 = true then ord a b else - ord a b) := by
      intro v hv; subst hv
      refine Ev.step (f := fun _ => some _) (fun k => ?_) (Ev.now _)
      simp only [kit_ByKey.j0, if_true, wn]
      by_cases h2 : q.f2 = true
      · rw [if_pos h2, if_pos h2]
      · rw [if_neg h2, if_neg h2]
    by_cases h0 : a.f0 = 0
    · rw [if_pos (Or.inl h0)]; simp only [if_pos h0]; exact nul true rfl
    · simp only [if_neg h0]
      by_cases h1 : b.f0 = 0
      · rw [if_pos (Or.inr h1)]; exact nul _ (by simpa using h1)
      · rw [if_neg (fun h => h.elim h0 h1)]
        have e : (b.f0 == 0) = false := by simpa using h1
        rw [e]
        refine Ev.step (f := fun _ => some _) (fun k => ?_) (Ev.now _)
        simp only [kit_ByKey.j0, Bool.false_eq_true, if_false, wn]
        by_cases h2 : q.f1 = true
        · rw [if_pos h2, if_pos h2]
        · rw [if_neg h2, if_neg h2]
def ordT (l : List Ky) (x y : List Val) (i : Nat) : Option Int :=
  if keyOrd (keyAt l i) (vAt x (keyAt l i).f0) (vAt y (keyAt l i).f0) = 0 then none else some (keyOrd (keyAt l i) (vAt x (keyAt l i).f0) (vAt y (keyAt l i).f0))
def byK (l : List Ky) (x y : List Val) : Int := scan (ordT l x y) 0 0 l.length
theorem ByKeys_ev (l : List Ky) (x y : List Val) (n : Nat) (hl : l.length ≤ 9223372036854775807) (hk : ∀ i, i < l.length → 0 ≤ (keyAt l i).f0 ∧ (keyAt l i).f0 < (n : Int)) (hx : x.length = n) (hy : y.length = n)
    (rx : ∀ v ∈ x, cvV v = 0) (ry : ∀ v ∈ y, cvV v = 0) : Ev (fun k => kit_ByKeys.f k l x y) (byK l x y) := by
  unfold kit_ByKeys.f
  have body : ∀ i, i < l.length → ∀ r, Ev (fun k => if keyOrd (keyAt l i) (vAt x (keyAt l i).f0) (vAt y (keyAt l i).f0) = 0 then kit_ByKeys.l0 k l (l.length : Int) ((i + 1 : Nat) : Int) x y else some (keyOrd (keyAt l i) (vAt x (keyAt l i).f0) (vAt y (keyAt l i).f0))) r →
      Ev (fun k => kit_ByKeys.l0 k l (l.length : Int) (i : Int) x y) r := by
    intro i hi r hr
    have h := hk i hi
    have mx := vAt_mem (l := x) h.1 (by omega)
    have my := vAt_mem (l := y) h.1 (by omega)
    refine Ev.step (f := fun k => (kit_ByKey.f k (keyAt l i).f0 (keyAt l i).f1 (keyAt l i).f2 (vAt x (keyAt l i).f0).f0 (vAt x (keyAt l i).f0).f1 (vAt x (keyAt l i).f0).f2 (vAt y (keyAt l i).f0).f0 (vAt y (keyAt l i).f0).f1 (vAt y (keyAt l i).f0).f2).bind fun t => if t = 0 then kit_ByKeys.l0 k l (l.length : Int) ((i + 1 : Nat) : Int) x y else some t) (fun k => ?_) (Ev.bind (ByKey_ev (keyAt l i) (rx _ mx) (ry _ my)) hr)
    simp only [kit_ByKeys.l0]
    rw [if_pos (by omega), if_pos (by omega), if_pos (by omega), if_pos h.1, if_pos (by have := h.2; unfold keyAt at this; omega), if_pos (by have := h.2; unfold keyAt at this; omega), w64s hi (by omega)]
  refine scan_ev (told := ordT l x y) (fun k i => kit_ByKeys.l0 k l (l.length : Int) i x y) l.length ?_ ?_ ?_ l.length 0 (by omega)
  · intro i hi h r hr
    refine body i hi r ?_
    unfold ordT at h
    split at h
    · rename_i h0; simp only [if_pos h0]; exact hr
    · cases h
  · intro i hi r h
    refine body i hi r ?_
    unfold ordT at h
    split at h
    · cases h
    · rename_i h0; simp only [if_neg h0]; rw [← Option.some.inj h]; exact Ev.now _
  · refine Ev.step (f := fun _ => some 0) (fun k => ?_) (Ev.now _)
    simp only [kit_ByKeys.l0]
    rw [if_neg (by omega)]
theorem bytesLess_cb : ∀ a b : List UInt8, Op.bytesLess a b = true ↔ cb a b < 0
  | a, [] => by cases a <;> simp [Op.bytesLess, cb, Lib.compareBytes]
  | [], _ :: _ => by simp [Op.bytesLess, cb, Lib.compareBytes]
  | a :: xs, b :: ys => by
    have ih := bytesLess_cb xs ys
    simp only [Op.bytesLess, cb, Lib.compareBytes, Bool.or_eq_true, Bool.and_eq_true, decide_eq_true_eq, beq_iff_eq] at ih ⊢
    by_cases h1 : a < b
    · rw [if_pos h1]; exact ⟨fun _ => by omega, fun _ => .inl h1⟩
    · rw [if_neg h1]
      by_cases h2 : b < a
      · rw [if_pos h2]
        exact ⟨fun h => h.elim (fun h => absurd h h1) (fun h => absurd h2 (by rw [h.1]; exact UInt8.lt_irrefl b)), fun h => by omega⟩
      · rw [if_neg h2]
        have e : a = b := by
          have q1 := mt UInt8.lt_iff_toNat_lt.2 h1
          have q2 := mt UInt8.lt_iff_toNat_lt.2 h2
          exact UInt8.toNat_inj.1 (by omega)
        exact ⟨fun h => h.elim (fun h => absurd h h1) (fun h => ih.1 h.2), fun h => .inr ⟨e, ih.2 h⟩⟩
theorem OrderR_f (a b : Val) : peristyleref1_Order.f a.f0 a.f1 a.f2 b.f0 b.f1 b.f2 = some (ord a b) := by
  unfold peristyleref1_Order.f ord sgn
  by_cases h0 : a.f0 = b.f0
  · rw [if_pos h0, if_neg (show ¬ a.f0 ≠ b.f0 from fun h => h h0)]
    by_cases h1 : a.f1 = b.f1
    · rw [if_pos h1, if_neg (show ¬ a.f1 ≠ b.f1 from fun h => h h1)]
      by_cases h2 : a.f2.toList = b.f2.toList
      · rw [if_pos h2, cb_zero.2 h2]
      · rw [if_neg h2]
        have := cb_range a.f2.toList b.f2.toList
        by_cases h3 : Op.bytesLess a.f2.toList b.f2.toList = true
        · rw [if_pos h3]; have := (bytesLess_cb _ _).1 h3; congr 1; omega
        · rw [if_neg h3]
          have q := mt (bytesLess_cb _ _).2 h3
          have q2 := mt cb_zero.1 h2
          congr 1; omega
    · rw [if_neg h1, if_pos h1]
      by_cases h2 : a.f1 < b.f1
      · rw [if_pos h2, if_pos h2]
      · rw [if_neg h2, if_neg h2, if_pos (by omega)]
  · rw [if_neg h0, if_pos h0]
    by_cases h2 : a.f0 < b.f0
    · rw [if_pos h2, if_pos h2]
    · rw [if_neg h2, if_neg h2, if_pos (by omega)]
theorem ByKeysR_ev (l : List Ky) (x y : List Val) (n : Nat) (hl : l.length ≤ 9223372036854775807) (hk : ∀ i, i < l.length → 0 ≤ (keyAt l i).f0 ∧ (keyAt l i).f0 < (n : Int)) (hx : x.length = n) (hy : y.length = n) :
    Ev (fun k => peristyleref1_ByKeys.f k l x y) (byK l x y) := by
  unfold peristyleref1_ByKeys.f
  have body : ∀ i, i < l.length → ∀ r, Ev (fun k => if keyOrd (keyAt l i) (vAt x (keyAt l i).f0) (vAt y (keyAt l i).f0) = 0 then peristyleref1_ByKeys.l0 k l ((i + 1 : Nat) : Int) x y else some (keyOrd (keyAt l i) (vAt x (keyAt l i).f0) (vAt y (keyAt l i).f0))) r →
      Ev (fun k => peristyleref1_ByKeys.l0 k l (i : Int) x y) r := by
    intro i hi r hr
    have h := hk i hi
    have hr0 := ord_range (vAt x (keyAt l i).f0) (vAt y (keyAt l i).f0)
    have wn : wrap64 (- ord (vAt x (keyAt l i).f0) (vAt y (keyAt l i).f0)) = - ord (vAt x (keyAt l i).f0) (vAt y (keyAt l i).f0) := w64 (by omega) (by omega)
    have head : ∀ k, peristyleref1_ByKeys.l0 (k + 1) l (i : Int) x y = if ord (vAt x (keyAt l i).f0) (vAt y (keyAt l i).f0) = 0 then peristyleref1_ByKeys.l0 k l ((i + 1 : Nat) : Int) x y else if (vAt x (keyAt l i).f0).f0 = 0 then peristyleref1_ByKeys.j1 k l i (ord (vAt x (keyAt l i).f0) (vAt y (keyAt l i).f0)) true else peristyleref1_ByKeys.j1 k l i (ord (vAt x (keyAt l i).f0) (vAt y (keyAt l i).f0)) ((vAt y (keyAt l i).f0).f0 == 0) := by
      intro k
      simp only [peristyleref1_ByKeys.l0]
      rw [if_pos (by omega), if_pos (by omega), if_pos h.1, if_pos (by have := h.2; unfold keyAt at this; omega), if_pos (by have := h.2; unfold keyAt at this; omega), w64s hi (by omega)]
      simp only [OrderR_f, Option.bind_some]
    by_cases h0 : ord (vAt x (keyAt l i).f0) (vAt y (keyAt l i).f0) = 0
    · simp only [if_pos (keyOrd_zero.2 h0)] at hr
      exact Ev.step (fun k => by rw [head k, if_pos h0]) hr
    · simp only [if_neg (mt keyOrd_zero.1 h0)] at hr
      obtain ⟨k0, hk0⟩ := Ev.rounds hr
      obtain rfl := Option.some.inj hk0
      have nul : ∀ v : Bool, v = true → Ev (fun k => peristyleref1_ByKeys.j1 k l i (ord (vAt x (keyAt l i).f0) (vAt y (keyAt l i).f0)) v) (if (keyAt l i).f2 = true then ord (vAt x (keyAt l i).f0) (vAt y (keyAt l i).f0) else - ord (vAt x (keyAt l i).f0) (vAt y (keyAt l i).f0)) := by
        intro v hv; subst hv
        refine Ev.step (f := fun _ => some _) (fun k => ?_) (Ev.now _)
        simp only [peristyleref1_ByKeys.j1, if_true, wn]
        rw [if_pos (by omega), if_pos (by omega)]
        by_cases h2 : (keyAt l i).f2 = true
        · rw [if_pos h2, if_pos h2]
        · rw [if_neg h2, if_neg h2]
      unfold keyOrd
      rw [if_neg h0]
      by_cases h1 : (vAt x (keyAt l i).f0).f0 = 0
      · rw [if_pos (Or.inl h1)]
        exact Ev.step (fun k => by rw [head k, if_neg h0, if_pos h1]) (nul true rfl)
      · by_cases h2 : (vAt y (keyAt l i).f0).f0 = 0
        · rw [if_pos (Or.inr h2)]
          exact Ev.step (fun k => by rw [head k, if_neg h0, if_neg h1]) (nul _ (by simpa using h2))
        · rw [if_neg (fun h => h.elim h1 h2)]
          have e : ((vAt y (keyAt l i).f0).f0 == 0) = false := by simpa using h2
          refine Ev.step (fun k => by rw [head k, if_neg h0, if_neg h1, e]) (?_ : Ev (fun k => peristyleref1_ByKeys.j1 k l i (ord (vAt x (keyAt l i).f0) (vAt y (keyAt l i).f0)) false) _)
          refine Ev.step (f := fun _ => some _) (fun k => ?_) (Ev.now _)
          simp only [peristyleref1_ByKeys.j1, Bool.false_eq_true, if_false, wn]
          rw [if_pos (by omega), if_pos (by omega)]
          by_cases h2 : (keyAt l i).f1 = true
          · rw [if_pos h2, if_pos h2]
          · rw [if_neg h2, if_neg h2]
  refine scan_ev (told := ordT l x y) (fun k i => peristyleref1_ByKeys.l0 k l i x y) l.length ?_ ?_ ?_ l.length 0 (by omega)
  · intro i hi h r hr
    refine body i hi r ?_
    unfold ordT at h
    split at h
    · rename_i h0; simp only [if_pos h0]; exact hr
    · cases h
  · intro i hi r h
    refine body i hi r ?_
    unfold ordT at h
    split at h
    · cases h
    · rename_i h0; simp only [if_neg h0]; rw [← Option.some.inj h]; exact Ev.now _
  · refine Ev.step (f := fun _ => some 0) (fun k => ?_) (Ev.now _)
    simp only [peristyleref1_ByKeys.l0]
    rw [if_neg (by omega)]
/-- Rows that are right. -/
theorem cr_zero {c : List Col} {r : List Val} (h : cr c r = 0) : r.length = c.length ∧ ∀ v ∈ r, cvV v = 0 := by
  unfold cr at h
  split at h
  · rename_i hl
    refine ⟨hl, fun v hv => ?_⟩
    obtain ⟨i, hi, rfl⟩ := List.mem_iff_getElem.1 hv
    have e : valAt r i = r[i] := by
      show r.getD i _ = _
      rw [List.getD_eq_getElem?_getD, List.getElem?_eq_getElem hi]; rfl
    have := scan_fin (t := valT c r) (fin := 0) (fun j e => by
      unfold valT at e
      split at e
      · split at e <;> cases e
      · rename_i h0; exact h0 (Option.some.inj e)) r.length 0 h i (by omega) (by omega)
    unfold valT at this
    split at this
    · rename_i h0; rw [e] at h0; exact h0
    · cases this
  · omega
/-- What is wrong before rows can be compared. -/
def bad4 (c : List Col) (l : List Ky) (x y : List Val) : Int := if cc c = 0 then (if ck c.length l = 0 then (if cr c x = 0 then cr c y else cr c x) else ck c.length l) else cc c
def befS (c : List Col) (l : List Ky) (x y : List Val) : Bool × Int := if bad4 c l x y = 0 then (decide (byK l x y < 0), 0) else (false, bad4 c l x y)
abbrev RFits (r : List Val) : Prop := r.length ≤ 9223372036854775807 ∧ ∀ v ∈ r, v.f2.size ≤ 9223372036854775807
theorem Before_ev (c : List Col) (l : List Ky) (x y : List Val) (hc : c.length ≤ 9223372036854775807) (hcs : ∀ q ∈ c, q.f0.size ≤ 9223372036854775807) (hl : l.length ≤ 9223372036854775807) (hx : RFits x) (hy : RFits y) :
    Ev (fun k => value_Before.f k c l x y) (befS c l x y) := by
  unfold value_Before.f befS bad4
  refine Ev.bind (CC c hcs) ?_
  by_cases h1 : cc c = 0
  · simp only [if_pos h1]
    refine Ev.bind (CK c l hc hl) ?_
    by_cases h2 : ck c.length l = 0
    · simp only [if_pos h2]
      refine Ev.bind (CR c x hx.2 hx.1) ?_
      by_cases h3 : cr c x = 0
      · simp only [if_pos h3]
        refine Ev.bind (CR c y hy.2 hy.1) ?_
        by_cases h4 : cr c y = 0
        · simp only [if_pos h4]
          have zx := cr_zero h3
          have zy := cr_zero h4
          exact Ev.bind (ByKeys_ev l x y c.length hl (ck_zero h2) zx.1 zy.1 zx.2 zy.2) (Ev.now _)
        · simp only [if_neg h4]; exact Ev.now _
      · simp only [if_neg h3]; exact Ev.now _
    · simp only [if_neg h2]; exact Ev.now _
  · simp only [if_neg h1]; exact Ev.now _
theorem BeforeR_ev (c : List Col) (l : List Ky) (x y : List Val) (hc : c.length ≤ 9223372036854775807) (hcs : ∀ q ∈ c, q.f0.size ≤ 9223372036854775807) (hl : l.length ≤ 9223372036854775807) (hx : RFits x) (hy : RFits y) :
    Ev (fun k => peristyleref1_Before.f k c l x y) (befS c l x y) := by
  unfold peristyleref1_Before.f befS bad4
  refine Ev.bind (CCr c hcs) ?_
  by_cases h1 : cc c = 0
  · simp only [if_pos h1]
    refine Ev.bind (CKr c l hc hl) ?_
    by_cases h2 : ck c.length l = 0
    · simp only [if_pos h2]
      refine Ev.bind (CRr c x hx.2 hx.1) ?_
      by_cases h3 : cr c x = 0
      · simp only [if_pos h3]
        refine Ev.bind (CRr c y hy.2 hy.1) ?_
        by_cases h4 : cr c y = 0
        · simp only [if_pos h4]
          have zx := cr_zero h3
          have zy := cr_zero h4
          exact Ev.bind (ByKeysR_ev l x y c.length hl (ck_zero h2) zx.1 zy.1) (Ev.now _)
        · simp only [if_neg h4]; exact Ev.now _
      · simp only [if_neg h3]; exact Ev.now _
    · simp only [if_neg h2]; exact Ev.now _
  · simp only [if_neg h1]; exact Ev.now _
end Go.Proofs.YtokphfhihhdfpaaDoor.Pure
