/- Plain laws of the program's own checks (values, columns, rows, tables) and of the order of values: what the laws of whole tables lean on. -/
import Derived.Test.YtokphfhihhdfpaaDoorQxCoreC
import Derived.Test.YtokphfhihhdfpaaDoorQxCmp
import Derived.Test.YtokphfhihhdfpaaDoorQxTables2
namespace Go.Proofs.YtokphfhihhdfpaaDoor.Pure
open Go.RowKit Go.Proofs.YtokphfhihhdfpaaDoor.Q Go.Proofs.YtokphfhihhdfpaaDoor.Ext Go.Proofs.YtokphfhihhdfpaaDoorW.PrintWords Go.Proofs.YtokphfhihhdfpaaDoorW.PrintLast Go.Proofs.YtokphfhihhdfpaaDoorW.PrintMore
set_option linter.unusedVariables false
set_option linter.unusedSimpArgs false
theorem w64 {x : Int} (h0 : -9223372036854775808 ≤ x) (h1 : x ≤ 9223372036854775807) : wrap64 x = x := by unfold wrap64; omega
theorem w64s {i n : Nat} (h : i < n) (hn : n ≤ 9223372036854775807) : wrap64 ((i : Int) + 1) = ((i + 1 : Nat) : Int) := by rw [w64 (by omega) (by omega)]; rfl
theorem awake_true : peristylelaw1_awake.f 30 = some true := by decide +kernel
theorem Ev_awake : Ev (fun k => peristylelaw1_awake.f k) true := Ev.of (fun k => peristylelaw1_awake.mono k) awake_true
/-- From place i on, d places: the first that is told, else what stands at the end. -/
def scan {ρ : Type} (told : Nat → Option ρ) (fin : ρ) : Nat → Nat → ρ
  | _, 0 => fin
  | i, d + 1 => match told i with
    | some r => r
    | none => scan told fin (i + 1) d
theorem scan_ev {ρ : Type} {told : Nat → Option ρ} {fin : ρ} (g : Nat → Int → Option ρ) (n : Nat)
    (go : ∀ i, i < n → told i = none → ∀ r, Ev (fun k => g k ((i + 1 : Nat) : Int)) r → Ev (fun k => g k (i : Int)) r)
    (stop : ∀ i, i < n → ∀ r, told i = some r → Ev (fun k => g k (i : Int)) r)
    (last : Ev (fun k => g k (n : Int)) fin) : ∀ d i, i + d = n → Ev (fun k => g k (i : Int)) (scan told fin i d) := by
  intro d
  induction d with
  | zero => intro i hi; obtain rfl : i = n := by omega
            exact last
  | succ d ih =>
    intro i hi
    unfold scan
    cases ht : told i with
    | some r => exact stop i (by omega) r ht
    | none => exact go i (by omega) ht _ (ih (i + 1) (by omega))
/-- .. where the end is come to only if nothing was told. -/
theorem scan_ev2 {ρ : Type} {told : Nat → Option ρ} {fin : ρ} (g : Nat → Int → Option ρ) (n : Nat)
    (go : ∀ i, i < n → told i = none → ∀ r, Ev (fun k => g k ((i + 1 : Nat) : Int)) r → Ev (fun k => g k (i : Int)) r)
    (stop : ∀ i, i < n → ∀ r, told i = some r → Ev (fun k => g k (i : Int)) r)
    (last : (∀ j, j < n → told j = none) → Ev (fun k => g k (n : Int)) fin) : Ev (fun k => g k 0) (scan told fin 0 n) := by
  have key : ∀ d i, i + d = n → (∀ j, j < i → told j = none) → Ev (fun k => g k (i : Int)) (scan told fin i d) := by
    intro d
    induction d with
    | zero => intro i hi hp; obtain rfl : i = n := by omega
              exact last hp
    | succ d ih =>
      intro i hi hp
      unfold scan
      cases ht : told i with
      | some r => exact stop i (by omega) r ht
      | none =>
        refine go i (by omega) ht _ (ih (i + 1) (by omega) fun j hj => ?_)
        rcases Nat.lt_or_ge j i with h | h
        · exact hp j h
        · obtain rfl : j = i := by omega
          exact ht
  exact key n 0 (by omega) (fun j hj => by omega)
/-- A scan that comes to its end has told nothing. -/
theorem scan_fin {ρ : Type} {t : Nat → Option ρ} {fin : ρ} (hf : ∀ j, t j ≠ some fin) : ∀ d i, scan t fin i d = fin → ∀ j, i ≤ j → j < i + d → t j = none
  | 0, _, _, j, h1, h2 => by omega
  | d + 1, i, h, j, h1, h2 => by
    unfold scan at h
    cases ht : t i with
    | some r => rw [ht] at h; exact absurd (by rw [ht, show r = fin from h]) (hf i)
    | none =>
      rw [ht] at h
      rcases Nat.lt_or_ge i j with hj | hj
      · exact scan_fin hf d (i + 1) h j (by omega) (by omega)
      · obtain rfl : j = i := by omega
        exact ht
theorem scan_none {ρ : Type} {t : Nat → Option ρ} {fin : ρ} : ∀ d i, (∀ j, i ≤ j → j < i + d → t j = none) → scan t fin i d = fin
  | 0, _, _ => rfl
  | d + 1, i, h => by
    unfold scan
    rw [h i (by omega) (by omega)]
    exact scan_none d (i + 1) (fun j h1 h2 => h j (by omega) (by omega))
/-- A byte that may stand in a text. -/
def okB (s : ByteArray) (i : Nat) : Option Int := if 32 ≤ bt s i ∧ bt s i ≤ 126 then none else some 3
/-- What is wrong with a value. -/
def cv (k n : Int) (s : ByteArray) : Int :=
  if k = 0 then (if n = 0 ∧ s.toList = [] then 0 else 3)
  else if k = 1 then (if s.toList = [] then (if 0 ≤ n ∧ n ≤ 1 then 0 else 1) else 3)
  else if k = 2 then (if s.toList = [] then (if -1000000000000000 ≤ n ∧ n ≤ 1000000000000000 then 0 else 1) else 3)
  else if k = 3 then (if n = 0 then (if 200 < s.size then 2 else scan (okB s) 0 0 s.size) else 3)
  else 4
theorem kit_In_f (a lo hi : Int) : kit_In.f a lo hi = some (decide (lo ≤ a ∧ a ≤ hi)) := by
  unfold kit_In.f
  split
  · simp [*]
  · simp [*]
theorem kit_Range_f (a lo hi : Int) : kit_Range.f a lo hi = some (if lo ≤ a ∧ a ≤ hi then 0 else 1) := by
  unfold kit_Range.f
  rw [kit_In_f]
  simp only [Option.bind_some, decide_eq_true_eq]
  split <;> rfl
theorem bt_range (s : ByteArray) (i : Int) : 0 ≤ bt s i ∧ bt s i ≤ 255 := by
  unfold bt
  split
  · rename_i h
    have := (s[i.toNat]'h).toNat_lt
    omega
  · omega
theorem CV (k n : Int) (s : ByteArray) (hs : s.size ≤ 9223372036854775807) : Ev (fun j => value_CheckValue.f j k n s) (cv k n s) := by
  unfold value_CheckValue.f cv
  by_cases h0 : k = 0
  · simp only [if_pos h0]
    by_cases hn : n = 0
    · simp only [if_pos hn]
      by_cases ht : s.toList = []
      · simp only [if_pos ht, if_pos (And.intro hn ht)]; exact Ev.now _
      · simp only [if_neg ht, if_neg (fun h : n = 0 ∧ s.toList = [] => ht h.2)]; exact Ev.now _
    · simp only [if_neg hn, if_neg (fun h : n = 0 ∧ s.toList = [] => hn h.1)]; exact Ev.now _
  simp only [if_neg h0]
  by_cases h1 : k = 1
  · subst h1
    simp only [if_true]
    refine Ev.step (f := fun _ => some (if s.toList = [] then (if 0 ≤ n ∧ n ≤ 1 then 0 else 1) else 3)) (fun j => ?_) (Ev.now _)
    simp only [value_CheckValue.j0]
    by_cases ht : s.toList = []
    · simp [ht, kit_Range_f]
    · simp [ht]
  simp only [if_neg h1]
  by_cases h2 : k = 2
  · subst h2
    simp only [if_true]
    refine Ev.step (f := fun _ => some (if s.toList = [] then (if -1000000000000000 ≤ n ∧ n ≤ 1000000000000000 then 0 else 1) else 3)) (fun j => ?_) (Ev.now _)
    simp only [value_CheckValue.j0]
    by_cases ht : s.toList = []
    · simp [ht, kit_Range_f]
    · simp [ht]
  simp only [if_neg h2]
  by_cases h3 : k = 3
  · subst h3
    simp only [if_true]
    by_cases hn : n = 0
    · subst hn
      simp only [if_true]
      by_cases hl : 200 < s.size
      · refine Ev.step (f := fun _ => some 2) (fun j => ?_) (by rw [if_pos hl]; exact Ev.now _)
        simp only [value_CheckValue.j0]
        simp; omega
      · rw [if_neg hl]
        refine Ev.step (f := fun j => value_CheckValue.l0 j (s.size : Int) 0 3 0 s) (fun j => ?_) ?_
        · simp only [value_CheckValue.j0]
          simp; omega
        · refine scan_ev (told := okB s) (fun j i => value_CheckValue.l0 j (s.size : Int) i 3 0 s) s.size ?_ ?_ ?_ s.size 0 (by omega)
          · intro i hi ht r hr
            refine Ev.step (fun j => ?_) hr
            have hok : 32 ≤ bt s i ∧ bt s i ≤ 126 := by
              unfold okB at ht
              split at ht
              · assumption
              · cases ht
            simp only [value_CheckValue.l0]
            rw [if_pos (by omega), if_pos (by omega), if_pos (by omega), kit_In_f, w64s hi hs]
            simp only [Option.bind_some]
            rw [if_pos (by have := bt_range s i; rw [w64 (by omega) (by omega)]; simpa using hok)]
          · intro i hi r ht
            have hok : ¬ (32 ≤ bt s i ∧ bt s i ≤ 126) ∧ r = 3 := by
              unfold okB at ht
              split at ht
              · cases ht
              · exact ⟨by assumption, (Option.some.inj ht).symm⟩
            obtain ⟨hok, rfl⟩ := hok
            refine Ev.step (f := fun _ => some 3) (fun j => ?_) (Ev.now _)
            simp only [value_CheckValue.l0]
            rw [if_pos (by omega), if_pos (by omega), if_pos (by omega), kit_In_f]
            simp only [Option.bind_some]
            rw [if_neg (by have := bt_range s i; rw [w64 (by omega) (by omega)]; simpa using hok)]
          · refine Ev.step (f := fun _ => some 0) (fun j => ?_) (Ev.now _)
            simp only [value_CheckValue.l0]
            rw [if_neg (by omega)]
    · refine Ev.step (f := fun _ => some 3) (fun j => ?_) (by rw [if_neg hn]; exact Ev.now _)
      simp only [value_CheckValue.j0]
      simp [hn]
  · simp only [if_neg h3]
    refine Ev.step (f := fun _ => some 4) (fun j => ?_) (Ev.now _)
    simp only [value_CheckValue.j0]
    simp [h2, h3]
theorem scan_ex {ρ : Type} (p : Nat → Prop) [DecidablePred p] (a fin : ρ) : ∀ d i, (∃ j, i ≤ j ∧ j < i + d ∧ p j) → scan (fun j => if p j then some a else none) fin i d = a
  | 0, i, h => by obtain ⟨j, h1, h2, _⟩ := h; omega
  | d + 1, i, h => by
    unfold scan
    by_cases hp : p i
    · simp [hp]
    · simp only [if_neg hp]
      obtain ⟨j, h1, h2, h3⟩ := h
      have : j ≠ i := fun e => hp (e ▸ h3)
      exact scan_ex p a fin d (i + 1) ⟨j, by omega, by omega, h3⟩
theorem scan_if {ρ : Type} (p : Nat → Prop) [DecidablePred p] (a fin : ρ) (n : Nat) : scan (fun j => if p j then some a else none) fin 0 n = if ∃ j, j < n ∧ p j then a else fin := by
  split
  · rename_i h
    obtain ⟨j, h1, h2⟩ := h
    exact scan_ex p a fin n 0 ⟨j, by omega, by omega, h2⟩
  · rename_i h
    exact scan_none n 0 fun j _ h2 => if_neg fun hp => h ⟨j, by omega, hp⟩
abbrev Val := S23
abbrev valAt (l : List Val) (i : Nat) : Val := rd_T23 l (i : Int)
theorem valAt_mem {l : List Val} {i : Nat} (h : i < l.length) : valAt l i ∈ l := by
  show l.getD i _ ∈ l
  rw [List.getD_eq_getElem?_getD, List.getElem?_eq_getElem h]
  exact List.getElem_mem h
abbrev fits (a : Val) : Prop := a.f2.size ≤ 9223372036854775807
abbrev cvV (a : Val) : Int := cv a.f0 a.f1 a.f2
/-- A right value: the fields that its kind does not have are zero. -/
theorem right_value {a : Val} (h : cvV a = 0) : (a.f0 = 0 ∧ a.f1 = 0 ∧ a.f2.toList = []) ∨ (a.f0 = 1 ∧ 0 ≤ a.f1 ∧ a.f1 ≤ 1 ∧ a.f2.toList = []) ∨ (a.f0 = 2 ∧ -1000000000000000 ≤ a.f1 ∧ a.f1 ≤ 1000000000000000 ∧ a.f2.toList = []) ∨
    (a.f0 = 3 ∧ a.f1 = 0 ∧ a.f2.size ≤ 200 ∧ ∀ i, i < a.f2.size → 32 ≤ bt a.f2 i ∧ bt a.f2 i ≤ 126) := by
  unfold cvV cv at h
  by_cases h0 : a.f0 = 0
  · rw [if_pos h0] at h
    split at h
    · rename_i hh; exact .inl ⟨h0, hh⟩
    · omega
  rw [if_neg h0] at h
  by_cases h1 : a.f0 = 1
  · rw [if_pos h1] at h
    split at h
    · split at h
      · rename_i hh hr; exact .inr (.inl ⟨h1, hr.1, hr.2, hh⟩)
      · omega
    · omega
  rw [if_neg h1] at h
  by_cases h2 : a.f0 = 2
  · rw [if_pos h2] at h
    split at h
    · split at h
      · rename_i hh hr; exact .inr (.inr (.inl ⟨h2, hr.1, hr.2, hh⟩))
      · omega
    · omega
  rw [if_neg h2] at h
  by_cases h3 : a.f0 = 3
  · rw [if_pos h3] at h
    split at h
    · rename_i hn
      split at h
      · omega
      · rename_i hl
        refine .inr (.inr (.inr ⟨h3, hn, by omega, fun i hi => ?_⟩))
        have := scan_fin (t := okB a.f2) (fin := 0) (fun j e => by unfold okB at e; split at e <;> cases e) a.f2.size 0 h i (by omega) (by omega)
        unfold okB at this
        split at this
        · assumption
        · cases this
    · omega
  · rw [if_neg h3] at h; omega
theorem tl_inj {s t : ByteArray} (h : s.toList = t.toList) : s = t := by
  rw [Lib.toList_data, Lib.toList_data] at h
  cases s; cases t; congr 1; exact Array.toList_inj.1 h
abbrev cb := Lib.compareBytes
theorem cb_self : ∀ a, cb a a = 0
  | [] => rfl
  | a :: xs => by
    have ih := cb_self xs
    simp only [cb, Lib.compareBytes]
    rw [if_neg (UInt8.lt_irrefl a), if_neg (UInt8.lt_irrefl a)]
    exact ih
theorem cb_neg : ∀ a b, cb b a = - cb a b
  | [], [] => rfl
  | [], _ :: _ => by simp [cb, Lib.compareBytes]
  | _ :: _, [] => by simp [cb, Lib.compareBytes]
  | a :: xs, b :: ys => by
    have ih := cb_neg xs ys
    simp only [cb, Lib.compareBytes]
    by_cases h1 : a < b
    · rw [if_pos h1, if_neg (fun h2 => UInt8.lt_irrefl _ (UInt8.lt_trans h1 h2)), if_pos h1]; rfl
    · by_cases h2 : b < a
      · rw [if_pos h2, if_neg h1, if_pos h2]
      · rw [if_neg h2, if_neg h1, if_neg h1, if_neg h2]; exact ih
theorem cb_eq : ∀ {a b}, cb a b = 0 → a = b
  | [], [], _ => rfl
  | [], _ :: _, h => by simp [cb, Lib.compareBytes] at h
  | _ :: _, [], h => by simp [cb, Lib.compareBytes] at h
  | a :: xs, b :: ys, h => by
    simp only [cb, Lib.compareBytes] at h
    by_cases h1 : a < b
    · rw [if_pos h1] at h; omega
    · rw [if_neg h1] at h
      by_cases h2 : b < a
      · rw [if_pos h2] at h; omega
      · rw [if_neg h2] at h
        have e : a = b := by
          have q1 := mt UInt8.lt_iff_toNat_lt.2 h1
          have q2 := mt UInt8.lt_iff_toNat_lt.2 h2
          exact UInt8.toNat_inj.1 (by omega)
        rw [e, cb_eq h]
theorem cb_zero {a b : List UInt8} : cb a b = 0 ↔ a = b := ⟨cb_eq, fun h => by rw [h]; exact cb_self b⟩
theorem cb_trans : ∀ {a b c}, cb a b ≤ 0 → cb b c ≤ 0 → cb a c ≤ 0 ∧ (cb a c = 0 → cb a b = 0 ∧ cb b c = 0)
  | [], [], c, h1, h2 => ⟨h2, fun h => ⟨rfl, h⟩⟩
  | [], b :: ys, [], h1, h2 => by simp [cb, Lib.compareBytes] at h2
  | [], b :: ys, c :: zs, h1, h2 => by simp [cb, Lib.compareBytes]
  | a :: xs, [], c, h1, h2 => by simp [cb, Lib.compareBytes] at h1
  | a :: xs, b :: ys, [], h1, h2 => by simp [cb, Lib.compareBytes] at h2
  | a :: xs, b :: ys, c :: zs, h1, h2 => by
    have ih := @cb_trans xs ys zs
    simp only [cb, Lib.compareBytes, UInt8.lt_iff_toNat_lt] at h1 h2 ih ⊢
    by_cases x1 : a.toNat < b.toNat
    · by_cases y1 : b.toNat < c.toNat
      · rw [if_pos (show a.toNat < c.toNat by omega)]; omega
      · rw [if_neg y1] at h2
        by_cases y2 : c.toNat < b.toNat
        · rw [if_pos y2] at h2; omega
        · rw [if_pos (show a.toNat < c.toNat by omega)]; omega
    · rw [if_neg x1] at h1
      by_cases x2 : b.toNat < a.toNat
      · rw [if_pos x2] at h1; omega
      · rw [if_neg x2] at h1
        by_cases y1 : b.toNat < c.toNat
        · rw [if_pos (show a.toNat < c.toNat by omega)]; omega
        · rw [if_neg y1] at h2
          by_cases y2 : c.toNat < b.toNat
          · rw [if_pos y2] at h2; omega
          · rw [if_neg y2] at h2
            rw [if_neg (show ¬ a.toNat < c.toNat by omega), if_neg (show ¬ c.toNat < a.toNat by omega)]
            rw [if_neg x1, if_neg x2, if_neg y1, if_neg y2]
            exact ih h1 h2
def sgn (x y : Int) : Int := if x < y then -1 else if x > y then 1 else 0
/-- By kind, number, text. -/
def ord (a b : Val) : Int := if a.f0 ≠ b.f0 then sgn a.f0 b.f0 else if a.f1 ≠ b.f1 then sgn a.f1 b.f1 else cb a.f2.toList b.f2.toList
theorem sgn_lt {x y : Int} (h : x < y) : sgn x y = -1 := if_pos h
theorem sgn_gt {x y : Int} (h : y < x) : sgn x y = 1 := by unfold sgn; rw [if_neg (by omega), if_pos h]
theorem sgn_eq (x : Int) : sgn x x = 0 := by unfold sgn; rw [if_neg (by omega), if_neg (by omega)]
theorem sgn_cases (x y : Int) : (x < y ∧ sgn x y = -1) ∨ (x = y ∧ sgn x y = 0) ∨ (y < x ∧ sgn x y = 1) := by
  rcases Int.lt_trichotomy x y with h | h | h
  · exact .inl ⟨h, sgn_lt h⟩
  · subst h; exact .inr (.inl ⟨rfl, sgn_eq x⟩)
  · exact .inr (.inr ⟨h, sgn_gt h⟩)
/-- What the order says: the first part by which they differ. -/
theorem ord_cases (a b : Val) : (a.f0 < b.f0 ∧ ord a b = -1) ∨ (b.f0 < a.f0 ∧ ord a b = 1) ∨ (a.f0 = b.f0 ∧ a.f1 < b.f1 ∧ ord a b = -1) ∨ (a.f0 = b.f0 ∧ b.f1 < a.f1 ∧ ord a b = 1) ∨ (a.f0 = b.f0 ∧ a.f1 = b.f1 ∧ ord a b = cb a.f2.toList b.f2.toList) := by
  unfold ord
  by_cases h0 : a.f0 = b.f0
  · rw [if_neg (by simpa using h0)]
    by_cases h1 : a.f1 = b.f1
    · rw [if_neg (by simpa using h1)]; exact .inr (.inr (.inr (.inr ⟨h0, h1, rfl⟩)))
    · rw [if_pos h1]
      rcases sgn_cases a.f1 b.f1 with h | h | h
      · exact .inr (.inr (.inl ⟨h0, h.1, h.2⟩))
      · exact absurd h.1 h1
      · exact .inr (.inr (.inr (.inl ⟨h0, h.1, h.2⟩)))
  · rw [if_pos h0]
    rcases sgn_cases a.f0 b.f0 with h | h | h
    · exact .inl h
    · exact absurd h.1 h0
    · exact .inr (.inl h)
theorem ord_neg (a b : Val) : ord b a = - ord a b := by
  have := cb_neg a.f2.toList b.f2.toList
  rcases ord_cases a b with h | h | h | h | h <;> rcases ord_cases b a with k | k | k | k | k <;> omega
theorem ord_zero (a b : Val) : ord a b = 0 ↔ a.f0 = b.f0 ∧ a.f1 = b.f1 ∧ a.f2.toList = b.f2.toList := by
  rcases ord_cases a b with h | h | h | h | h
  · exact ⟨fun e => by omega, fun e => by omega⟩
  · exact ⟨fun e => by omega, fun e => by omega⟩
  · exact ⟨fun e => by omega, fun e => by omega⟩
  · exact ⟨fun e => by omega, fun e => by omega⟩
  · rw [h.2.2]
    exact ⟨fun e => ⟨h.1, h.2.1, cb_eq e⟩, fun e => cb_zero.2 e.2.2⟩
theorem ord_trans {a b c : Val} (h1 : ord a b ≤ 0) (h2 : ord b c ≤ 0) : ord a c ≤ 0 ∧ (ord a c = 0 ↔ ord a b = 0 ∧ ord b c = 0) := by
  have ht := @cb_trans a.f2.toList b.f2.toList c.f2.toList
  have key : ord a c ≤ 0 ∧ (ord a c = 0 → ord a b = 0 ∧ ord b c = 0) := by
    rcases ord_cases a b with h | h | h | h | h <;> rcases ord_cases b c with k | k | k | k | k <;> rcases ord_cases a c with m | m | m | m | m <;> first | omega | skip
    all_goals
      have ht' := ht (by omega) (by omega)
      exact ⟨by omega, fun e => by have := ht'.2 (by omega); omega⟩
  refine ⟨key.1, key.2, fun e => ?_⟩
  have e1 := (ord_zero a b).1 e.1
  have e2 := (ord_zero b c).1 e.2
  exact (ord_zero a c).2 ⟨e1.1.trans e2.1, e1.2.1.trans e2.2.1, e1.2.2.trans e2.2.2⟩
theorem sign_f (x y : Int) : kit_sign.f x y = some (sgn x y) := by
  unfold kit_sign.f sgn
  split
  · rfl
  · split <;> rfl
theorem Compare_kit {a b : Val} (ha : cvV a = 0) (hb : cvV b = 0) : kit_Compare.f a.f0 a.f1 a.f2 b.f0 b.f1 b.f2 = some (ord a b) := by
  unfold kit_Compare.f
  by_cases h0 : a.f0 = b.f0
  · rw [if_pos h0]
    have ra := right_value ha
    have rb := right_value hb
    by_cases h3 : a.f0 = 3
    · rw [if_pos h3]
      simp only [strings_Compare.f, Option.bind_some, ← Lib.toList_data]
      have e1 : a.f1 = b.f1 := by omega
      unfold ord
      rw [if_neg (by simpa using h0), if_neg (by simpa using e1)]
    · rw [if_neg h3, sign_f]
      simp only [Option.bind_some]
      have ta : a.f2.toList = [] := by rcases ra with h | h | h | h <;> first | exact h.2.2 | exact h.2.2.2 | omega
      have tb : b.f2.toList = [] := by rcases rb with h | h | h | h <;> first | exact h.2.2 | exact h.2.2.2 | omega
      unfold ord
      rw [if_neg (by simpa using h0), ta, tb]
      by_cases h1 : a.f1 = b.f1
      · rw [if_neg (by simpa using h1), h1, sgn_eq]; rfl
      · rw [if_pos h1]
  · rw [if_neg h0, sign_f]
    simp only [Option.bind_some]
    unfold ord
    rw [if_pos h0]
def okN (s : ByteArray) (i : Nat) : Option Bool :=
  if (97 ≤ bt s i ∧ bt s i ≤ 122) ∨ (0 < i ∧ (bt s i = 95 ∨ (48 ≤ bt s i ∧ bt s i ≤ 57))) then none else some false
/-- Is this a name? -/
def isN (s : ByteArray) : Bool := if s.toList = [] then false else if 32 < s.size then false else scan (okN s) true 0 s.size
theorem okN_none {s : ByteArray} {i : Nat} (h : okN s i = none) : (97 ≤ bt s i ∧ bt s i ≤ 122) ∨ (0 < i ∧ (bt s i = 95 ∨ (48 ≤ bt s i ∧ bt s i ≤ 57))) := by
  unfold okN at h
  split at h
  · assumption
  · cases h
theorem okN_some {s : ByteArray} {i : Nat} {r : Bool} (h : okN s i = some r) : ¬ ((97 ≤ bt s i ∧ bt s i ≤ 122) ∨ (0 < i ∧ (bt s i = 95 ∨ (48 ≤ bt s i ∧ bt s i ≤ 57)))) ∧ r = false := by
  unfold okN at h
  split at h
  · cases h
  · exact ⟨by assumption, (Option.some.inj h).symm⟩
theorem Name_ev (s : ByteArray) (hs : s.size ≤ 9223372036854775807) : Ev (fun k => kit_Name.f k s) (isN s) := by
  unfold kit_Name.f isN
  by_cases ht : s.toList = []
  · simp only [if_pos ht]
    refine Ev.step (f := fun _ => some false) (fun j => ?_) (Ev.now _)
    simp [kit_Name.j0]
  simp only [if_neg ht]
  by_cases hl : 32 < s.size
  · refine Ev.step (f := fun _ => some false) (fun j => ?_) (by rw [if_pos hl]; exact Ev.now _)
    simp only [kit_Name.j0]
    rw [if_pos (by simp; omega)]
  rw [if_neg hl]
  refine Ev.step (f := fun j => kit_Name.l0 j s (s.size : Int) 0) (fun j => ?_) ?_
  · simp only [kit_Name.j0]
    rw [if_neg (by simp; omega)]
  refine scan_ev (told := okN s) (fun j i => kit_Name.l0 j s (s.size : Int) i) s.size ?_ ?_ ?_ s.size 0 (by omega)
  · intro i hi h r hr
    have h' := okN_none h
    refine Ev.step (fun j => ?_) hr
    simp only [kit_Name.l0]
    rw [if_pos (by omega), if_pos (by omega), if_pos (by omega), w64s hi hs]
    by_cases c1 : bt s i < 97
    · rw [if_pos c1, if_neg (by omega)]
      by_cases c2 : bt s i = 95
      · rw [if_pos c2]
      · rw [if_neg c2, if_neg (by omega), if_neg (by omega)]
    · rw [if_neg c1]
      by_cases c3 : bt s i > 122
      · rw [if_pos c3, if_neg (by omega), if_neg (by omega), if_neg (by omega), if_neg (by omega)]
      · rw [if_neg c3]
  · intro i hi r h
    obtain ⟨h', rfl⟩ := okN_some h
    refine Ev.step (f := fun _ => some false) (fun j => ?_) (Ev.now _)
    simp only [kit_Name.l0]
    rw [if_pos (by omega), if_pos (by omega), if_pos (by omega)]
    by_cases c1 : bt s i < 97
    · rw [if_pos c1]
      by_cases c0 : (i : Int) = 0
      · rw [if_pos c0]
      · rw [if_neg c0, if_neg (by omega)]
        by_cases c2 : bt s i < 48
        · rw [if_pos c2]
        · rw [if_neg c2, if_pos (by omega)]
    · rw [if_neg c1, if_pos (by omega)]
      by_cases c0 : (i : Int) = 0
      · rw [if_pos c0]
      · rw [if_neg c0, if_neg (by omega), if_neg (by omega), if_pos (by omega)]
  · refine Ev.step (f := fun _ => some true) (fun j => ?_) (Ev.now _)
    simp only [kit_Name.l0]
    rw [if_neg (by omega)]
abbrev Col := S80
abbrev Rw := S50
abbrev colAt (l : List Col) (i : Nat) : Col := rd_T80 l (i : Int)
abbrev rowAt (l : List Rw) (i : Nat) : Rw := rd_T50 l (i : Int)
theorem colAt_mem {l : List Col} {i : Nat} (h : i < l.length) : colAt l i ∈ l := by
  show l.getD i _ ∈ l
  rw [List.getD_eq_getElem?_getD, List.getElem?_eq_getElem h]
  exact List.getElem_mem h
theorem rowAt_mem {l : List Rw} {i : Nat} (h : i < l.length) : rowAt l i ∈ l := by
  show l.getD i _ ∈ l
  rw [List.getD_eq_getElem?_getD, List.getElem?_eq_getElem h]
  exact List.getElem_mem h
theorem colAt_take {l : List Col} {i j : Nat} (h : j < i) : colAt (l.take i) j = colAt l j := by
  show (l.take i).getD j _ = l.getD j _
  rw [List.getD_eq_getElem?_getD, List.getD_eq_getElem?_getD, List.getElem?_take_of_lt h]
/-- What is wrong with column i. -/
def colT (l : List Col) (i : Nat) : Option Int :=
  if isN (colAt l i).f0 = true then
    (if ∃ j, j < i ∧ (colAt l j).f0.toList = (colAt l i).f0.toList then some 7
     else if 1 ≤ (colAt l i).f1 ∧ (colAt l i).f1 ≤ 3 then none else some 4)
  else some 5
/-- What is wrong with columns. -/
def cc (l : List Col) : Int := if 20 < l.length then 2 else if l.length = 0 then 6 else scan (colT l) 0 0 l.length
theorem CC (l : List Col) (hs : ∀ c ∈ l, c.f0.size ≤ 9223372036854775807) : Ev (fun k => value_CheckColumns.f k l) (cc l) := by
  unfold value_CheckColumns.f cc
  by_cases h20 : 20 < l.length
  · simp only [if_pos h20, if_pos (show (l.length : Int) > 20 by omega)]; exact Ev.now _
  simp only [if_neg h20, if_neg (show ¬ (l.length : Int) > 20 by omega)]
  by_cases h0 : l.length = 0
  · simp only [if_pos h0, if_pos (show (l.length : Int) = 0 by omega)]; exact Ev.now _
  simp only [if_neg h0, if_neg (show ¬ (l.length : Int) = 0 by omega)]
  have inner : ∀ i, i < l.length → isN (colAt l i).f0 = true → ∀ r, ((¬ ∃ j, j < i ∧ (colAt l j).f0.toList = (colAt l i).f0.toList) → Ev (fun k => if 1 ≤ (colAt l i).f1 ∧ (colAt l i).f1 ≤ 3 then value_CheckColumns.l0 k l l (l.length : Int) ((i + 1 : Nat) : Int) else some 4) r) →
      Ev (fun k => value_CheckColumns.l0 k l l (l.length : Int) (i : Int)) (if ∃ j, j < i ∧ (colAt l j).f0.toList = (colAt l i).f0.toList then 7 else r) := by
    intro i hi hn r hr
    refine Ev.step (f := fun k => (kit_Name.f k (colAt l i).f0).bind fun t => if t = true then value_CheckColumns.l1 k l l (l.length : Int) i (l.take i) (((l.take i).length : Nat) : Int) 0 (colAt l i).f0 (colAt l i).f1 else some 5) (fun k => ?_) ?_
    · simp only [value_CheckColumns.l0]
      rw [if_pos (by omega), if_pos (by omega), if_pos (by omega)]
      simp only [if_pos (show (i : Int) ≤ (l.length : Int) by omega), Option.bind_some, Int.toNat_natCast]
    refine Ev.bind (Name_ev _ (hs _ (colAt_mem hi))) ?_
    rw [hn]
    simp only [if_true]
    have hlen : (l.take i).length = i := by rw [List.length_take]; omega
    rw [hlen, ← scan_if]
    refine scan_ev2 (told := fun j => if (colAt l j).f0.toList = (colAt l i).f0.toList then some 7 else none) (fun k j => value_CheckColumns.l1 k l l (l.length : Int) i (l.take i) (i : Int) j (colAt l i).f0 (colAt l i).f1) i ?_ ?_ (fun hno => ?_)
    · intro j hj h r hr
      refine Ev.step (fun k => ?_) hr
      simp only [value_CheckColumns.l1]
      rw [if_pos (by omega), if_pos (by omega), if_pos (by rw [hlen]; omega), w64s hj (by omega), if_neg]
      have := colAt_take (l := l) hj
      unfold colAt at this
      rw [this]
      intro e
      simp only [if_pos e] at h
      cases h
    · intro j hj r h
      have e : (colAt l j).f0.toList = (colAt l i).f0.toList ∧ r = 7 := by
        by_cases e : (colAt l j).f0.toList = (colAt l i).f0.toList
        · simp only [if_pos e] at h; exact ⟨e, (Option.some.inj h).symm⟩
        · simp only [if_neg e] at h; cases h
      obtain ⟨e, rfl⟩ := e
      refine Ev.step (f := fun _ => some 7) (fun k => ?_) (Ev.now _)
      simp only [value_CheckColumns.l1]
      rw [if_pos (by omega), if_pos (by omega), if_pos (by rw [hlen]; omega), if_pos]
      have := colAt_take (l := l) hj
      unfold colAt at this
      rw [this]
      exact e
    · refine Ev.step (fun k => ?_) (hr fun ⟨j, hj, e⟩ => by have := hno j hj; simp only [if_pos e] at this; cases this)
      simp only [value_CheckColumns.l1]
      rw [if_neg (by omega), kit_In_f, w64s hi (by omega)]
      simp only [Option.bind_some, decide_eq_true_eq]
  refine scan_ev (told := colT l) (fun k i => value_CheckColumns.l0 k l l (l.length : Int) i) l.length ?_ ?_ ?_ l.length 0 (by omega)
  · intro i hi h r hr
    unfold colT at h
    by_cases hn : isN (colAt l i).f0 = true
    · rw [if_pos hn] at h
      by_cases hd : ∃ j, j < i ∧ (colAt l j).f0.toList = (colAt l i).f0.toList
      · rw [if_pos hd] at h; cases h
      · rw [if_neg hd] at h
        by_cases hk : 1 ≤ (colAt l i).f1 ∧ (colAt l i).f1 ≤ 3
        · have := inner i hi hn r (fun _ => by simp only [if_pos hk]; exact hr)
          rw [if_neg hd] at this
          exact this
        · rw [if_neg hk] at h; cases h
    · rw [if_neg hn] at h; cases h
  · intro i hi r h
    unfold colT at h
    by_cases hn : isN (colAt l i).f0 = true
    · rw [if_pos hn] at h
      by_cases hd : ∃ j, j < i ∧ (colAt l j).f0.toList = (colAt l i).f0.toList
      · rw [if_pos hd] at h
        have := inner i hi hn 4 (fun h' => absurd hd h')
        rw [if_pos hd, Option.some.inj h] at this
        exact this
      · rw [if_neg hd] at h
        by_cases hk : 1 ≤ (colAt l i).f1 ∧ (colAt l i).f1 ≤ 3
        · rw [if_pos hk] at h; cases h
        · rw [if_neg hk] at h
          have := inner i hi hn 4 (fun _ => by simp only [if_neg hk]; exact Ev.now _)
          rw [if_neg hd, Option.some.inj h] at this
          exact this
    · rw [if_neg hn] at h
      obtain rfl := Option.some.inj h
      refine Ev.step (f := fun k => (kit_Name.f k (colAt l i).f0).bind fun t => if t = true then value_CheckColumns.l1 k l l (l.length : Int) i (l.take i) (((l.take i).length : Nat) : Int) 0 (colAt l i).f0 (colAt l i).f1 else some 5) (fun k => ?_) ?_
      · simp only [value_CheckColumns.l0]
        rw [if_pos (by omega), if_pos (by omega), if_pos (by omega)]
        simp only [if_pos (show (i : Int) ≤ (l.length : Int) by omega), Option.bind_some, Int.toNat_natCast]
      refine Ev.bind (Name_ev _ (hs _ (colAt_mem hi))) ?_
      simp only [if_neg hn]
      exact Ev.now _
  · refine Ev.step (f := fun _ => some 0) (fun k => ?_) (Ev.now _)
    simp only [value_CheckColumns.l0]
    rw [if_neg (by omega)]
/-- What is wrong with value i of a row. -/
def valT (c : List Col) (r : List Val) (i : Nat) : Option Int :=
  if cv (valAt r i).f0 (valAt r i).f1 (valAt r i).f2 = 0 then (if (valAt r i).f0 = 0 ∨ (valAt r i).f0 = (colAt c i).f1 then none else some 10)
  else some (cv (valAt r i).f0 (valAt r i).f1 (valAt r i).f2)
/-- What is wrong with a row. -/
def cr (c : List Col) (r : List Val) : Int := if r.length = c.length then scan (valT c r) 0 0 r.length else 3
theorem CR (c : List Col) (r : List Val) (hs : ∀ v ∈ r, v.f2.size ≤ 9223372036854775807) (hn : r.length ≤ 9223372036854775807) : Ev (fun k => value_CheckRow.f k c r) (cr c r) := by
  unfold value_CheckRow.f cr
  by_cases h : r.length = c.length
  · simp only [if_pos h, if_pos (show (r.length : Int) = (c.length : Int) by omega)]
    have body : ∀ i, i < r.length → ∀ q, Ev (fun k => if cv (valAt r i).f0 (valAt r i).f1 (valAt r i).f2 = 0 then (if (valAt r i).f0 = 0 then value_CheckRow.l0 k c r (r.length : Int) ((i + 1 : Nat) : Int) else if (valAt r i).f0 = (colAt c i).f1 then value_CheckRow.l0 k c r (r.length : Int) ((i + 1 : Nat) : Int) else some 10) else some (cv (valAt r i).f0 (valAt r i).f1 (valAt r i).f2)) q →
        Ev (fun k => value_CheckRow.l0 k c r (r.length : Int) (i : Int)) q := by
      intro i hi q hq
      refine Ev.step (f := fun k => (value_CheckValue.f k (valAt r i).f0 (valAt r i).f1 (valAt r i).f2).bind fun t => if t = 0 then (if (valAt r i).f0 = 0 then value_CheckRow.l0 k c r (r.length : Int) ((i + 1 : Nat) : Int) else if (valAt r i).f0 = (colAt c i).f1 then value_CheckRow.l0 k c r (r.length : Int) ((i + 1 : Nat) : Int) else some 10) else some t) (fun k => ?_) ?_
      · simp only [value_CheckRow.l0]
        rw [if_pos (by omega), if_pos (by omega), if_pos (by omega), if_pos (show (i : Int) < (c.length : Int) by omega), w64s hi hn]
        simp only [kit_IsNull.f, Option.bind_some, beq_iff_eq]
      · exact Ev.bind (CV _ _ _ (hs _ (valAt_mem hi))) hq
    refine scan_ev (told := valT c r) (fun k i => value_CheckRow.l0 k c r (r.length : Int) i) r.length ?_ ?_ ?_ r.length 0 (by omega)
    · intro i hi ht q hq
      unfold valT at ht
      refine body i hi q ?_
      by_cases h0 : cv (valAt r i).f0 (valAt r i).f1 (valAt r i).f2 = 0
      · simp only [if_pos h0]
        rw [if_pos h0] at ht
        by_cases h1 : (valAt r i).f0 = 0
        · simp only [if_pos h1]; exact hq
        · simp only [if_neg h1]
          by_cases h2 : (valAt r i).f0 = (colAt c i).f1
          · simp only [if_pos h2]; exact hq
          · rw [if_neg (by rintro (e | e); exact h1 e; exact h2 e)] at ht; cases ht
      · rw [if_neg h0] at ht; cases ht
    · intro i hi q ht
      unfold valT at ht
      refine body i hi q ?_
      by_cases h0 : cv (valAt r i).f0 (valAt r i).f1 (valAt r i).f2 = 0
      · simp only [if_pos h0]
        rw [if_pos h0] at ht
        by_cases h1 : (valAt r i).f0 = 0
        · rw [if_pos (.inl h1)] at ht; cases ht
        · simp only [if_neg h1]
          by_cases h2 : (valAt r i).f0 = (colAt c i).f1
          · rw [if_pos (.inr h2)] at ht; cases ht
          · rw [if_neg (by rintro (e | e); exact h1 e; exact h2 e)] at ht
            simp only [if_neg h2, Option.some.inj ht]; exact Ev.now _
      · rw [if_neg h0] at ht
        obtain rfl := Option.some.inj ht
        simp only [if_neg h0]; exact Ev.now _
    · refine Ev.step (f := fun _ => some 0) (fun k => ?_) (Ev.now _)
      simp only [value_CheckRow.l0]
      rw [if_neg (by omega)]
  · simp only [if_neg h, if_neg (show ¬ (r.length : Int) = (c.length : Int) by omega)]
    exact Ev.now _
/-- What fits an int, of a table. -/
def TableFits (c : List Col) (l : List Rw) : Prop := (∀ x ∈ c, x.f0.size ≤ 9223372036854775807) ∧ l.length ≤ 9223372036854775807 ∧ ∀ r ∈ l, r.f0.length ≤ 9223372036854775807 ∧ ∀ v ∈ r.f0, v.f2.size ≤ 9223372036854775807
/-- What is wrong with row i. -/
def rowT (c : List Col) (l : List Rw) (i : Nat) : Option Int := if cr c (rowAt l i).f0 = 0 then none else some (cr c (rowAt l i).f0)
/-- What is wrong with a table. -/
def ct (c : List Col) (l : List Rw) : Int := if cc c = 0 then (if 2000 < l.length then 2 else scan (rowT c l) 0 0 l.length) else cc c
theorem CT (c : List Col) (l : List Rw) (hf : TableFits c l) : Ev (fun k => value_CheckTable.f k c l) (ct c l) := by
  unfold value_CheckTable.f ct
  refine Ev.bind (CC c hf.1) ?_
  by_cases hc : cc c = 0
  · simp only [if_pos hc]
    by_cases h2 : 2000 < l.length
    · simp only [if_pos h2, if_pos (show (l.length : Int) > 2000 by omega)]; exact Ev.now _
    simp only [if_neg h2, if_neg (show ¬ (l.length : Int) > 2000 by omega)]
    have body : ∀ i, i < l.length → ∀ q, Ev (fun k => if cr c (rowAt l i).f0 = 0 then value_CheckTable.l0 k l (l.length : Int) ((i + 1 : Nat) : Int) c l else some (cr c (rowAt l i).f0)) q → Ev (fun k => value_CheckTable.l0 k l (l.length : Int) (i : Int) c l) q := by
      intro i hi q hq
      refine Ev.step (f := fun k => (value_CheckRow.f k c (rowAt l i).f0).bind fun t => if t = 0 then value_CheckTable.l0 k l (l.length : Int) ((i + 1 : Nat) : Int) c l else some t) (fun k => ?_) ?_
      · simp only [value_CheckTable.l0]
        rw [if_pos (by omega), if_pos (by omega), if_pos (by omega), w64s hi hf.2.1]
      · exact Ev.bind (CR _ _ (hf.2.2 _ (rowAt_mem hi)).2 (hf.2.2 _ (rowAt_mem hi)).1) hq
    refine scan_ev (told := rowT c l) (fun k i => value_CheckTable.l0 k l (l.length : Int) i c l) l.length ?_ ?_ ?_ l.length 0 (by omega)
    · intro i hi ht q hq
      unfold rowT at ht
      refine body i hi q ?_
      by_cases h0 : cr c (rowAt l i).f0 = 0
      · simp only [if_pos h0]; exact hq
      · rw [if_neg h0] at ht; cases ht
    · intro i hi q ht
      unfold rowT at ht
      refine body i hi q ?_
      by_cases h0 : cr c (rowAt l i).f0 = 0
      · rw [if_pos h0] at ht; cases ht
      · rw [if_neg h0] at ht
        obtain rfl := Option.some.inj ht
        simp only [if_neg h0]; exact Ev.now _
    · refine Ev.step (f := fun _ => some 0) (fun k => ?_) (Ev.now _)
      simp only [value_CheckTable.l0]
      rw [if_neg (by omega)]
  · simp only [if_neg hc]; exact Ev.now _
/-- Rows that are right. -/
theorem cr_zero {c : List Col} {r : List Val} (h : cr c r = 0) : r.length = c.length ∧ ∀ v ∈ r, cvV v = 0 := by
  unfold cr at h
  split at h
  · rename_i hl
    refine ⟨hl, fun v hv => ?_⟩
    obtain ⟨i, hi, rfl⟩ := List.mem_iff_getElem.1 hv
    have e : valAt r i = r[i] := by
      show r.getD i _ = _
      rw [List.getD_eq_getElem?_getD, List.getElem?_eq_getElem hi]; rfl
    have := scan_fin (t := valT c r) (fin := 0) (fun j e => by
      unfold valT at e
      split at e
      · split at e <;> cases e
      · rename_i h0; exact h0 (Option.some.inj e)) r.length 0 h i (by omega) (by omega)
    unfold valT at this
    split at this
    · rename_i h0; rw [e] at h0; exact h0
    · cases this
  · omega
end Go.Proofs.YtokphfhihhdfpaaDoor.Pure
