/- Plain laws, part A: what CheckValue of the program and of the reference comes to (the same); that the law's own look at package value is true. For every argument whose lengths fit an int. -/
import Derived.Test.YtokphfhihhdfpaaDoorQxCoreC
import Derived.Test.YtokphfhihhdfpaaDoorQxRefA
namespace Go.Proofs.YtokphfhihhdfpaaDoor.Pure
open Go.RowKit Go.Proofs.YtokphfhihhdfpaaDoor.Q Go.Proofs.YtokphfhihhdfpaaDoor.Ext Go.Proofs.YtokphfhihhdfpaaDoorW.PrintWords Go.Proofs.YtokphfhihhdfpaaDoorW.PrintLast Go.Proofs.YtokphfhihhdfpaaDoorW.PrintMore
set_option linter.unusedVariables false
set_option linter.unusedSimpArgs false

theorem w64 {x : Int} (h0 : -9223372036854775808 ≤ x) (h1 : x ≤ 9223372036854775807) : wrap64 x = x := by unfold wrap64; omega
theorem w64s {i n : Nat} (h : i < n) (hn : n ≤ 9223372036854775807) : wrap64 ((i : Int) + 1) = ((i + 1 : Nat) : Int) := by rw [w64 (by omega) (by omega)]; rfl

theorem awake_true : peristylelaw1_awake.f 30 = some true := by decide +kernel
theorem Ev_awake : Ev (fun k => peristylelaw1_awake.f k) true := Ev.of (fun k => peristylelaw1_awake.mono k) awake_true

/-! ### scans -/
/-- From place i on, d places: the first that is told, else what stands at the end. -/
def scan {ρ : Type} (told : Nat → Option ρ) (fin : ρ) : Nat → Nat → ρ
  | _, 0 => fin
  | i, d + 1 => match told i with
    | some r => r
    | none => scan told fin (i + 1) d
theorem scan_ev {ρ : Type} {told : Nat → Option ρ} {fin : ρ} (g : Nat → Int → Option ρ) (n : Nat)
    (go : ∀ i, i < n → told i = none → ∀ r, Ev (fun k => g k ((i + 1 : Nat) : Int)) r → Ev (fun k => g k (i : Int)) r)
    (stop : ∀ i, i < n → ∀ r, told i = some r → Ev (fun k => g k (i : Int)) r)
    (last : Ev (fun k => g k (n : Int)) fin) : ∀ d i, i + d = n → Ev (fun k => g k (i : Int)) (scan told fin i d) := by
  intro d
  induction d with
  | zero => intro i hi; obtain rfl : i = n := by omega
            exact last
  | succ d ih =>
    intro i hi
    unfold scan
    cases ht : told i with
    | some r => exact stop i (by omega) r ht
    | none => exact go i (by omega) ht _ (ih (i + 1) (by omega))
/-- .. where the end is come to only if nothing was told. -/
theorem scan_ev2 {ρ : Type} {told : Nat → Option ρ} {fin : ρ} (g : Nat → Int → Option ρ) (n : Nat)
    (go : ∀ i, i < n → told i = none → ∀ r, Ev (fun k => g k ((i + 1 : Nat) : Int)) r → Ev (fun k => g k (i : Int)) r)
    (stop : ∀ i, i < n → ∀ r, told i = some r → Ev (fun k => g k (i : Int)) r)
    (last : (∀ j, j < n → told j = none) → Ev (fun k => g k (n : Int)) fin) : Ev (fun k => g k 0) (scan told fin 0 n) := by
  have key : ∀ d i, i + d = n → (∀ j, j < i → told j = none) → Ev (fun k => g k (i : Int)) (scan told fin i d) := by
    intro d
    induction d with
    | zero => intro i hi hp; obtain rfl : i = n := by omega
              exact last hp
    | succ d ih =>
      intro i hi hp
      unfold scan
      cases ht : told i with
      | some r => exact stop i (by omega) r ht
      | none =>
        refine go i (by omega) ht _ (ih (i + 1) (by omega) fun j hj => ?_)
        rcases Nat.lt_or_ge j i with h | h
        · exact hp j h
        · obtain rfl : j = i := by omega
          exact ht
  exact key n 0 (by omega) (fun j hj => by omega)
theorem scan_congr {ρ : Type} {t t' : Nat → Option ρ} {fin : ρ} : ∀ d i, (∀ j, i ≤ j → j < i + d → t j = t' j) → scan t fin i d = scan t' fin i d
  | 0, _, _ => rfl
  | d + 1, i, h => by
    unfold scan
    rw [h i (by omega) (by omega), scan_congr d (i + 1) (fun j h1 h2 => h j (by omega) (by omega))]
/-- A scan that comes to its end has told nothing. -/
theorem scan_fin {ρ : Type} {t : Nat → Option ρ} {fin : ρ} (hf : ∀ j, t j ≠ some fin) : ∀ d i, scan t fin i d = fin → ∀ j, i ≤ j → j < i + d → t j = none
  | 0, _, _, j, h1, h2 => by omega
  | d + 1, i, h, j, h1, h2 => by
    unfold scan at h
    cases ht : t i with
    | some r => rw [ht] at h; exact absurd (by rw [ht, show r = fin from h]) (hf i)
    | none =>
      rw [ht] at h
      rcases Nat.lt_or_ge i j with hj | hj
      · exact scan_fin hf d (i + 1) h j (by omega) (by omega)
      · obtain rfl : j = i := by omega
        exact ht
theorem scan_none {ρ : Type} {t : Nat → Option ρ} {fin : ρ} : ∀ d i, (∀ j, i ≤ j → j < i + d → t j = none) → scan t fin i d = fin
  | 0, _, _ => rfl
  | d + 1, i, h => by
    unfold scan
    rw [h i (by omega) (by omega)]
    exact scan_none d (i + 1) (fun j h1 h2 => h j (by omega) (by omega))

/-! ### values -/
/-- A byte that may stand in a text. -/
def okB (s : ByteArray) (i : Nat) : Option Int := if 32 ≤ bt s i ∧ bt s i ≤ 126 then none else some 3
/-- What is wrong with a value. -/
def cv (k n : Int) (s : ByteArray) : Int :=
  if k = 0 then (if n = 0 ∧ s.toList = [] then 0 else 3)
  else if k = 1 then (if s.toList = [] then (if 0 ≤ n ∧ n ≤ 1 then 0 else 1) else 3)
  else if k = 2 then (if s.toList = [] then (if -1000000000000000 ≤ n ∧ n ≤ 1000000000000000 then 0 else 1) else 3)
  else if k = 3 then (if n = 0 then (if 200 < s.size then 2 else scan (okB s) 0 0 s.size) else 3)
  else 4

theorem kit_In_f (a lo hi : Int) : kit_In.f a lo hi = some (decide (lo ≤ a ∧ a ≤ hi)) := by
  unfold kit_In.f
  split
  · simp [*]
  · simp [*]
theorem kit_Range_f (a lo hi : Int) : kit_Range.f a lo hi = some (if lo ≤ a ∧ a ≤ hi then 0 else 1) := by
  unfold kit_Range.f
  rw [kit_In_f]
  simp only [Option.bind_some, decide_eq_true_eq]
  split <;> rfl
theorem within_f (a lo hi : Int) : peristyleref1_within.f a lo hi = some (decide (lo ≤ a ∧ a ≤ hi)) := by
  unfold peristyleref1_within.f
  split
  · simp [*]
  · simp [*]

theorem bt_range (s : ByteArray) (i : Int) : 0 ≤ bt s i ∧ bt s i ≤ 255 := by
  unfold bt
  split
  · rename_i h
    have := (s[i.toNat]'h).toNat_lt
    omega
  · omega

theorem CV (k n : Int) (s : ByteArray) (hs : s.size ≤ 9223372036854775807) : Ev (fun j => value_CheckValue.f j k n s) (cv k n s) := by
  unfold value_CheckValue.f cv
  by_cases h0 : k = 0
  · simp only [if_pos h0]
    by_cases hn : n = 0
    · simp only [if_pos hn]
      by_cases ht : s.toList = []
      · simp only [if_pos ht, if_pos (And.intro hn ht)]; exact Ev.now _
      · simp only [if_neg ht, if_neg (fun h : n = 0 ∧ s.toList = [] => ht h.2)]; exact Ev.now _
    · simp only [if_neg hn, if_neg (fun h : n = 0 ∧ s.toList = [] => hn h.1)]; exact Ev.now _
  simp only [if_neg h0]
  by_cases h1 : k = 1
  · subst h1
    simp only [if_true]
    refine Ev.step (f := fun _ => some (if s.toList = [] then (if 0 ≤ n ∧ n ≤ 1 then 0 else 1) else 3)) (fun j => ?_) (Ev.now _)
    simp only [value_CheckValue.j0]
    by_cases ht : s.toList = []
    · simp [ht, kit_Range_f]
    · simp [ht]
  simp only [if_neg h1]
  by_cases h2 : k = 2
  · subst h2
    simp only [if_true]
    refine Ev.step (f := fun _ => some (if s.toList = [] then (if -1000000000000000 ≤ n ∧ n ≤ 1000000000000000 then 0 else 1) else 3)) (fun j => ?_) (Ev.now _)
    simp only [value_CheckValue.j0]
    by_cases ht : s.toList = []
    · simp [ht, kit_Range_f]
    · simp [ht]
  simp only [if_neg h2]
  by_cases h3 : k = 3
  · subst h3
    simp only [if_true]
    by_cases hn : n = 0
    · subst hn
      simp only [if_true]
      by_cases hl : 200 < s.size
      · refine Ev.step (f := fun _ => some 2) (fun j => ?_) (by rw [if_pos hl]; exact Ev.now _)
        simp only [value_CheckValue.j0]
        simp; omega
      · rw [if_neg hl]
        refine Ev.step (f := fun j => value_CheckValue.l0 j (s.size : Int) 0 3 0 s) (fun j => ?_) ?_
        · simp only [value_CheckValue.j0]
          simp; omega
        · refine scan_ev (told := okB s) (fun j i => value_CheckValue.l0 j (s.size : Int) i 3 0 s) s.size ?_ ?_ ?_ s.size 0 (by omega)
          · intro i hi ht r hr
            refine Ev.step (fun j => ?_) hr
            have hok : 32 ≤ bt s i ∧ bt s i ≤ 126 := by
              unfold okB at ht
              split at ht
              · assumption
              · cases ht
            simp only [value_CheckValue.l0]
            rw [if_pos (by omega), if_pos (by omega), if_pos (by omega), kit_In_f, w64s hi hs]
            simp only [Option.bind_some]
            rw [if_pos (by have := bt_range s i; rw [w64 (by omega) (by omega)]; simpa using hok)]
          · intro i hi r ht
            have hok : ¬ (32 ≤ bt s i ∧ bt s i ≤ 126) ∧ r = 3 := by
              unfold okB at ht
              split at ht
              · cases ht
              · exact ⟨by assumption, (Option.some.inj ht).symm⟩
            obtain ⟨hok, rfl⟩ := hok
            refine Ev.step (f := fun _ => some 3) (fun j => ?_) (Ev.now _)
            simp only [value_CheckValue.l0]
            rw [if_pos (by omega), if_pos (by omega), if_pos (by omega), kit_In_f]
            simp only [Option.bind_some]
            rw [if_neg (by have := bt_range s i; rw [w64 (by omega) (by omega)]; simpa using hok)]
          · refine Ev.step (f := fun _ => some 0) (fun j => ?_) (Ev.now _)
            simp only [value_CheckValue.l0]
            rw [if_neg (by omega)]
    · refine Ev.step (f := fun _ => some 3) (fun j => ?_) (by rw [if_neg hn]; exact Ev.now _)
      simp only [value_CheckValue.j0]
      simp [hn]
  · simp only [if_neg h3]
    refine Ev.step (f := fun _ => some 4) (fun j => ?_) (Ev.now _)
    simp only [value_CheckValue.j0]
    simp [h2, h3]

theorem CVr_l (k n : Int) (s : ByteArray) (hs : s.size ≤ 9223372036854775807) : Ev (fun j => peristyleref1_CheckValue.l0 j 0 k n s) (scan (okB s) 0 0 s.size) := by
  refine scan_ev (told := okB s) (fun j i => peristyleref1_CheckValue.l0 j i k n s) s.size ?_ ?_ ?_ s.size 0 (by omega)
  · intro i hi ht r hr
    refine Ev.step (fun j => ?_) hr
    have hok : 32 ≤ bt s i ∧ bt s i ≤ 126 := by
      unfold okB at ht
      split at ht
      · assumption
      · cases ht
    simp only [peristyleref1_CheckValue.l0]
    rw [if_pos (by omega), if_pos (by omega), if_neg (by omega), if_neg (by omega), w64s hi hs]
  · intro i hi r ht
    have hok : ¬ (32 ≤ bt s i ∧ bt s i ≤ 126) ∧ r = 3 := by
      unfold okB at ht
      split at ht
      · cases ht
      · exact ⟨by assumption, (Option.some.inj ht).symm⟩
    obtain ⟨hok, rfl⟩ := hok
    refine Ev.step (f := fun _ => some 3) (fun j => ?_) (Ev.now _)
    simp only [peristyleref1_CheckValue.l0]
    rw [if_pos (by omega), if_pos (by omega)]
    by_cases h : bt s i < 32
    · rw [if_pos h]
    · rw [if_neg h, if_pos (by omega)]
  · refine Ev.step (f := fun _ => some 0) (fun j => ?_) (Ev.now _)
    simp only [peristyleref1_CheckValue.l0]
    rw [if_neg (by omega)]
theorem CVr_j1 (k n : Int) (s : ByteArray) (hs : s.size ≤ 9223372036854775807) (b : Bool) :
    Ev (fun j => peristyleref1_CheckValue.j1 j b k n s) (if b = true then 1 else if 200 < s.size then 2 else scan (okB s) 0 0 s.size) := by
  by_cases hb : b = true
  · refine Ev.step (f := fun _ => some 1) (fun j => ?_) (by rw [if_pos hb]; exact Ev.now _)
    simp only [peristyleref1_CheckValue.j1]; rw [if_pos hb]
  · rw [if_neg hb]
    by_cases hl : 200 < s.size
    · refine Ev.step (f := fun _ => some 2) (fun j => ?_) (by rw [if_pos hl]; exact Ev.now _)
      simp only [peristyleref1_CheckValue.j1]; rw [if_neg hb, if_pos (by omega)]
    · rw [if_neg hl]
      refine Ev.step (f := fun j => peristyleref1_CheckValue.l0 j 0 k n s) (fun j => ?_) (CVr_l k n s hs)
      simp only [peristyleref1_CheckValue.j1]; rw [if_neg hb, if_neg (by omega)]
theorem scan_empty (s : ByteArray) (h : s.toList = []) : scan (okB s) 0 0 s.size = 0 ∧ ¬ 200 < s.size := by
  have hz : s.size = 0 := by
    have : s.toList.length = s.size := by rw [Lib.toList_data, Lib.size_eq]
    rw [h] at this; simpa using this.symm
  rw [hz]
  exact ⟨rfl, by omega⟩
theorem CVr (k n : Int) (s : ByteArray) (hs : s.size ≤ 9223372036854775807) : Ev (fun j => peristyleref1_CheckValue.f j k n s) (cv k n s) := by
  unfold peristyleref1_CheckValue.f cv
  simp only [within_f, Option.bind_some, decide_eq_true_eq]
  by_cases h0 : k = 0
  · subst h0
    by_cases hn : n = 0
    · subst hn
      by_cases ht : s.toList = []
      · simp only [ht]
        refine Ev.step (f := fun j => peristyleref1_CheckValue.j1 j false 0 0 s) (fun j => ?_) ?_
        · simp only [peristyleref1_CheckValue.j0]; simp
        · have := CVr_j1 0 0 s hs false
          rw [if_neg (by decide), if_neg (scan_empty s ht).2, (scan_empty s ht).1] at this
          exact this
      · refine Ev.step (f := fun j => some 3) (fun j => ?_) (by simp [ht]; exact Ev.now _)
        simp [peristyleref1_CheckValue.j0, ht]
    · refine Ev.step (f := fun j => some 3) (fun j => ?_) (by simp [hn]; exact Ev.now _)
      simp [peristyleref1_CheckValue.j0, hn]
  by_cases h1 : k = 1
  · subst h1
    by_cases ht : s.toList = []
    · by_cases hr : 0 ≤ n ∧ n ≤ 1
      · refine Ev.step (f := fun j => peristyleref1_CheckValue.j1 j false 1 n s) (fun j => ?_) ?_
        · simp [peristyleref1_CheckValue.j0, ht, within_f, hr]
        · have := CVr_j1 1 n s hs false
          rw [if_neg (by decide), if_neg (scan_empty s ht).2, (scan_empty s ht).1] at this
          simpa [ht, hr] using this
      · refine Ev.step (f := fun j => peristyleref1_CheckValue.j1 j true 1 n s) (fun j => ?_) ?_
        · simp [peristyleref1_CheckValue.j0, ht, within_f, hr]
        · have := CVr_j1 1 n s hs true
          simpa [ht, hr] using this
    · refine Ev.step (f := fun j => some 3) (fun j => ?_) (by simp [ht]; exact Ev.now _)
      simp [peristyleref1_CheckValue.j0, ht]
  by_cases h2 : k = 2
  · subst h2
    by_cases ht : s.toList = []
    · by_cases hr : -1000000000000000 ≤ n ∧ n ≤ 1000000000000000
      · refine Ev.step (f := fun j => peristyleref1_CheckValue.j1 j false 2 n s) (fun j => ?_) ?_
        · simp [peristyleref1_CheckValue.j0, ht, within_f, hr]
        · have := CVr_j1 2 n s hs false
          rw [if_neg (by decide), if_neg (scan_empty s ht).2, (scan_empty s ht).1] at this
          simpa [ht, hr] using this
      · refine Ev.step (f := fun j => peristyleref1_CheckValue.j1 j true 2 n s) (fun j => ?_) ?_
        · have e : (!decide (-1000000000000000 ≤ n) || !decide (n ≤ 1000000000000000)) = true := by
            by_cases h : -1000000000000000 ≤ n
            · have : ¬ n ≤ 1000000000000000 := fun h2 => hr ⟨h, h2⟩
              simp [this]
            · simp [h]
          simp [peristyleref1_CheckValue.j0, ht, within_f, e]
        · have := CVr_j1 2 n s hs true
          simpa [ht, hr] using this
    · refine Ev.step (f := fun j => some 3) (fun j => ?_) (by simp [ht]; exact Ev.now _)
      simp [peristyleref1_CheckValue.j0, ht]
  by_cases h3 : k = 3
  · subst h3
    by_cases hn : n = 0
    · subst hn
      refine Ev.step (f := fun j => peristyleref1_CheckValue.j1 j false 3 0 s) (fun j => ?_) ?_
      · simp [peristyleref1_CheckValue.j0]
      · have := CVr_j1 3 0 s hs false
        simpa using this
    · refine Ev.step (f := fun j => some 3) (fun j => ?_) (by simp [hn]; exact Ev.now _)
      simp [peristyleref1_CheckValue.j0, hn]
  · have hk : ¬ (0 ≤ k ∧ k ≤ 3) := by omega
    simp only [if_neg h0, if_neg h1, if_neg h2, if_neg h3, if_neg hk]
    exact Ev.now _
theorem scan_ex {ρ : Type} (p : Nat → Prop) [DecidablePred p] (a fin : ρ) : ∀ d i, (∃ j, i ≤ j ∧ j < i + d ∧ p j) → scan (fun j => if p j then some a else none) fin i d = a
  | 0, i, h => by obtain ⟨j, h1, h2, _⟩ := h; omega
  | d + 1, i, h => by
    unfold scan
    by_cases hp : p i
    · simp [hp]
    · simp only [if_neg hp]
      obtain ⟨j, h1, h2, h3⟩ := h
      have : j ≠ i := fun e => hp (e ▸ h3)
      exact scan_ex p a fin d (i + 1) ⟨j, by omega, by omega, h3⟩
theorem scan_if {ρ : Type} (p : Nat → Prop) [DecidablePred p] (a fin : ρ) (n : Nat) : scan (fun j => if p j then some a else none) fin 0 n = if ∃ j, j < n ∧ p j then a else fin := by
  split
  · rename_i h
    obtain ⟨j, h1, h2⟩ := h
    exact scan_ex p a fin n 0 ⟨j, by omega, by omega, h2⟩
  · rename_i h
    exact scan_none n 0 fun j _ h2 => if_neg fun hp => h ⟨j, by omega, hp⟩

abbrev Val := S23
abbrev valAt (l : List Val) (i : Nat) : Val := rd_T23 l (i : Int)
theorem valAt_mem {l : List Val} {i : Nat} (h : i < l.length) : valAt l i ∈ l := by
  show l.getD i _ ∈ l
  rw [List.getD_eq_getElem?_getD, List.getElem?_eq_getElem h]
  exact List.getElem_mem h
end Go.Proofs.YtokphfhihhdfpaaDoor.Pure
