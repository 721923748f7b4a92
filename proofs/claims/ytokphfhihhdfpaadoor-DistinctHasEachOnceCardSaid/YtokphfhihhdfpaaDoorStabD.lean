/- The stable sort at places: of the places 0 to m, by a comparison, the one order in which they ascend, equals by their places. No program in sight. -/
import Derived.Test.YtokphfhihhdfpaaDoorStabC
namespace Go.Proofs.YtokphfhihhdfpaaDoor.Stab
open Go.Sort
set_option linter.unusedVariables false

/-- Of two lists that are permutations of each other, both ascending by what never holds both ways, each is the other. -/
theorem uniq {α : Type} {R : α → α → Prop} (has : ∀ a b, R a b → R b a → False) : ∀ {l l' : List α}, l.Perm l' → l.Pairwise R → l'.Pairwise R → l = l'
  | [], l', h, _, _ => h.nil_eq
  | a :: t, [], h, _, _ => h.eq_nil
  | a :: t, b :: s, h, h1, h2 => by
    rw [List.pairwise_cons] at h1 h2
    by_cases e : a = b
    · subst e
      rw [uniq has ((List.perm_cons a).1 h) h1.2 h2.2]
    · exfalso
      have ha : a ∈ b :: s := h.subset List.mem_cons_self
      have hb : b ∈ a :: t := h.symm.subset List.mem_cons_self
      rcases List.mem_cons.1 ha with ha | ha
      · exact e ha
      · rcases List.mem_cons.1 hb with hb | hb
        · exact e hb.symm
        · exact has a b (h1.1 b hb) (h2.1 a ha)

variable {m : Nat}
/-- A comparison of places. -/
structure Ordered (cf : Fin (m + 1) → Fin (m + 1) → Int) : Prop where
  neg : ∀ i j, cf j i = - cf i j
  trans : ∀ i j k, cf i j ≤ 0 → cf j k ≤ 0 → cf i k ≤ 0 ∧ (cf i k = 0 ↔ cf i j = 0 ∧ cf j k = 0)
/-- Ahead of: less, or equal and of a lesser place. -/
def Ahead (cf : Fin (m + 1) → Fin (m + 1) → Int) (i j : Fin (m + 1)) : Prop := cf i j < 0 ∨ (cf i j = 0 ∧ i.val < j.val)
def aheadB (cf : Fin (m + 1) → Fin (m + 1) → Int) (i j : Fin (m + 1)) : Bool := decide (cf i j < 0) || (decide (cf i j = 0) && decide (i.val < j.val))
variable {cf : Fin (m + 1) → Fin (m + 1) → Int}
theorem Ahead.asymm (h : Ordered cf) (i j : Fin (m + 1)) (h1 : Ahead cf i j) (h2 : Ahead cf j i) : False := by
  have := h.neg i j
  unfold Ahead at h1 h2
  omega
theorem aheadB_iff (i j : Fin (m + 1)) : aheadB cf i j = true ↔ cf i j < 0 ∨ (cf i j = 0 ∧ i.val < j.val) := by simp [aheadB]
theorem aheadB_not (i j : Fin (m + 1)) : aheadB cf i j = false ↔ ¬ (cf i j < 0 ∨ (cf i j = 0 ∧ i.val < j.val)) := by rw [← aheadB_iff]; simp
theorem swo_less (h : Ordered cf) : SWO (fun x y => decide (cf x y < 0)) where
  irrefl x := by have := h.neg x x; simp only [decide_eq_false_iff_not]; omega
  trans x y z h1 h2 := by
    simp only [decide_eq_true_eq] at *
    have := h.trans x y z (by omega) (by omega)
    omega
  ntrans x y z h1 h2 := by
    simp only [decide_eq_false_iff_not] at *
    have n1 := h.neg x y
    have n2 := h.neg y z
    have n3 := h.neg x z
    have := h.trans z y x (by omega) (by omega)
    omega
theorem swo_ahead (h : Ordered cf) : SWO (aheadB cf) where
  irrefl x := by have := h.neg x x; rw [aheadB_not]; omega
  trans x y z h1 h2 := by
    rw [aheadB_iff] at *
    have := h.trans x y z (by omega) (by omega)
    omega
  ntrans x y z h1 h2 := by
    rw [aheadB_not] at *
    have n1 := h.neg x y
    have n2 := h.neg y z
    have n3 := h.neg x z
    have := h.trans z y x (by omega) (by omega)
    omega
/-- The places themselves. -/
def d0 (m : Nat) : Array (Fin (m + 1)) := Array.ofFn fun i => i
theorem d0_size : (d0 m).size = m + 1 := by simp [d0]
theorem d0_get (i : Nat) (h : i < m + 1) : (d0 m)[i]! = ⟨i, h⟩ := by
  rw [getElem!_pos (d0 m) i (by rw [d0_size]; exact h)]
  simp [d0]
theorem d0_list : (d0 m).toList = List.finRange (m + 1) := by
  unfold d0
  rw [Array.toList_ofFn]
  rfl
theorem whole {α : Type} (d : Array α) (n : Nat) (h : n = d.size) : (d.extract 0 n).toList = d.toList := by subst h; simp
theorem get_list {α : Type} [Inhabited α] (d : Array α) (i : Nat) (h : i < d.toList.length) : d.toList[i] = d[i]! := by
  rw [getElem!_pos d i (by simpa using h)]
  simp
/-- What a sort of places leaves: each once, ascending. -/
theorem places_of {d : Array (Fin (m + 1))} (h : Ordered cf) (hp : PermIn 0 (d0 m).size (d0 m) d) (hs : SortedIn (aheadB cf) 0 (d0 m).size d) :
    d.toList.Perm (List.finRange (m + 1)) ∧ d.toList.Pairwise (Ahead cf) := by
  have p : d.toList.Perm (List.finRange (m + 1)) := by
    have := hp.2.2
    rw [whole d _ hp.1.symm, whole (d0 m) _ rfl, d0_list] at this
    exact this
  refine ⟨p, ?_⟩
  have nd : d.toList.Nodup := p.nodup_iff.2 (List.nodup_finRange _)
  rw [List.pairwise_iff_getElem]
  intro i j hi hj hij
  have hne : d.toList[i] ≠ d.toList[j] := List.pairwise_iff_getElem.1 nd i j hi hj hij
  have hj' : j < d.size := by simpa using hj
  have := hs i j (Nat.zero_le _) hij (by rw [← hp.1]; exact hj')
  rw [get_list, get_list] at hne ⊢
  have n1 := h.neg d[i]! d[j]!
  have n2 : d[i]!.val ≠ d[j]!.val := fun e => hne (Fin.ext e)
  rw [aheadB_not] at this
  unfold Ahead
  omega
/-- The stable sort of the places. -/
theorem stable_places (h : Ordered cf) :
    (stable (fun x y => decide (cf x y < 0)) (d0 m)).toList.Perm (List.finRange (m + 1)) ∧ (stable (fun x y => decide (cf x y < 0)) (d0 m)).toList.Pairwise (Ahead cf) := by
  have := stable_ok (lt := fun x y => decide (cf x y < 0)) (LT := aheadB cf) (tg := fun x : Fin (m + 1) => x.val) (swo_ahead h) (fun x y hxy => ?_) (d0 m) (fun i j hi hij hj => ?_)
  · exact places_of h this.1 this.2
  · rw [Bool.eq_iff_iff, aheadB_iff]
    simp only [decide_eq_true_eq]
    omega
  · rw [d0_size] at hj
    rw [d0_get i (by omega), d0_get j hj]
    exact hij
theorem stable_size (lt : Fin (m + 1) → Fin (m + 1) → Bool) (h : PermIn 0 (d0 m).size (d0 m) (stable lt (d0 m))) : (stable lt (d0 m)).size = m + 1 := h.1.trans d0_size
/-! ### the size, whatever the order -/
theorem pass_size (lt : Fin (m + 1) → Fin (m + 1) → Bool) (bs n : Nat) : ∀ k a (d : Array (Fin (m + 1))), n - a ≤ k → (pass lt bs n a d).size = d.size := by
  intro k
  induction k with
  | zero => intro a d h; rw [pass, dif_neg (by omega), if_neg (by omega)]
  | succ k ih =>
    intro a d h
    rw [pass]
    split
    · rw [ih _ _ (by omega), symM_size _ _ _ _ _ d (Nat.le_refl _)]
    · split
      · exact symM_size _ _ _ _ _ d (Nat.le_refl _)
      · rfl
theorem passes_size (lt : Fin (m + 1) → Fin (m + 1) → Bool) (n : Nat) : ∀ k bs (d : Array (Fin (m + 1))), n - bs ≤ k → (passes lt bs n d).size = d.size := by
  intro k
  induction k with
  | zero => intro bs d h; rw [passes, dif_neg (by omega)]
  | succ k ih =>
    intro bs d h
    rw [passes]
    split
    · rw [ih _ _ (by omega), pass_size _ _ _ _ _ d (Nat.le_refl _)]
    · rfl
theorem stab_size (lt : Fin (m + 1) → Fin (m + 1) → Bool) : (stable lt (d0 m)).size = m + 1 := by
  unfold stable
  rw [passes_size _ _ _ _ _ (Nat.le_refl _), blocks_size _ _ _ _ _ _ (Nat.le_refl _) (Nat.le_refl _), d0_size]
end Go.Proofs.YtokphfhihhdfpaaDoor.Stab
