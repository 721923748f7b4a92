/- The stable sort, part C: the whole: permuted, and ascending by LT, if LT agrees with the order asked wherever a later element is asked against an earlier one. -/
import Derived.Test.YtokphfhihhdfpaaDoorStabB
namespace Go.Proofs.YtokphfhihhdfpaaDoor.Stab
open Go.Sort
set_option linter.unusedVariables false
variable {α : Type} [Inhabited α]

def TagLt (tg : α → Nat) (a m n : Nat) (d : Array α) : Prop := ∀ i j, a ≤ i → i < m → m ≤ j → j < n → tg d[i]! < tg d[j]!
/-- From a on: runs of bs places, the elements of each before those of the later ones. -/
def Chk (LT : α → α → Bool) (tg : α → Nat) (d : Array α) (bs n a : Nat) : Prop :=
  if h : 0 < bs ∧ a + bs < n then SortedIn LT a (a + bs) d ∧ TagLt tg a (a + bs) n d ∧ Chk LT tg d bs n (a + bs) else SortedIn LT a n d
termination_by n - a
variable {lt LT : α → α → Bool} {tg : α → Nat}
theorem sorted_congr {a b : Nat} {d d' : Array α} (h : ∀ x, a ≤ x → x < b → d'[x]! = d[x]!) (hs : SortedIn LT a b d) : SortedIn LT a b d' := fun i j hi hij hj => by
  rw [h i hi (by omega), h j (by omega) hj]; exact hs i j hi hij hj
theorem Chk_congr (bs n : Nat) : ∀ k a (d d' : Array α), n - a ≤ k → (∀ x, a ≤ x → d'[x]! = d[x]!) → Chk LT tg d bs n a → Chk LT tg d' bs n a := by
  intro k
  induction k with
  | zero =>
    intro a d d' h he hc
    rw [Chk, dif_neg (by omega)] at hc ⊢
    exact sorted_congr (fun x hx _ => he x hx) hc
  | succ k ih =>
    intro a d d' h he hc
    rw [Chk] at hc ⊢
    by_cases hb : 0 < bs ∧ a + bs < n
    · rw [dif_pos hb] at hc ⊢
      exact ⟨sorted_congr (fun x hx _ => he x hx) hc.1, fun i j h1 h2 h3 h4 => by rw [he i h1, he j (by omega)]; exact hc.2.1 i j h1 h2 h3 h4, ih (a + bs) d d' (by omega) (fun x hx => he x (by omega)) hc.2.2⟩
    · rw [dif_neg hb] at hc ⊢
      exact sorted_congr (fun x hx _ => he x hx) hc
/-- Tags that grow along [a, n). -/
def Grows (tg : α → Nat) (a n : Nat) (d : Array α) : Prop := ∀ i j, a ≤ i → i < j → j < n → tg d[i]! < tg d[j]!
theorem blocks_ok (hS : SWO LT) (hag : ∀ x y, tg y < tg x → lt x y = LT x y) (bs n : Nat) (hbs : 0 < bs) : ∀ k a (d : Array α), n - a ≤ k → a ≤ n → n ≤ d.size → Grows tg a n d →
    PermIn a n d (blocks lt bs n a d) ∧ Chk LT tg (blocks lt bs n a d) bs n a := by
  have last : ∀ a (d : Array α), a ≤ n → n ≤ d.size → Grows tg a n d → ¬ a + bs < n → PermIn a n d (insertionSort lt d a n) ∧ Chk LT tg (insertionSort lt d a n) bs n a := fun a d han hs hg hlt => by
    have h := ins_ok (lt := lt) hS a n d han hs (fun q p h1 h2 h3 => hag _ _ (hg p q h1 h2 h3))
    refine ⟨h.1, ?_⟩
    rw [Chk, dif_neg (by omega)]
    exact h.2
  intro k
  induction k with
  | zero =>
    intro a d h han hs hg
    rw [blocks, dif_neg (by omega)]
    exact last a d han hs hg (by omega)
  | succ k ih =>
    intro a d h han hs hg
    rw [blocks]
    by_cases hb : 0 < bs ∧ a + bs ≤ n
    · rw [dif_pos hb]
      have h1 := ins_ok (lt := lt) hS a (a + bs) d (by omega) (by omega) (fun q p h1 h2 h3 => hag _ _ (hg p q h1 h2 (by omega)))
      generalize insertionSort lt d a (a + bs) = d1 at h1
      have z1 : d1.size = d.size := h1.1.1
      have g1 : Grows tg (a + bs) n d1 := fun i j hi hij hj => by
        rw [h1.1.2.1 i (.inr hi), h1.1.2.1 j (.inr (by omega))]; exact hg i j (by omega) hij hj
      have h2 := ih (a + bs) d1 (by omega) hb.2 (by omega) g1
      generalize blocks lt bs n (a + bs) d1 = d2 at h2
      refine ⟨permIn_trans _ _ _ _ _ (permIn_mono d d1 a (a + bs) a n (Nat.le_refl _) hb.2 hs h1.1) (permIn_mono d1 d2 (a + bs) n a n (by omega) (Nat.le_refl _) (by omega) h2.1), ?_⟩
      have s1 : SortedIn LT a (a + bs) d2 := sorted_congr (fun x _ hx => h2.1.2.1 x (.inl hx)) h1.2
      rw [Chk]
      by_cases hlt : 0 < bs ∧ a + bs < n
      · rw [dif_pos hlt]
        refine ⟨s1, fun i j hi1 hi2 hj1 hj2 => ?_, h2.2⟩
        rw [h2.1.2.1 i (.inl hi2)]
        obtain ⟨x, hx1, hx2, ex⟩ := perm_inv h1.1 (by omega) i hi1 hi2
        obtain ⟨y, hy1, hy2, ey⟩ := perm_inv h2.1 (by omega) j hj1 hj2
        rw [ex, ey, h1.1.2.1 y (.inr hy1)]
        exact hg x y hx1 (by omega) hy2
      · rw [dif_neg hlt]
        have : n = a + bs := by omega
        rw [this]; exact s1
    · rw [dif_neg hb]
      exact last a d han hs hg (by omega)
theorem pass_ok (hS : SWO LT) (hag : ∀ x y, tg y < tg x → lt x y = LT x y) (bs n : Nat) (hbs : 0 < bs) : ∀ k a (d : Array α), n - a ≤ k → a ≤ n → n ≤ d.size → Chk LT tg d bs n a →
    PermIn a n d (pass lt bs n a d) ∧ Chk LT tg (pass lt bs n a d) (2 * bs) n a := by
  intro k
  induction k with
  | zero =>
    intro a d h han hs hc
    rw [pass, dif_neg (by omega), if_neg (by omega)]
    rw [Chk, dif_neg (by omega)] at hc
    refine ⟨permIn_refl _ _ _, ?_⟩
    rw [Chk, dif_neg (by omega)]
    exact hc
  | succ k ih =>
    intro a d h han hs hc
    rw [pass]
    by_cases hb : 0 < bs ∧ a + 2 * bs ≤ n
    · rw [dif_pos hb]
      rw [Chk, dif_pos ⟨hbs, by omega⟩] at hc
      obtain ⟨c1, c2, c3⟩ := hc
      have c3' : SortedIn LT (a + bs) (a + 2 * bs) d := by
        rw [Chk] at c3
        split at c3
        · rw [show a + 2 * bs = a + bs + bs by omega]; exact c3.1
        · rw [show a + 2 * bs = n by omega]; exact c3
      have h1 := symM_ok (lt := lt) hS _ a (a + bs) (a + 2 * bs) d (Nat.le_refl _) (by omega) (by omega) (by omega) c1 c3' (fun i j h1 h2 h3 h4 => hag _ _ (c2 i j h1 h2 h3 (by omega)))
      generalize symM lt a (a + bs) (a + 2 * bs) d = d1 at h1
      have z1 : d1.size = d.size := h1.1.1
      have o1 : ∀ x, a + 2 * bs ≤ x → d1[x]! = d[x]! := fun x hx => h1.1.2.1 x (.inr hx)
      by_cases hlt : a + 2 * bs < n
      · have c4 : TagLt tg (a + bs) (a + bs + bs) n d ∧ Chk LT tg d bs n (a + bs + bs) := by
          rw [Chk, dif_pos ⟨hbs, by omega⟩] at c3
          exact c3.2
        have c5 : Chk LT tg d1 bs n (a + 2 * bs) := Chk_congr bs n _ _ d d1 (Nat.le_refl _) o1 (by rw [show a + 2 * bs = a + bs + bs by omega]; exact c4.2)
        have h2 := ih (a + 2 * bs) d1 (by omega) hb.2 (by omega) c5
        generalize pass lt bs n (a + 2 * bs) d1 = d2 at h2
        refine ⟨permIn_trans _ _ _ _ _ (permIn_mono d d1 a (a + 2 * bs) a n (Nat.le_refl _) hb.2 hs h1.1) (permIn_mono d1 d2 (a + 2 * bs) n a n (by omega) (Nat.le_refl _) (by omega) h2.1), ?_⟩
        rw [Chk, dif_pos ⟨by omega, hlt⟩]
        refine ⟨sorted_congr (fun x _ hx => h2.1.2.1 x (.inl hx)) h1.2, fun i j hi1 hi2 hj1 hj2 => ?_, h2.2⟩
        rw [h2.1.2.1 i (.inl hi2)]
        obtain ⟨x, hx1, hx2, ex⟩ := perm_inv h1.1 (by omega) i hi1 hi2
        obtain ⟨y, hy1, hy2, ey⟩ := perm_inv h2.1 (by omega) j hj1 hj2
        rw [ex, ey, o1 y hy1]
        rcases Nat.lt_or_ge x (a + bs) with hx | hx
        · exact c2 x y hx1 hx (by omega) hy2
        · exact c4.1 x y hx (by omega) (by omega) hy2
      · have e : n = a + 2 * bs := by omega
        rw [pass, dif_neg (by omega), if_neg (by omega)]
        refine ⟨by rw [e]; exact h1.1, ?_⟩
        rw [Chk, dif_neg (by omega), e]
        exact h1.2
    · rw [dif_neg hb]
      by_cases hlt : a + bs < n
      · rw [if_pos hlt]
        rw [Chk, dif_pos ⟨hbs, hlt⟩] at hc
        obtain ⟨c1, c2, c3⟩ := hc
        rw [Chk, dif_neg (by omega)] at c3
        have h1 := symM_ok (lt := lt) hS _ a (a + bs) n d (Nat.le_refl _) (by omega) hlt hs c1 c3 (fun i j h1 h2 h3 h4 => hag _ _ (c2 i j h1 h2 h3 h4))
        refine ⟨h1.1, ?_⟩
        rw [Chk, dif_neg (by omega)]
        exact h1.2
      · rw [if_neg hlt]
        refine ⟨permIn_refl _ _ _, ?_⟩
        rw [Chk, dif_neg (by omega)] at hc ⊢
        exact hc
theorem passes_ok (hS : SWO LT) (hag : ∀ x y, tg y < tg x → lt x y = LT x y) (n : Nat) : ∀ k bs (d : Array α), n - bs ≤ k → 0 < bs → n ≤ d.size → Chk LT tg d bs n 0 →
    PermIn 0 n d (passes lt bs n d) ∧ SortedIn LT 0 n (passes lt bs n d) := by
  intro k
  induction k with
  | zero =>
    intro bs d h hbs hs hc
    rw [passes, dif_neg (by omega)]
    rw [Chk, dif_neg (by omega)] at hc
    exact ⟨permIn_refl _ _ _, hc⟩
  | succ k ih =>
    intro bs d h hbs hs hc
    rw [passes]
    by_cases hb : 0 < bs ∧ bs < n
    · rw [dif_pos hb]
      have h1 := pass_ok (lt := lt) hS hag bs n hbs _ 0 d (Nat.le_refl _) (Nat.zero_le _) hs hc
      have h2 := ih (bs * 2) (pass lt bs n 0 d) (by omega) (by omega) (by rw [h1.1.1]; exact hs) (by rw [Nat.mul_comm]; exact h1.2)
      exact ⟨permIn_trans _ _ _ _ _ h1.1 h2.1, h2.2⟩
    · rw [dif_neg hb]
      rw [Chk, dif_neg (by omega)] at hc
      exact ⟨permIn_refl _ _ _, hc⟩
/-- The stable sort: permuted, and ascending by LT. -/
theorem stable_ok (hS : SWO LT) (hag : ∀ x y, tg y < tg x → lt x y = LT x y) (d : Array α) (hg : Grows tg 0 d.size d) :
    PermIn 0 d.size d (stable lt d) ∧ SortedIn LT 0 d.size (stable lt d) := by
  unfold stable
  have h1 := blocks_ok (lt := lt) hS hag 20 d.size (by decide) _ 0 d (Nat.le_refl _) (Nat.zero_le _) (Nat.le_refl _) hg
  have h2 := passes_ok (lt := lt) hS hag d.size _ 20 _ (Nat.le_refl _) (by decide) (by rw [h1.1.1]; exact Nat.le_refl _) h1.2
  exact ⟨permIn_trans _ _ _ _ _ h1.1 h2.1, h2.2⟩
theorem blocks_size (lt : α → α → Bool) (bs n : Nat) : ∀ k a (d : Array α), n - a ≤ k → n ≤ d.size → (blocks lt bs n a d).size = d.size := by
  have ins : ∀ a b (d : Array α), b ≤ d.size → (insertionSort lt d a b).size = d.size := by
    intro a b d hb
    have key : ∀ k i (d : Array α), b - i ≤ k → b ≤ d.size → (insOuter lt a b i d).size = d.size := by
      intro k
      induction k with
      | zero => intro i d h _; rw [insOuter_def, if_neg (by omega)]
      | succ k ih =>
        intro i d h hs
        rw [insOuter_def]
        split
        · have hz := (insInner_perm lt a (i + 1) i d (by omega) (by omega)).1
          rw [ih _ _ (by omega) (by rw [hz]; exact hs), hz]
        · rfl
    exact key _ _ d (Nat.le_refl _) hb
  intro k
  induction k with
  | zero =>
    intro a d h hs
    rw [blocks, dif_neg (by omega)]
    exact ins _ _ _ hs
  | succ k ih =>
    intro a d h hs
    rw [blocks]
    split
    · rename_i hb
      rw [ih _ _ (by omega) (by rw [ins _ _ _ (by omega)]; exact hs), ins _ _ _ (by omega)]
    · exact ins _ _ _ hs
theorem ins_size (lt : α → α → Bool) (a b : Nat) (d : Array α) (hb : b ≤ d.size) : (insertionSort lt d a b).size = d.size := by
  have key : ∀ k i (d : Array α), b - i ≤ k → b ≤ d.size → (insOuter lt a b i d).size = d.size := by
    intro k
    induction k with
    | zero => intro i d h _; rw [insOuter_def, if_neg (by omega)]
    | succ k ih =>
      intro i d h hs
      rw [insOuter_def]
      split
      · have hz := (insInner_perm lt a (i + 1) i d (by omega) (by omega)).1
        rw [ih _ _ (by omega) (by rw [hz]; exact hs), hz]
      · rfl
  exact key _ _ d (Nat.le_refl _) hb
end Go.Proofs.YtokphfhihhdfpaaDoor.Stab
