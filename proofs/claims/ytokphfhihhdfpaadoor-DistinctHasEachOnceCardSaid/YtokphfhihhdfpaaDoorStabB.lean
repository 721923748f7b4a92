/- The stable sort, part B: with an order LT that agrees with the one asked wherever it is asked, the result is permuted and ascending by LT. -/
import Derived.Test.YtokphfhihhdfpaaDoorStabA
namespace Go.Proofs.YtokphfhihhdfpaaDoor.Stab
open Go.Sort
set_option linter.unusedVariables false
variable {α : Type} [Inhabited α]

/-! ### insertion sort -/
theorem insInner_eq {lt LT : α → α → Bool} (a : Nat) : ∀ (j : Nat) (d : Array α), j < d.size → (∀ p, a ≤ p → p < j → lt d[j]! d[p]! = LT d[j]! d[p]!) → insInner lt a j d = insInner LT a j d
  | 0, d, _, _ => rfl
  | j + 1, d, hs, h => by
    rw [insInner, insInner]
    by_cases hj : a < j + 1
    · rw [h j (by omega) (by omega)]
      split
      · refine insInner_eq a j _ (by rw [swp_size]; omega) fun p hp1 hp2 => ?_
        have g := swp_get d (show j + 1 < d.size by omega) (show j < d.size by omega)
        rw [g, g, if_pos rfl, if_neg (by omega), if_neg (by omega)]
        exact h p hp1 (by omega)
      · rfl
    · have e1 : (decide (j + 1 > a) && lt d[j + 1]! d[j]!) = false := by rw [decide_eq_false (by omega)]; rfl
      have e2 : (decide (j + 1 > a) && LT d[j + 1]! d[j]!) = false := by rw [decide_eq_false (by omega)]; rfl
      rw [e1, e2, if_neg (by simp), if_neg (by simp)]
theorem insOuter_def (f : α → α → Bool) (a b i : Nat) (d : Array α) : insOuter f a b i d = if i < b then insOuter f a b (i + 1) (insInner f a i d) else d := by rw [insOuter]
theorem insInner_perm (lt : α → α → Bool) (a hi : Nat) : ∀ (j : Nat) (d : Array α), j < hi → hi ≤ d.size → PermIn a hi d (insInner lt a j d)
  | 0, d, _, _ => permIn_refl _ _ _
  | j + 1, d, hj, hs => by
    rw [insInner]
    by_cases hc : (decide (j + 1 > a) && lt d[j + 1]! d[j]!) = true
    · rw [if_pos hc]
      have : a < j + 1 := by
        have := (Bool.and_eq_true _ _ ▸ hc).1
        simpa using this
      exact permIn_trans _ _ _ _ _ (swp_permIn d a hi (j + 1) j (by omega) hj (by omega) (by omega) hs) (insInner_perm lt a hi j _ (by omega) (by rw [swp_size]; exact hs))
    · rw [if_neg hc]; exact permIn_refl _ _ _
theorem insOuter_eq {lt LT : α → α → Bool} (a b : Nat) : ∀ (k i : Nat) (d : Array α), b - i ≤ k → a ≤ i → b ≤ d.size → (∀ q p, i ≤ q → q < b → a ≤ p → p < q → lt d[q]! d[p]! = LT d[q]! d[p]!) → insOuter lt a b i d = insOuter LT a b i d := by
  intro k
  induction k with
  | zero => intro i d h _ _ _; rw [insOuter_def lt, insOuter_def LT, if_neg (by omega), if_neg (by omega)]
  | succ k ih =>
    intro i d h hai hs hh
    rw [insOuter_def lt, insOuter_def LT]
    by_cases hi : i < b
    · rw [if_pos hi, if_pos hi, insInner_eq a i d (by omega) (fun p h1 h2 => hh i p (Nat.le_refl _) hi h1 h2)]
      have hp := insInner_perm LT a (i + 1) i d (by omega) (by omega)
      refine ih (i + 1) _ (by omega) (by omega) (by rw [hp.1]; exact hs) fun q p h1 h2 h3 h4 => ?_
      rw [hp.2.1 q (.inr h1)]
      rcases Nat.lt_or_ge p (i + 1) with hpi | hpi
      · exact permIn_all d _ a (i + 1) (fun v => lt d[q]! v = LT d[q]! v) (by omega) hp (fun x hx1 hx2 => hh q x (by omega) h2 hx1 (by omega)) p h3 hpi
      · rw [hp.2.1 p (.inr hpi)]
        exact hh q p (by omega) h2 h3 h4
    · rw [if_neg hi, if_neg hi]
theorem ins_ok {lt LT : α → α → Bool} (hS : SWO LT) (a b : Nat) (d : Array α) (hab : a ≤ b) (hs : b ≤ d.size) (hh : ∀ q p, a ≤ p → p < q → q < b → lt d[q]! d[p]! = LT d[q]! d[p]!) :
    PermIn a b d (insertionSort lt d a b) ∧ SortedIn LT a b (insertionSort lt d a b) := by
  have e : insertionSort lt d a b = insertionSort LT d a b := insOuter_eq a b _ (a + 1) d (Nat.le_refl _) (by omega) hs (fun q p h1 h2 h3 h4 => hh q p h3 h4 h2)
  rw [e]
  exact insertionSort_holds hS d a b hab hs

/-! ### the merge -/
/-- d' has on [a, b) what d has there. -/
theorem perm_inv {d d' : Array α} {a b : Nat} (h : PermIn a b d d') (hb : b ≤ d.size) : ∀ i, a ≤ i → i < b → ∃ j, a ≤ j ∧ j < b ∧ d'[i]! = d[j]! :=
  permIn_all d d' a b (fun v => ∃ j, a ≤ j ∧ j < b ∧ v = d[j]!) hb h (fun i h1 h2 => ⟨i, h1, h2, rfl⟩)
theorem sorted_le {LT : α → α → Bool} (hS : SWO LT) {a b : Nat} {d : Array α} (h : SortedIn LT a b d) {i j : Nat} (hi : a ≤ i) (hij : i ≤ j) (hj : j < b) : LT d[j]! d[i]! = false := by
  rcases Nat.eq_or_lt_of_le hij with e | e
  · rw [e]; exact hS.irrefl _
  · exact h i j hi e hj
theorem two_runs {LT : α → α → Bool} {a m b : Nat} {d : Array α} (h1 : SortedIn LT a m d) (h2 : SortedIn LT m b d) (h : ∀ i j, a ≤ i → i < m → m ≤ j → j < b → LT d[j]! d[i]! = false) : SortedIn LT a b d := by
  intro i j hi hij hj
  rcases Nat.lt_or_ge j m with hjm | hjm
  · exact h1 i j hi hij hjm
  · rcases Nat.lt_or_ge i m with him | him
    · exact h i j hi him hjm hj
    · exact h2 i j him hij hj
theorem symM_ok {lt LT : α → α → Bool} (hS : SWO LT) : ∀ k a m b (d : Array α), b - a ≤ k → a < m → m < b → b ≤ d.size → SortedIn LT a m d → SortedIn LT m b d →
    (∀ i j, a ≤ i → i < m → m ≤ j → j < b → lt d[j]! d[i]! = LT d[j]! d[i]!) → PermIn a b d (symM lt a m b d) ∧ SortedIn LT a b (symM lt a m b d) := by
  intro k
  induction k with
  | zero => intro a m b d h ham hmb; omega
  | succ k ih =>
    intro a m b d h ham hmb hs s1 s2 hh
    rw [symM]
    by_cases e1 : m - a = 1
    · rw [if_pos e1]
      obtain rfl : m = a + 1 := by omega
      obtain ⟨q1, q2, q3, q4⟩ := bs1_spec (fun h => lt d[h]! d[a]!) _ (a + 1) b (Nat.le_refl _) (by omega) (fun x y hx hxy hy hp => by
        show lt d[x]! d[a]! = true
        replace hp : lt d[y]! d[a]! = true := hp
        rw [hh a y (Nat.le_refl _) (by omega) (by omega) hy] at hp
        rw [hh a x (Nat.le_refl _) (by omega) hx (by omega)]
        cases hc : LT d[x]! d[a]! with
        | true => rfl
        | false => rw [hS.ntrans _ _ _ (s2 x y hx hxy hy) hc] at hp; exact hp)
      generalize bs1 (fun h => lt d[h]! d[a]!) (a + 1) b = s at q1 q2 q3 q4
      have q3' : ∀ x, a + 1 ≤ x → x < s → LT d[x]! d[a]! = true := fun x h1 h2 => by rw [← hh a x (Nat.le_refl _) (by omega) h1 (by omega)]; exact q3 x h1 h2
      have q4' : ∀ x, s ≤ x → x < b → LT d[x]! d[a]! = false := fun x h1 h2 => by rw [← hh a x (Nat.le_refl _) (by omega) (by omega) h2]; exact q4 x h1 h2
      refine ⟨shU_perm (s - 1) a b _ a d (Nat.le_refl _) (Nat.le_refl _) (by omega) hs, ?_⟩
      have g := shU_get (s - 1) _ a d (Nat.le_refl _) (by omega) (by omega)
      intro i j hi hij hj
      rw [g, g]
      by_cases hj1 : j < s - 1
      · rw [if_pos (by omega), if_pos (by omega)]; exact s2 (i + 1) (j + 1) (by omega) (by omega) (by omega)
      · rw [if_neg (by omega)]
        by_cases hj2 : j = s - 1
        · rw [if_pos hj2, if_pos (by omega)]; exact hS.asymmA (q3' (i + 1) (by omega) (by omega))
        · rw [if_neg hj2]
          by_cases hi1 : i < s - 1
          · rw [if_pos (by omega)]; exact s2 (i + 1) j (by omega) (by omega) hj
          · rw [if_neg (by omega)]
            by_cases hi2 : i = s - 1
            · rw [if_pos hi2]; exact q4' j (by omega) hj
            · rw [if_neg hi2]; exact s2 i j (by omega) hij hj
    · rw [if_neg e1]
      by_cases e2 : b - m = 1
      · rw [if_pos e2]
        obtain rfl : b = m + 1 := by omega
        obtain ⟨q1, q2, q3, q4⟩ := bs1_spec (fun h => !lt d[m]! d[h]!) _ a m (Nat.le_refl _) (by omega) (fun x y hx hxy hy hp => by
          simp only [Bool.not_eq_true'] at hp ⊢
          rw [hh y m (by omega) hy (Nat.le_refl _) (by omega)] at hp
          rw [hh x m hx (by omega) (Nat.le_refl _) (by omega)]
          exact hS.ntrans _ _ _ hp (s1 x y hx hxy hy))
        generalize bs1 (fun h => !lt d[m]! d[h]!) a m = s at q1 q2 q3 q4
        have q3' : ∀ x, a ≤ x → x < s → LT d[m]! d[x]! = false := fun x h1 h2 => by rw [← hh x m h1 (by omega) (Nat.le_refl _) (by omega)]; have := q3 x h1 h2; simpa using this
        have q4' : ∀ x, s ≤ x → x < m → LT d[m]! d[x]! = true := fun x h1 h2 => by rw [← hh x m (by omega) h2 (Nat.le_refl _) (by omega)]; have := q4 x h1 h2; simpa using this
        refine ⟨shD_perm s a (m + 1) q1 m d (by omega) hs, ?_⟩
        have g := shD_get s m d (by omega) (by omega)
        intro i j hi hij hj
        rw [g, g]
        by_cases hj1 : j < s
        · rw [if_neg (by omega), if_neg (by omega), if_neg (by omega), if_neg (by omega)]; exact s1 i j hi hij (by omega)
        · by_cases hj2 : j = s
          · rw [if_pos hj2, if_neg (by omega), if_neg (by omega)]; exact q3' i hi (by omega)
          · rw [if_neg hj2, if_pos (by omega)]
            by_cases hi1 : i < s
            · rw [if_neg (by omega), if_neg (by omega)]; exact s1 i (j - 1) hi (by omega) (by omega)
            · by_cases hi2 : i = s
              · rw [if_pos hi2]; exact hS.asymmA (q4' (j - 1) (by omega) (by omega))
              · rw [if_neg hi2, if_pos (by omega)]; exact s1 (i - 1) (j - 1) (by omega) (by omega) (by omega)
      · rw [if_neg e2]
        simp only
        -- the place that divides
        have hM : (a + b) / 2 + (a + b) / 2 ≤ a + b ∧ a + b ≤ (a + b) / 2 + (a + b) / 2 + 1 := by omega
        unfold mid3
        generalize hmid : (a + b) / 2 = M at hM ⊢
        obtain ⟨lo, hlo⟩ : ∃ lo, lo = if M < m then M + m - b else a := ⟨_, rfl⟩
        obtain ⟨hi, hhi⟩ : ∃ hi, hi = if M < m then M else m := ⟨_, rfl⟩
        rw [← hlo, ← hhi]
        have b1 : a ≤ lo ∧ lo ≤ hi ∧ hi ≤ m ∧ hi ≤ M ∧ M + m - lo ≤ b ∧ (∀ c, lo ≤ c → c < hi → m ≤ M + m - 1 - c ∧ M + m - 1 - c < b) := by
          rw [hlo, hhi]
          split
          · exact ⟨by omega, by omega, by omega, by omega, by omega, fun c h1 h2 => by omega⟩
          · exact ⟨by omega, by omega, by omega, by omega, by omega, fun c h1 h2 => by omega⟩
        have b2 : (lo = a ∨ M + m - lo = b) ∧ (hi = m ∨ hi = M) := by
          rw [hlo, hhi]
          split
          · exact ⟨.inr (by omega), .inr rfl⟩
          · exact ⟨.inl rfl, .inl rfl⟩
        obtain ⟨l1, l2, l3, l4, l5, l6⟩ := b1
        obtain ⟨q1, q2, q3, q4⟩ := bs1_spec (fun c => !lt d[M + m - 1 - c]! d[c]!) _ lo hi (Nat.le_refl _) l2 (fun x y hx hxy hy hp => by
          simp only [Bool.not_eq_true'] at hp ⊢
          have lx := l6 x hx (by omega)
          have ly := l6 y (by omega) hy
          rw [hh y _ (by omega) (by omega) ly.1 ly.2] at hp
          rw [hh x _ (by omega) (by omega) lx.1 lx.2]
          exact hS.ntrans _ _ _ (sorted_le hS s2 ly.1 (by omega) lx.2) (hS.ntrans _ _ _ hp (s1 x y (by omega) hxy (by omega))))
        generalize bs1 (fun c => !lt d[M + m - 1 - c]! d[c]!) lo hi = s at q1 q2 q3 q4
        have q3' : ∀ c, lo ≤ c → c < s → LT d[M + m - 1 - c]! d[c]! = false := fun c h1 h2 => by
          have lc := l6 c h1 (by omega)
          rw [← hh c _ (by omega) (by omega) lc.1 lc.2]; have := q3 c h1 h2; simpa using this
        have q4' : ∀ c, s ≤ c → c < hi → LT d[M + m - 1 - c]! d[c]! = true := fun c h1 h2 => by
          have lc := l6 c (by omega) h2
          rw [← hh c _ (by omega) (by omega) lc.1 lc.2]; have := q4 c h1 h2; simpa using this
        clear hlo hhi q3 q4
        obtain ⟨e, he⟩ : ∃ e, e = M + m - s := ⟨_, rfl⟩
        rw [← he]
        have be : m ≤ e ∧ e ≤ b ∧ s ≤ m ∧ s ≤ M ∧ M ≤ e ∧ a ≤ s ∧ s + e = M + m := by omega
        -- the left parts are not above the right parts
        have cross1 : ∀ i j, a ≤ i → i < s → e ≤ j → j < b → LT d[j]! d[i]! = false := fun i j hi1 hi2 hj1 hj2 => by
          have hlos : lo < s := by rcases b2.1 with h | h <;> omega
          have hA := q3' (s - 1) (by omega) (by omega)
          have e1 : M + m - 1 - (s - 1) = e := by omega
          rw [e1] at hA
          refine hS.ntrans _ _ _ (hS.ntrans _ _ _ (sorted_le hS s2 (by omega) hj1 hj2) hA) (sorted_le hS s1 hi1 (by omega) (by omega))
        have cross2 : ∀ i j, s ≤ i → i < m → m ≤ j → j < e → LT d[i]! d[j]! = false := fun i j hi1 hi2 hj1 hj2 => by
          have hsh : s < hi := by rcases b2.2 with h | h <;> omega
          have hA := q4' s (Nat.le_refl _) hsh
          have e1 : M + m - 1 - s = e - 1 := by omega
          rw [e1] at hA
          refine hS.ntrans _ _ _ (hS.ntrans _ _ _ (sorted_le hS s1 (by omega) hi1 hi2) (hS.asymmA hA)) (sorted_le hS s2 hj1 (by omega) (by omega))
        -- behind the rotation
        obtain ⟨d1, hd1⟩ : ∃ d1, d1 = if s < m ∧ m < e then rot s m e d else d := ⟨_, rfl⟩
        rw [← hd1]
        have g1 : ∀ x, d1[x]! = if s ≤ x ∧ x < M then d[x + (m - s)]! else if M ≤ x ∧ x < e then d[x - (e - m)]! else d[x]! := fun x => by
          rw [hd1]
          by_cases hr : s < m ∧ m < e
          · rw [if_pos hr, rot_get s m e d hr.1 hr.2 (by omega), show s + (e - m) = M by omega]
          · rw [if_neg hr]
            (repeat' split) <;> first | exact ix d (by omega) | omega
        have p1 : PermIn a b d d1 := by
          rw [hd1]
          by_cases hr : s < m ∧ m < e
          · rw [if_pos hr]; exact rot_perm s m e a b d (by omega) (by omega) (by omega) (by omega) hs
          · rw [if_neg hr]; exact permIn_refl _ _ _
        have z1 : d1.size = d.size := p1.1
        clear hd1
        -- [a, s) and [s, M) of d1 are runs; so are [M, e) and [e, b)
        have r1 : SortedIn LT a s d1 := fun i j hi hij hj => by
          rw [g1, g1, if_neg (by omega), if_neg (by omega), if_neg (by omega), if_neg (by omega)]; exact s1 i j hi hij (by omega)
        have r2 : SortedIn LT s M d1 := fun i j hi hij hj => by
          rw [g1, g1, if_pos (by omega), if_pos (by omega)]; exact s2 _ _ (by omega) (by omega) (by omega)
        have r3 : SortedIn LT M e d1 := fun i j hi hij hj => by
          rw [g1, g1, if_neg (by omega), if_pos (by omega), if_neg (by omega), if_pos (by omega)]; exact s1 _ _ (by omega) (by omega) (by omega)
        have r4 : SortedIn LT e b d1 := fun i j hi hij hj => by
          rw [g1, g1, if_neg (by omega), if_neg (by omega), if_neg (by omega), if_neg (by omega)]; exact s2 i j (by omega) hij hj
        have x1 : ∀ i j, a ≤ i → i < M → M ≤ j → j < b → LT d1[j]! d1[i]! = false := fun i j hi1 hi2 hj1 hj2 => by
          rw [g1, g1]
          by_cases hi : i < s
          · rw [if_neg (show ¬ (s ≤ i ∧ i < M) by omega), if_neg (show ¬ (M ≤ i ∧ i < e) by omega), if_neg (show ¬ (s ≤ j ∧ j < M) by omega)]
            by_cases hj : j < e
            · rw [if_pos ⟨hj1, hj⟩]; exact sorted_le hS s1 hi1 (by omega) (by omega)
            · rw [if_neg (by omega)]; exact cross1 i j hi1 hi (by omega) hj2
          · rw [if_pos (show s ≤ i ∧ i < M by omega), if_neg (show ¬ (s ≤ j ∧ j < M) by omega)]
            by_cases hj : j < e
            · rw [if_pos ⟨hj1, hj⟩]; exact cross2 _ _ (by omega) (by omega) (by omega) (by omega)
            · rw [if_neg (by omega)]; exact sorted_le hS s2 (by omega) (by omega) hj2
        have h1 : ∀ i j, a ≤ i → i < s → s ≤ j → j < M → lt d1[j]! d1[i]! = LT d1[j]! d1[i]! := fun i j hi1 hi2 hj1 hj2 => by
          rw [g1, g1, if_neg (show ¬ (s ≤ i ∧ i < M) by omega), if_neg (show ¬ (M ≤ i ∧ i < e) by omega), if_pos (show s ≤ j ∧ j < M by omega)]
          exact hh i _ hi1 (by omega) (by omega) (by omega)
        have h2 : ∀ i j, M ≤ i → i < e → e ≤ j → j < b → lt d1[j]! d1[i]! = LT d1[j]! d1[i]! := fun i j hi1 hi2 hj1 hj2 => by
          rw [g1, g1, if_neg (show ¬ (s ≤ i ∧ i < M) by omega), if_pos (show M ≤ i ∧ i < e by omega), if_neg (show ¬ (s ≤ j ∧ j < M) by omega), if_neg (show ¬ (M ≤ j ∧ j < e) by omega)]
          exact hh _ j (by omega) (by omega) (by omega) hj2
        -- the left half
        obtain ⟨d2, hd2⟩ : ∃ d2, d2 = if _h : a < s ∧ s < M then symM lt a s M d1 else d1 := ⟨_, rfl⟩
        rw [← hd2]
        have p2 : PermIn a M d1 d2 ∧ SortedIn LT a M d2 := by
          rw [hd2]
          by_cases hr : a < s ∧ s < M
          · rw [dif_pos hr]; exact ih a s M d1 (by omega) hr.1 hr.2 (by omega) r1 r2 h1
          · rw [dif_neg hr]
            refine ⟨permIn_refl _ _ _, fun i j hi hij hj => ?_⟩
            rcases Nat.lt_or_ge j s with h | h
            · exact r1 i j hi hij h
            · exact r2 i j (by omega) hij hj
        clear hd2
        have z2 : d2.size = d.size := p2.1.1.trans z1
        have o2 : ∀ x, M ≤ x → d2[x]! = d1[x]! := fun x hx => p2.1.2.1 x (.inr hx)
        have r3' : SortedIn LT M e d2 := fun i j hi hij hj => by rw [o2 i hi, o2 j (by omega)]; exact r3 i j hi hij hj
        have r4' : SortedIn LT e b d2 := fun i j hi hij hj => by rw [o2 i (by omega), o2 j (by omega)]; exact r4 i j hi hij hj
        have h2' : ∀ i j, M ≤ i → i < e → e ≤ j → j < b → lt d2[j]! d2[i]! = LT d2[j]! d2[i]! := fun i j hi1 hi2 hj1 hj2 => by rw [o2 i hi1, o2 j (by omega)]; exact h2 i j hi1 hi2 hj1 hj2
        -- the right half
        obtain ⟨d3, hd3⟩ : ∃ d3, d3 = if _h : M < e ∧ e < b then symM lt M e b d2 else d2 := ⟨_, rfl⟩
        rw [← hd3]
        have p3 : PermIn M b d2 d3 ∧ SortedIn LT M b d3 := by
          rw [hd3]
          by_cases hr : M < e ∧ e < b
          · rw [dif_pos hr]; exact ih M e b d2 (by omega) hr.1 hr.2 (by omega) r3' r4' h2'
          · rw [dif_neg hr]
            refine ⟨permIn_refl _ _ _, fun i j hi hij hj => ?_⟩
            rcases Nat.lt_or_ge j e with h | h
            · exact r3' i j hi hij h
            · exact r4' i j (by omega) hij hj
        clear hd3
        have o3 : ∀ x, x < M → d3[x]! = d2[x]! := fun x hx => p3.1.2.1 x (.inl hx)
        refine ⟨permIn_trans _ _ _ _ _ p1 (permIn_trans _ _ _ _ _ (permIn_mono d1 d2 a M a b (Nat.le_refl _) (by omega) (by omega) p2.1) (permIn_mono d2 d3 M b a b (by omega) (Nat.le_refl _) (by omega) p3.1)), ?_⟩
        refine two_runs (fun i j hi hij hj => by rw [o3 i (by omega), o3 j hj]; exact p2.2 i j hi hij hj) p3.2 fun i j hi1 hi2 hj1 hj2 => ?_
        rw [o3 i hi2]
        obtain ⟨x, hx1, hx2, ex⟩ := perm_inv p2.1 (by omega) i hi1 hi2
        obtain ⟨y, hy1, hy2, ey⟩ := perm_inv p3.1 (by omega) j hj1 hj2
        rw [ex, ey, o2 y hy1]
        exact x1 x y hx1 hx2 hy1 hy2
end Go.Proofs.YtokphfhihhdfpaaDoor.Stab
