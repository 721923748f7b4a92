/- The stable sort of package slices as plain functions over arrays (insertion sort of blocks, then merges by rotation), and what they do: the places permuted, ascending by an order that agrees with the one that the code asks. No program in sight. -/
import Derived.Sort.LotA
namespace Go.Proofs.YtokphfhihhdfpaaDoor.Stab
open Go.Sort
set_option linter.unusedVariables false
variable {α : Type} [Inhabited α]

/-! ### the functions -/
/-- swapRange, from round i on. -/
def swapR (a b n i : Nat) (d : Array α) : Array α := if i < n then swapR a b n (i + 1) (swp d (a + i) (b + i)) else d
termination_by n - i
/-- rotate's loop: i places ahead of m, j behind it. -/
def rotGo (m i j : Nat) (d : Array α) : Array α :=
  if i = j then swapR (m - i) m i 0 d
  else if 0 < j ∧ j < i then rotGo m (i - j) j (swapR (m - i) m j 0 d)
  else if 0 < i ∧ i < j then rotGo m i (j - i) (swapR (m - i) (m + j - i) i 0 d) else d
termination_by i + j
def rot (a m b : Nat) (d : Array α) : Array α := rotGo m (m - a) (b - m) d
/-- The search by halves: the first place of [i, j) at which p is not. -/
def bs1 (p : Nat → Bool) (i j : Nat) : Nat := if h : i < j then (if p ((i + j) / 2) then bs1 p ((i + j) / 2 + 1) j else bs1 p i ((i + j) / 2)) else i
termination_by j - i
decreasing_by all_goals omega
/-- Places k, k + 1 exchanged, k from k to e. -/
def shU (e k : Nat) (d : Array α) : Array α := if k < e then shU e (k + 1) (swp d k (k + 1)) else d
termination_by e - k
/-- Places k, k - 1 exchanged, k from k down to i. -/
def shD (i : Nat) : Nat → Array α → Array α
  | 0, d => d
  | k + 1, d => if i < k + 1 then shD i k (swp d (k + 1) k) else d
section
variable (lt : α → α → Bool)
def mid3 (a m b : Nat) (d : Array α) : Nat := bs1 (fun c => !lt d[(a + b) / 2 + m - 1 - c]! d[c]!) (if (a + b) / 2 < m then (a + b) / 2 + m - b else a) (if (a + b) / 2 < m then (a + b) / 2 else m)
def symM (a m b : Nat) (d : Array α) : Array α :=
  if m - a = 1 then shU (bs1 (fun h => lt d[h]! d[a]!) m b - 1) a d
  else if b - m = 1 then shD (bs1 (fun h => !lt d[m]! d[h]!) a m) m d
  else
    let s := mid3 lt a m b d
    let e := (a + b) / 2 + m - s
    let d1 := if s < m ∧ m < e then rot s m e d else d
    let d2 := if h : a < s ∧ s < (a + b) / 2 then symM a s ((a + b) / 2) d1 else d1
    if h : (a + b) / 2 < e ∧ e < b then symM ((a + b) / 2) e b d2 else d2
termination_by b - a
decreasing_by all_goals omega
/-- The blocks sorted one by one. -/
def blocks (bs n a : Nat) (d : Array α) : Array α := if h : 0 < bs ∧ a + bs ≤ n then blocks bs n (a + bs) (insertionSort lt d a (a + bs)) else insertionSort lt d a n
termination_by n - a
/-- One pass of merges. -/
def pass (bs n a : Nat) (d : Array α) : Array α := if h : 0 < bs ∧ a + 2 * bs ≤ n then pass bs n (a + 2 * bs) (symM lt a (a + bs) (a + 2 * bs) d) else if a + bs < n then symM lt a (a + bs) n d else d
termination_by n - a
def passes (bs n : Nat) (d : Array α) : Array α := if h : 0 < bs ∧ bs < n then passes (bs * 2) n (pass lt bs n 0 d) else d
termination_by n - bs
decreasing_by omega
def stable (d : Array α) : Array α := passes lt 20 d.size (blocks lt 20 d.size 0 d)
end

/-! ### sizes -/
theorem size_swapR (a b n : Nat) : ∀ k i (d : Array α), n - i ≤ k → (swapR a b n i d).size = d.size := by
  intro k
  induction k with
  | zero => intro i d h; rw [swapR, if_neg (by omega)]
  | succ k ih =>
    intro i d h
    rw [swapR]
    split
    · rw [ih _ _ (by omega), swp_size]
    · rfl
theorem swapR_size (a b n i : Nat) (d : Array α) : (swapR a b n i d).size = d.size := size_swapR a b n _ i d (Nat.le_refl _)
theorem rotGo_size (m : Nat) : ∀ k i j (d : Array α), i + j ≤ k → (rotGo m i j d).size = d.size := by
  intro k
  induction k with
  | zero =>
    intro i j d h
    obtain rfl : i = 0 := by omega
    obtain rfl : j = 0 := by omega
    rw [rotGo, if_pos rfl, swapR_size]
  | succ k ih =>
    intro i j d h
    rw [rotGo]
    split
    · rw [swapR_size]
    · split
      · rw [ih _ _ _ (by omega), swapR_size]
      · split
        · rw [ih _ _ _ (by omega), swapR_size]
        · rfl
theorem rot_size (a m b : Nat) (d : Array α) : (rot a m b d).size = d.size := rotGo_size m _ _ _ d (Nat.le_refl _)
theorem shU_size (e : Nat) : ∀ n k (d : Array α), e - k ≤ n → (shU e k d).size = d.size := by
  intro n
  induction n with
  | zero => intro k d h; rw [shU, if_neg (by omega)]
  | succ n ih =>
    intro k d h
    rw [shU]
    split
    · rw [ih _ _ (by omega), swp_size]
    · rfl
theorem shD_size (i : Nat) : ∀ k (d : Array α), (shD i k d).size = d.size
  | 0, d => rfl
  | k + 1, d => by
    rw [shD]
    split
    · rw [shD_size i k, swp_size]
    · rfl
theorem symM_size (lt : α → α → Bool) : ∀ k a m b (d : Array α), b - a ≤ k → (symM lt a m b d).size = d.size := by
  intro k
  induction k with
  | zero =>
    intro a m b d h
    rw [symM]
    split
    · exact shU_size _ _ _ _ (Nat.le_refl _)
    · split
      · exact shD_size _ _ _
      · simp only
        rw [dif_neg (by omega), dif_neg (by omega)]
        split
        · exact rot_size _ _ _ _
        · rfl
  | succ k ih =>
    intro a m b d h
    rw [symM]
    split
    · exact shU_size _ _ _ _ (Nat.le_refl _)
    · split
      · exact shD_size _ _ _
      · simp only
        have h1 : (if mid3 lt a m b d < m ∧ m < (a + b) / 2 + m - mid3 lt a m b d then rot (mid3 lt a m b d) m ((a + b) / 2 + m - mid3 lt a m b d) d else d).size = d.size := by
          split
          · exact rot_size _ _ _ _
          · rfl
        have h2 : (if _h : a < mid3 lt a m b d ∧ mid3 lt a m b d < (a + b) / 2 then symM lt a (mid3 lt a m b d) ((a + b) / 2) (if mid3 lt a m b d < m ∧ m < (a + b) / 2 + m - mid3 lt a m b d then rot (mid3 lt a m b d) m ((a + b) / 2 + m - mid3 lt a m b d) d else d) else (if mid3 lt a m b d < m ∧ m < (a + b) / 2 + m - mid3 lt a m b d then rot (mid3 lt a m b d) m ((a + b) / 2 + m - mid3 lt a m b d) d else d)).size = d.size := by
          split
          · rw [ih _ _ _ _ (by omega)]; exact h1
          · exact h1
        split
        · rw [ih _ _ _ _ (by omega)]; exact h2
        · exact h2

/-! ### what swapRange and rotate do, place for place -/
theorem ix (d : Array α) {x y : Nat} (h : x = y) : d[x]! = d[y]! := by rw [h]
theorem swapR_get (a b n : Nat) (hab : a + n ≤ b) : ∀ k i (d : Array α), n - i ≤ k → b + n ≤ d.size → ∀ x,
    (swapR a b n i d)[x]! = if a + i ≤ x ∧ x < a + n then d[x - a + b]! else if b + i ≤ x ∧ x < b + n then d[x - b + a]! else d[x]! := by
  intro k
  induction k with
  | zero =>
    intro i d h hs x
    rw [swapR, if_neg (by omega), if_neg (by omega), if_neg (by omega)]
  | succ k ih =>
    intro i d h hs x
    rw [swapR]
    by_cases hi : i < n
    · rw [if_pos hi, ih (i + 1) _ (by omega) (by rw [swp_size]; exact hs) x]
      have g := swp_get d (show a + i < d.size by omega) (show b + i < d.size by omega)
      rw [g, g, g]
      (repeat' split) <;> first | exact ix d (by omega) | omega
    · rw [if_neg hi, if_neg (by omega), if_neg (by omega)]
theorem swapR_perm (a b n : Nat) (lo hi : Nat) (ha : lo ≤ a) (hab : a + n ≤ b) (hb : b + n ≤ hi) : ∀ k i (d : Array α), n - i ≤ k → hi ≤ d.size → PermIn lo hi d (swapR a b n i d) := by
  intro k
  induction k with
  | zero => intro i d h hs; rw [swapR, if_neg (by omega)]; exact permIn_refl _ _ _
  | succ k ih =>
    intro i d h hs
    rw [swapR]
    by_cases hi' : i < n
    · rw [if_pos hi']
      exact permIn_trans _ _ _ _ _ (swp_permIn d lo hi (a + i) (b + i) (by omega) (by omega) (by omega) (by omega) hs) (ih (i + 1) _ (by omega) (by rw [swp_size]; exact hs))
    · rw [if_neg hi']; exact permIn_refl _ _ _
theorem rotGo_get (m : Nat) : ∀ k i j (d : Array α), i + j ≤ k → 0 < i → 0 < j → i ≤ m → m + j ≤ d.size → ∀ x,
    (rotGo m i j d)[x]! = if m - i ≤ x ∧ x < m - i + j then d[x + i]! else if m - i + j ≤ x ∧ x < m + j then d[x - j]! else d[x]! := by
  intro k
  induction k with
  | zero => intro i j d h hi hj; omega
  | succ k ih =>
    intro i j d h hi hj him hs x
    rw [rotGo]
    by_cases hij : i = j
    · subst hij
      rw [if_pos rfl, swapR_get (m - i) m i (by omega) _ 0 d (Nat.le_refl _) hs x]
      (repeat' split) <;> first | exact ix d (by omega) | omega
    · rw [if_neg hij]
      by_cases hji : j < i
      · rw [if_pos ⟨hj, hji⟩, ih (i - j) j _ (by omega) (by omega) hj (by omega) (by rw [swapR_size]; exact hs) x]
        have g := swapR_get (m - i) m j (by omega) _ 0 d (Nat.le_refl _) hs
        rw [g, g, g]
        (repeat' split) <;> first | exact ix d (by omega) | omega
      · rw [if_neg (by omega), if_pos ⟨hi, by omega⟩, ih i (j - i) _ (by omega) hi (by omega) him (by rw [swapR_size]; omega) x]
        have g := swapR_get (m - i) (m + j - i) i (by omega) _ 0 d (Nat.le_refl _) (by omega)
        rw [g, g, g]
        (repeat' split) <;> first | exact ix d (by omega) | omega
theorem rotGo_perm (m : Nat) (lo hi : Nat) : ∀ k i j (d : Array α), i + j ≤ k → lo + i ≤ m → m + j ≤ hi → hi ≤ d.size → PermIn lo hi d (rotGo m i j d) := by
  intro k
  induction k with
  | zero =>
    intro i j d h h1 h2 hs
    obtain rfl : i = 0 := by omega
    obtain rfl : j = 0 := by omega
    rw [rotGo, if_pos rfl]
    exact swapR_perm _ _ _ _ _ (by omega) (by omega) (by omega) _ _ _ (Nat.le_refl _) hs
  | succ k ih =>
    intro i j d h h1 h2 hs
    rw [rotGo]
    by_cases hij : i = j
    · subst hij
      rw [if_pos rfl]
      exact swapR_perm _ _ _ _ _ (by omega) (by omega) (by omega) _ _ _ (Nat.le_refl _) hs
    · rw [if_neg hij]
      by_cases hji : 0 < j ∧ j < i
      · rw [if_pos hji]
        exact permIn_trans _ _ _ _ _ (swapR_perm (m - i) m j lo hi (by omega) (by omega) (by omega) _ 0 d (Nat.le_refl _) hs) (ih _ _ _ (by omega) (by omega) (by omega) (by rw [swapR_size]; exact hs))
      · rw [if_neg hji]
        by_cases hji2 : 0 < i ∧ i < j
        · rw [if_pos hji2]
          exact permIn_trans _ _ _ _ _ (swapR_perm (m - i) (m + j - i) i lo hi (by omega) (by omega) (by omega) _ 0 d (Nat.le_refl _) hs) (ih _ _ _ (by omega) (by omega) (by omega) (by rw [swapR_size]; exact hs))
        · rw [if_neg hji2]; exact permIn_refl _ _ _
theorem rot_get (a m b : Nat) (d : Array α) (ham : a < m) (hmb : m < b) (hb : b ≤ d.size) (x : Nat) :
    (rot a m b d)[x]! = if a ≤ x ∧ x < a + (b - m) then d[x + (m - a)]! else if a + (b - m) ≤ x ∧ x < b then d[x - (b - m)]! else d[x]! := by
  unfold rot
  rw [rotGo_get m _ _ _ d (Nat.le_refl _) (by omega) (by omega) (by omega) (by omega) x, show m - (m - a) = a by omega, show m + (b - m) = b by omega]
theorem rot_perm (a m b lo hi : Nat) (d : Array α) (hla : lo ≤ a) (ham : a ≤ m) (hmb : m ≤ b) (hbh : b ≤ hi) (hs : hi ≤ d.size) : PermIn lo hi d (rot a m b d) :=
  rotGo_perm m lo hi _ _ _ d (Nat.le_refl _) (by omega) (by omega) hs
theorem shU_get (e : Nat) : ∀ n k (d : Array α), e - k ≤ n → k ≤ e → e < d.size → ∀ x, (shU e k d)[x]! = if k ≤ x ∧ x < e then d[x + 1]! else if x = e then d[k]! else d[x]! := by
  intro n
  induction n with
  | zero =>
    intro k d h hk hs x
    obtain rfl : k = e := by omega
    rw [shU, if_neg (by omega), if_neg (by omega)]
    split
    · rename_i h; rw [h]
    · rfl
  | succ n ih =>
    intro k d h hk hs x
    rw [shU]
    by_cases hke : k < e
    · rw [if_pos hke, ih (k + 1) _ (by omega) (by omega) (by rw [swp_size]; exact hs) x]
      have g := swp_get d (show k < d.size by omega) (show k + 1 < d.size by omega)
      rw [g, g, g]
      (repeat' split) <;> first | exact ix d (by omega) | omega
    · obtain rfl : k = e := by omega
      rw [if_neg hke, if_neg (by omega)]
      split
      · rename_i h; rw [h]
      · rfl
theorem shU_perm (e lo hi : Nat) : ∀ n k (d : Array α), e - k ≤ n → lo ≤ k → e < hi → hi ≤ d.size → PermIn lo hi d (shU e k d) := by
  intro n
  induction n with
  | zero => intro k d h hk he hs; rw [shU, if_neg (by omega)]; exact permIn_refl _ _ _
  | succ n ih =>
    intro k d h hk he hs
    rw [shU]
    by_cases hke : k < e
    · rw [if_pos hke]
      exact permIn_trans _ _ _ _ _ (swp_permIn d lo hi k (k + 1) (by omega) (by omega) (by omega) (by omega) hs) (ih _ _ (by omega) (by omega) he (by rw [swp_size]; exact hs))
    · rw [if_neg hke]; exact permIn_refl _ _ _
theorem shD_get (i : Nat) : ∀ k (d : Array α), i ≤ k → k < d.size → ∀ x, (shD i k d)[x]! = if x = i then d[k]! else if i < x ∧ x ≤ k then d[x - 1]! else d[x]!
  | 0, d, h, hs, x => by
    obtain rfl : i = 0 := by omega
    rw [shD]
    split
    · rename_i h; rw [h]
    · rw [if_neg (by omega)]
  | k + 1, d, h, hs, x => by
    rw [shD]
    by_cases hik : i < k + 1
    · rw [if_pos hik, shD_get i k _ (by omega) (by rw [swp_size]; omega) x]
      have g := swp_get d (show k + 1 < d.size by omega) (show k < d.size by omega)
      rw [g, g, g]
      (repeat' split) <;> first | exact ix d (by omega) | omega
    · obtain rfl : i = k + 1 := by omega
      rw [if_neg hik]
      split
      · rename_i h; rw [h]
      · rw [if_neg (by omega)]
theorem shD_perm (i lo hi : Nat) (hli : lo ≤ i) : ∀ k (d : Array α), k < hi → hi ≤ d.size → PermIn lo hi d (shD i k d)
  | 0, d, _, _ => permIn_refl _ _ _
  | k + 1, d, hk, hs => by
    rw [shD]
    split
    · exact permIn_trans _ _ _ _ _ (swp_permIn d lo hi (k + 1) k (by omega) (by omega) (by omega) (by omega) hs) (shD_perm i lo hi hli k _ (by omega) (by rw [swp_size]; exact hs))
    · exact permIn_refl _ _ _
/-! ### the search -/
theorem bs1_spec (p : Nat → Bool) : ∀ k i j, j - i ≤ k → i ≤ j → (∀ x y, i ≤ x → x < y → y < j → p y = true → p x = true) →
    i ≤ bs1 p i j ∧ bs1 p i j ≤ j ∧ (∀ x, i ≤ x → x < bs1 p i j → p x = true) ∧ (∀ x, bs1 p i j ≤ x → x < j → p x = false) := by
  intro k
  induction k with
  | zero =>
    intro i j h hij _
    obtain rfl : i = j := by omega
    rw [bs1, dif_neg (by omega)]
    exact ⟨Nat.le_refl _, Nat.le_refl _, fun x h1 h2 => by omega, fun x h1 h2 => by omega⟩
  | succ k ih =>
    intro i j h hij hm
    rw [bs1]
    by_cases hlt : i < j
    · rw [dif_pos hlt]
      cases hp : p ((i + j) / 2) with
      | true =>
        rw [if_pos rfl]
        obtain ⟨h1, h2, h3, h4⟩ := ih ((i + j) / 2 + 1) j (by omega) (by omega) (fun x y hx hxy hy => hm x y (by omega) hxy hy)
        refine ⟨by omega, h2, fun x hx1 hx2 => ?_, h4⟩
        rcases Nat.lt_or_ge x ((i + j) / 2 + 1) with hx | hx
        · rcases Nat.eq_or_lt_of_le (Nat.le_of_lt_succ hx) with e | e
          · rw [e]; exact hp
          · exact hm x _ hx1 e (by omega) hp
        · exact h3 x hx hx2
      | false =>
        rw [if_neg (by simp)]
        obtain ⟨h1, h2, h3, h4⟩ := ih i ((i + j) / 2) (by omega) (by omega) (fun x y hx hxy hy => hm x y hx hxy (by omega))
        refine ⟨h1, by omega, h3, fun x hx1 hx2 => ?_⟩
        rcases Nat.lt_or_ge x ((i + j) / 2) with hx | hx
        · exact h4 x hx1 hx
        · cases hpx : p x with
          | false => rfl
          | true =>
            rcases Nat.eq_or_lt_of_le hx with e | e
            · rw [← e, hp] at hpx; exact hpx.symm ▸ rfl
            · have := hm _ x (by omega) e hx2 hpx; rw [hp] at this; cases this
    · obtain rfl : i = j := by omega
      rw [dif_neg hlt]
      exact ⟨Nat.le_refl _, Nat.le_refl _, fun x h1 h2 => by omega, fun x h1 h2 => by omega⟩
end Go.Proofs.YtokphfhihhdfpaaDoor.Stab
