/- Plain laws, part Rl: Like of the reference: its signs, its rows from behind, the same truths as those of the program. -/
import Derived.Test.YtokphfhihhdfpaaDoorPureLk
import Derived.Test.YtokphfhihhdfpaaDoorQxRefLikesA
namespace Go.Proofs.YtokphfhihhdfpaaDoor.Pure
open Go.RowKit Go.Proofs.YtokphfhihhdfpaaDoor.Q Go.Proofs.YtokphfhihhdfpaaDoor.Ext Go.Proofs.YtokphfhihhdfpaaDoorW.PrintWords Go.Proofs.YtokphfhihhdfpaaDoorW.PrintLast Go.Proofs.YtokphfhihhdfpaaDoorW.PrintMore
set_option linter.unusedVariables false
set_option linter.unusedSimpArgs false

abbrev SgR := S136
def conv (x : Sg) : SgR := ⟨x.f2, x.f1, x.f0⟩
abbrev sgrAt (l : List SgR) (i : Nat) : SgR := rd_T136 l (i : Int)
theorem sgrAt_map {l : List Sg} {i : Nat} (h : i < l.length) : sgrAt (l.map conv) i = conv (sgAt l i) := by
  show (l.map conv).getD i _ = conv (l.getD i _)
  rw [List.getD_eq_getElem?_getD, List.getD_eq_getElem?_getD, List.getElem?_map, List.getElem?_eq_getElem h]; rfl
def rgR (acc : List SgR) : Option (List Sg) → List SgR × Bool
  | none => ([], false)
  | some x => (acc ++ x.map conv, true)
theorem rgR_map (acc : List SgR) (x : Sg) (o : Option (List Sg)) : rgR acc (o.map (x :: ·)) = rgR (acc ++ [conv x]) o := by
  cases o with
  | none => rfl
  | some y => simp [rgR]
theorem SignsR_l (s : ByteArray) (hs : s.size ≤ 1000) : ∀ d i, s.size - i ≤ d → i ≤ s.size → ∀ acc : List SgR, acc.length ≤ i → Ev (fun k => peristyleref1_signs.l0 k s acc (i : Int)) (rgR acc (sg false ((bs s).drop i))) := by
  intro d
  induction d with
  | zero =>
    intro i h1 h2 acc ha
    obtain rfl : i = s.size := by omega
    rw [List.drop_of_length_le (by rw [bs_len]; omega)]
    refine Ev.step (f := fun _ => some _) (fun k => ?_) (Ev.now _)
    simp only [peristyleref1_signs.l0]
    rw [if_neg (by omega)]
    simp [rgR, sg]
  | succ d ih =>
    intro i h1 h2 acc ha
    rcases Nat.lt_or_ge i s.size with hi | hi
    · rw [bs_drop s i hi]
      have al : acc.length < 46912496118442 := by omega
      by_cases hb : bt s i = 92
      · have e : sg false (bt s i :: (bs s).drop (i + 1)) = sg true ((bs s).drop (i + 1)) := by simp only [sg]; rw [if_pos hb]
        rw [e]
        rcases Nat.lt_or_ge (i + 1) s.size with h3 | h3
        · rw [bs_drop s (i + 1) h3]
          have e2 : sg true (bt s ((i + 1 : Nat) : Int) :: (bs s).drop (i + 1 + 1)) = (sg false ((bs s).drop (i + 1 + 1))).map (chr (bt s ((i + 1 : Nat) : Int)) :: ·) := by simp only [sg]
          rw [e2, rgR_map]
          refine Ev.step (fun k => ?_) (ih (i + 1 + 1) (by omega) (by omega) _ (by simp; omega))
          simp only [peristyleref1_signs.l0, w64s hi (by omega : s.size ≤ 9223372036854775807)]
          rw [w64s h3 (by omega : s.size ≤ 9223372036854775807)]
          rw [if_pos (by omega), if_pos (by omega), if_neg (by omega), if_neg (by omega), if_pos hb, if_neg (by omega), if_pos (by omega), if_pos (by omega), if_pos al]
          rfl
        · rw [List.drop_of_length_le (by rw [bs_len]; omega)]
          refine Ev.step (f := fun _ => some _) (fun k => ?_) (Ev.now _)
          simp only [peristyleref1_signs.l0, w64s hi (by omega : s.size ≤ 9223372036854775807)]
          rw [if_pos (by omega), if_pos (by omega), if_neg (by omega), if_neg (by omega), if_pos hb, if_pos (by omega)]
          rfl
      · have e : sg false (bt s i :: (bs s).drop (i + 1)) = (sg false ((bs s).drop (i + 1))).map (sgn1 (bt s i) :: ·) := by simp only [sg]; rw [if_neg hb]
        rw [e, rgR_map]
        refine Ev.step (fun k => ?_) (ih (i + 1) (by omega) (by omega) _ (by simp; omega))
        simp only [peristyleref1_signs.l0, w64s hi (by omega : s.size ≤ 9223372036854775807)]
        rw [if_pos (by omega), if_pos (by omega)]
        unfold sgn1
        by_cases h37 : bt s i = 37
        · rw [if_pos h37, if_pos h37, if_pos al]; rfl
        · rw [if_neg h37, if_neg h37]
          by_cases h95 : bt s i = 95
          · rw [if_pos h95, if_pos h95, if_pos al]; rfl
          · rw [if_neg h95, if_neg h95, if_neg hb, if_pos al]; rfl
    · obtain rfl : i = s.size := by omega
      rw [List.drop_of_length_le (by rw [bs_len]; omega)]
      refine Ev.step (f := fun _ => some _) (fun k => ?_) (Ev.now _)
      simp only [peristyleref1_signs.l0]
      rw [if_neg (by omega)]
      simp [rgR, sg]
theorem SignsR_ev (s : ByteArray) (hs : s.size ≤ 1000) : Ev (fun k => peristyleref1_signs.f k s) (rgR [] (sg false (bs s))) := by
  have := SignsR_l s hs s.size 0 (by omega) (by omega) [] (by simp)
  exact this
/-! ### rows from behind -/
def anyFrom (p : Nat → Bool) : Nat → Nat → Bool
  | _, 0 => false
  | i, d + 1 => p i || anyFrom p (i + 1) d
theorem anyFrom_iff (p : Nat → Bool) : ∀ d i, anyFrom p i d = true ↔ ∃ j, i ≤ j ∧ j < i + d ∧ p j = true
  | 0, i => ⟨fun h => (by cases h), fun ⟨j, h1, h2, _⟩ => (by omega)⟩
  | d + 1, i => by
    unfold anyFrom
    rw [Bool.or_eq_true, anyFrom_iff p d (i + 1)]
    constructor
    · rintro (h | ⟨j, h1, h2, h3⟩)
      · exact ⟨i, by omega, by omega, h⟩
      · exact ⟨j, by omega, by omega, h3⟩
    · rintro ⟨j, h1, h2, h3⟩
      rcases Nat.eq_or_lt_of_le h1 with h | h
      · subst h; exact .inl h3
      · exact .inr ⟨j, by omega, by omega, h3⟩
/-- The row of a sign more in front, out of the row of the signs behind it. -/
def px (x : Sg) (L : List Int) (now : Nat → Bool) (i : Nat) : Bool :=
  if x.f2 = true then anyFrom now i (L.length + 1 - i) else decide (i < L.length) && (now (i + 1) && (x.f1 || L.getD i 0 == x.f0))
theorem px_mt (a : List Sg) (x : Sg) (L : List Int) (now : Nat → Bool) (h : ∀ i, i ≤ L.length → (now i = true ↔ mt a (L.drop i))) (i : Nat) (hi : i ≤ L.length) : px x L now i = true ↔ mt (x :: a) (L.drop i) := by
  have split : mt (x :: a) (L.drop i) ↔ ∃ j, i ≤ j ∧ j ≤ L.length ∧ now j = true ∧ fit1 x ((L.drop i).take (j - i)) := by
    constructor
    · rintro ⟨u, v, e, h1, h2⟩
      have hl : u.length + v.length = L.length - i := by have := congrArg List.length e; rw [List.length_drop, List.length_append] at this; omega
      have eu : (L.drop i).take (i + u.length - i) = u := by rw [show i + u.length - i = u.length by omega, e]; exact List.take_left
      have ev : L.drop (i + u.length) = v := by rw [← List.drop_drop, e]; exact List.drop_left
      exact ⟨i + u.length, by omega, by omega, (h _ (by omega)).2 (ev ▸ h2), by rw [eu]; exact h1⟩
    · rintro ⟨j, h1, h2, h3, h4⟩
      refine ⟨(L.drop i).take (j - i), (L.drop i).drop (j - i), (List.take_append_drop _ _).symm, h4, ?_⟩
      rw [List.drop_drop, show i + (j - i) = j by omega]
      exact (h j h2).1 h3
  rw [split]
  unfold px fit1
  have tl : ∀ j, i ≤ j → j ≤ L.length → ((L.drop i).take (j - i)).length = j - i := fun j h1 h2 => by rw [List.length_take, List.length_drop]; omega
  by_cases h2 : x.f2 = true
  · simp only [if_pos h2]
    rw [anyFrom_iff]
    exact ⟨fun ⟨j, h3, h4, h5⟩ => ⟨j, h3, by omega, h5, trivial⟩, fun ⟨j, h3, h4, h5, _⟩ => ⟨j, h3, by omega, h5⟩⟩
  · simp only [if_neg h2, Bool.and_eq_true, Bool.or_eq_true, beq_iff_eq, decide_eq_true_eq]
    have one : i < L.length → (L.drop i).take (i + 1 - i) = [L.getD i 0] := by
      intro hlt
      rw [show i + 1 - i = 1 by omega, List.drop_eq_getElem_cons hlt, List.getD_eq_getElem?_getD, List.getElem?_eq_getElem hlt]; rfl
    constructor
    · rintro ⟨h3, h4, h5⟩
      refine ⟨i + 1, by omega, by omega, h4, ?_⟩
      rw [one h3]
      by_cases h6 : x.f1 = true
      · rw [if_pos h6]; rfl
      · rw [if_neg h6, h5.resolve_left h6]
    · rintro ⟨j, h3, h4, h5, h6⟩
      have hj := tl j h3 h4
      by_cases h7 : x.f1 = true
      · rw [if_pos h7] at h6
        obtain rfl : j = i + 1 := by omega
        exact ⟨by omega, h5, .inl h7⟩
      · rw [if_neg h7] at h6
        obtain rfl : j = i + 1 := by rw [h6] at hj; simp only [List.length_singleton] at hj; omega
        rw [one (by omega)] at h6
        exact ⟨by omega, h5, .inr (List.cons.inj h6).1⟩
def rowsB (L : List Int) (sig : List Sg) : Nat → Bool := sig.foldr (fun x now => px x L now) (fun i => i == L.length)
theorem rowsB_mt (L : List Int) : ∀ (sig : List Sg) (i : Nat), i ≤ L.length → (rowsB L sig i = true ↔ mt sig (L.drop i))
  | [], i, hi => by
    show (i == L.length) = true ↔ L.drop i = []
    rw [beq_iff_eq]
    constructor
    · intro h; rw [h, List.drop_length]
    · intro h
      have := congrArg List.length h
      rw [List.length_drop] at this
      simp only [List.length_nil] at this
      omega
  | x :: r, i, hi => px_mt r x L (rowsB L r) (rowsB_mt L r) i hi
theorem rowsB_like (sig : List Sg) (L : List Int) : rowsB L sig 0 = likeB sig L := by
  rw [Bool.eq_iff_iff, rowsB_mt L sig 0 (Nat.zero_le _), likeB_mt, List.drop_zero]
theorem Fits_l1 (s : ByteArray) (hs : s.size ≤ 1000) (sig : List Sg) (hg : sig.length ≤ 1000) (now : List Bool) (row : Nat → Bool) (hr : RowIs s.size now row) (q : Nat) (hq : q < sig.length) (r : Bool)
    (fin : ∀ l, RowIs s.size l (px (sgAt sig q) (bs s) row) → Ev (fun k => peristyleref1_fits.l0 k (sig.map conv) s l (wrap64 ((q : Int) - 1))) r) :
    Ev (fun k => peristyleref1_fits.l1 k (sig.map conv) s now (q : Int) (List.replicate (s.size + 1) false) (s.size : Int)) r := by
  obtain ⟨hl, hrow⟩ := hr
  have hx : rd_T136 (sig.map conv) (q : Int) = conv (sgAt sig q) := sgrAt_map hq
  generalize hxx : sgAt sig q = x at fin hx
  have rd : ∀ j, j ≤ s.size → rdOf false now (j : Int) = row j := fun j hj => by unfold rdOf; rw [Int.toNat_natCast]; exact hrow j hj
  have hlq : ((sig.map conv).length : Int) = sig.length := by rw [List.length_map]
  have key : ∀ i, i ≤ s.size + 1 → ∀ l : List Bool, l.length = s.size + 1 → (∀ j, i ≤ j → j ≤ s.size → l.getD j false = px x (bs s) row j) →
      Ev (fun k => peristyleref1_fits.l1 k (sig.map conv) s now (q : Int) l ((i : Int) - 1)) r := by
    intro i
    induction i with
    | zero =>
      intro _ l hl2 hin
      refine Ev.step (fun k => ?_) (fin l ⟨hl2, fun j hj => hin j (by omega) hj⟩)
      simp only [peristyleref1_fits.l1]
      rw [if_neg (by omega)]
    | succ i ih =>
      intro hi l hl2 hin
      rw [show ((i + 1 : Nat) : Int) - 1 = (i : Int) by omega]
      have w : wrap64 ((i : Int) - 1) = (i : Int) - 1 := w64 (by omega) (by omega)
      have step : ∀ b, b = px x (bs s) row i → Ev (fun k => peristyleref1_fits.l1 k (sig.map conv) s now (q : Int) (l.set i b) ((i : Int) - 1)) r := by
        intro b hb
        refine ih (by omega) _ (by rw [List.length_set]; exact hl2) fun j hj hj2 => ?_
        rw [getD_set (by omega)]
        split
        · rename_i h; rw [← h]; exact hb
        · exact hin j (by omega) hj2
      by_cases h2 : x.f2 = true
      · have pxe : ∀ j, px x (bs s) row j = anyFrom row j (s.size + 1 - j) := fun j => by unfold px; rw [if_pos h2, bs_len]
        by_cases hn : row i = true
        · refine Ev.step (fun k => ?_) (step true (by rw [pxe, show s.size + 1 - i = (s.size - i) + 1 by omega]; unfold anyFrom; rw [hn, Bool.true_or]))
          simp only [peristyleref1_fits.l1, w, rd i (by omega), Int.toNat_natCast, hx]
          rw [if_pos (by omega), if_pos (by omega), if_pos (by omega), if_pos (show (conv x).f0 = true from h2), if_pos (by omega), if_pos (by omega), if_pos hn, if_pos (by omega)]
        · have hnf : row i = false := by simpa using hn
          rcases Nat.lt_or_ge i s.size with hlt | hge
          · have w2 : wrap64 ((i : Int) + 1) = ((i + 1 : Nat) : Int) := w64s hlt (by omega)
            have e : rdOf false l ((i + 1 : Nat) : Int) = px x (bs s) row (i + 1) := by unfold rdOf; rw [Int.toNat_natCast]; exact hin (i + 1) (by omega) (by omega)
            refine Ev.step (fun k => ?_) (step (px x (bs s) row (i + 1)) (by
              rw [pxe, pxe, show s.size + 1 - i = (s.size - i) + 1 by omega, show s.size + 1 - (i + 1) = s.size - i by omega]
              conv => rhs; unfold anyFrom
              rw [hnf, Bool.false_or]))
            simp only [peristyleref1_fits.l1, w, w2, rd i (by omega), e, Int.toNat_natCast, hx]
            rw [if_pos (by omega), if_pos (by omega), if_pos (by omega), if_pos (show (conv x).f0 = true from h2), if_pos (by omega), if_pos (by omega), if_neg hn, if_pos (by omega), if_pos (by omega), if_pos (by omega), if_pos (by omega)]
          · obtain rfl : i = s.size := by omega
            refine Ev.step (fun k => ?_) (step false (by rw [pxe, show s.size + 1 - s.size = 0 + 1 by omega]; unfold anyFrom anyFrom; rw [hnf]; rfl))
            simp only [peristyleref1_fits.l1, w, rd s.size (by omega), Int.toNat_natCast, hx]
            rw [if_pos (by omega), if_pos (by omega), if_pos (by omega), if_pos (show (conv x).f0 = true from h2), if_pos (by omega), if_pos (by omega), if_neg hn, if_neg (by omega), if_pos (by omega)]
      · have pxe : px x (bs s) row i = (decide (i < s.size) && (row (i + 1) && (x.f1 || bt s i == x.f0))) := by unfold px; rw [if_neg h2, bs_len, bs_at]
        have f0n : ¬ (conv x).f0 = true := h2
        rcases Nat.lt_or_ge i s.size with hlt | hge
        · have w2 : wrap64 ((i : Int) + 1) = ((i + 1 : Nat) : Int) := w64s hlt (by omega)
          have dl : decide (i < s.size) = true := by simpa using hlt
          by_cases h1 : x.f1 = true
          · refine Ev.step (fun k => ?_) (step (row (i + 1)) (by rw [pxe, h1, dl]; simp))
            simp only [peristyleref1_fits.l1, w, w2, rd (i + 1) (by omega), Int.toNat_natCast, hx]
            rw [if_pos (by omega), if_pos (by omega), if_pos (by omega), if_neg f0n, if_pos (by omega), if_pos (show (conv x).f1 = true from h1), if_pos (by omega), if_pos (by omega), if_pos (by omega), if_pos (by omega)]
          · by_cases hc : x.f0 = bt s i
            · refine Ev.step (fun k => ?_) (step (row (i + 1)) (by rw [pxe, dl, hc]; simp))
              simp only [peristyleref1_fits.l1, w, w2, rd (i + 1) (by omega), Int.toNat_natCast, hx]
              rw [if_pos (by omega), if_pos (by omega), if_pos (by omega), if_neg f0n, if_pos (by omega), if_neg (show ¬ (conv x).f1 = true from h1), if_pos (by omega), if_pos (show (conv x).f2 = bt s i from hc), if_pos (by omega), if_pos (by omega), if_pos (by omega)]
            · refine Ev.step (fun k => ?_) (step false (by
                have hne : (bt s i == x.f0) = false := by rw [beq_eq_false_iff_ne]; exact fun e => hc e.symm
                rw [pxe, hne]; simp [h1]))
              simp only [peristyleref1_fits.l1, w, w2, Int.toNat_natCast, hx]
              rw [if_pos (by omega), if_pos (by omega), if_pos (by omega), if_neg f0n, if_pos (by omega), if_neg (show ¬ (conv x).f1 = true from h1), if_pos (by omega), if_neg (show ¬ (conv x).f2 = bt s i from hc), if_pos (by omega)]
        · refine Ev.step (fun k => ?_) (step false (by rw [pxe, show decide (i < s.size) = false by simp; omega]; rfl))
          simp only [peristyleref1_fits.l1, w, Int.toNat_natCast, hx]
          rw [if_pos (by omega), if_pos (by omega), if_pos (by omega), if_neg f0n, if_neg (by omega), if_pos (by omega), if_pos (by omega)]
  have := key (s.size + 1) (Nat.le_refl _) (List.replicate (s.size + 1) false) List.length_replicate (fun j h1 h2 => by omega)
  rw [show ((s.size + 1 : Nat) : Int) - 1 = (s.size : Int) by omega] at this
  exact this
theorem Fits_l0 (s : ByteArray) (hs : s.size ≤ 1000) (sig : List Sg) (hg : sig.length ≤ 1000) : ∀ q, q ≤ sig.length → ∀ l, RowIs s.size l (rowsB (bs s) (sig.drop q)) →
    Ev (fun k => peristyleref1_fits.l0 k (sig.map conv) s l ((q : Int) - 1)) (rowsB (bs s) sig 0) := by
  intro q
  induction q with
  | zero =>
    intro _ l hr
    refine Ev.step (f := fun _ => some (rowsB (bs s) sig 0)) (fun k => ?_) (Ev.now _)
    simp only [peristyleref1_fits.l0]
    rw [if_neg (by omega), if_pos (by have := hr.1; omega)]
    unfold rdOf
    rw [show (0 : Int).toNat = 0 from rfl, hr.2 0 (Nat.zero_le _)]
    rfl
  | succ q ih =>
    intro hq l hr
    have hlt : q < sig.length := by omega
    rw [show ((q + 1 : Nat) : Int) - 1 = (q : Int) by omega]
    have w1 : wrap64 ((s.size : Int) + 1) = ((s.size + 1 : Nat) : Int) := w64s (by omega : s.size < s.size + 1) (by omega)
    have e : sig.drop q = sgAt sig q :: sig.drop (q + 1) := by
      rw [List.drop_eq_getElem_cons hlt]
      congr 1
      show _ = sig.getD q _
      rw [List.getD_eq_getElem?_getD, List.getElem?_eq_getElem hlt]; rfl
    refine Ev.step (fun k => ?_) (Fits_l1 s hs sig hg l (rowsB (bs s) (sig.drop (q + 1))) hr q hlt _ fun l' hl' => by rw [w64 (by omega) (by omega)]; exact ih (by omega) l' (by rw [e]; exact hl'))
    simp only [peristyleref1_fits.l0, w1]
    rw [if_pos (by omega), if_pos (by omega), if_pos (by omega)]
    rfl
theorem Fits_ev (s : ByteArray) (hs : s.size ≤ 1000) (sig : List Sg) (hg : sig.length ≤ 1000) : Ev (fun k => peristyleref1_fits.f k (sig.map conv) s) (likeB sig (bs s)) := by
  unfold peristyleref1_fits.f
  have w1 : wrap64 ((s.size : Int) + 1) = ((s.size + 1 : Nat) : Int) := w64s (by omega : s.size < s.size + 1) (by omega)
  have w2 : wrap64 (((sig.map conv).length : Int) - 1) = (sig.length : Int) - 1 := by rw [List.length_map, w64 (by omega) (by omega)]
  simp only [w1, w2, Int.toNat_natCast, Option.bind_some, List.length_replicate, if_pos (show (0 : Int) ≤ ((s.size + 1 : Nat) : Int) by omega), if_pos (show s.size + 1 ≤ 281474976710656 by omega), if_pos (show (0 : Int) ≤ (s.size : Int) by omega), if_pos (show (s.size : Int) < ((s.size + 1 : Nat) : Int) by omega)]
  rw [← rowsB_like]
  refine Fits_l0 s hs sig hg sig.length (Nat.le_refl _) _ ⟨by rw [List.length_set, List.length_replicate], fun i hi => ?_⟩
  rw [getD_set (by rw [List.length_replicate]; omega), getD_rep, List.drop_length]
  show _ = (i == (bs s).length)
  rw [bs_len]
  by_cases h : s.size = i
  · subst h; simp
  · rw [if_neg h]; simp; omega
theorem LikeR_ev (a b : Val) (ha : fits a) (hb : fits b) : Ev (fun k => peristyleref1_Like.f k a.f0 a.f1 a.f2 b.f0 b.f1 b.f2) (likeS a b) := by
  unfold peristyleref1_Like.f
  refine Ev.bind (Checks_ev a b ha hb) ?_
  by_cases h : cv2 a b = 0
  · simp only [if_pos h]
    obtain ⟨ra, rb⟩ := cv2_zero.1 h
    have mism : ∀ v : Bool, v = true → ofS 3 a b ≠ 0 → Ev (fun k => peristyleref1_Like.j0 k v a.f0 a.f1 a.f2 b.f0 b.f1 b.f2) (likeS a b) := by
      intro v hv ho; subst hv
      have e : likeS a b = bad 10 := by unfold likeS; rw [if_neg ho, of_ne ho h]
      rw [e]
      exact Ev.step (f := fun _ => some (bad 10)) (fun k => by simp only [peristyleref1_Like.j0]; rfl) (Ev.now _)
    have go : ∀ v : Bool, v = false → (a.f0 = 0 ∨ a.f0 = 3) → (b.f0 = 0 ∨ b.f0 = 3) → Ev (fun k => peristyleref1_Like.j0 k v a.f0 a.f1 a.f2 b.f0 b.f1 b.f2) (likeS a b) := by
      intro v hv ka kb; subst hv
      have ho : ofS 3 a b = 0 := ofS_zero.2 ⟨ra, rb, ka, kb⟩
      have nul : ∀ v : Bool, v = true → Ev (fun k => peristyleref1_Like.j1 k v a.f0 a.f1 a.f2 b.f0 b.f1 b.f2) (bad 0) := by
        intro v hv; subst hv
        exact Ev.step (f := fun _ => some (bad 0)) (fun k => by simp only [peristyleref1_Like.j1]; rfl) (Ev.now _)
      unfold likeS
      rw [if_pos ho]
      by_cases h0 : a.f0 = 0
      · rw [if_pos (Or.inl h0)]
        exact Ev.step (f := fun k => peristyleref1_Like.j1 k true a.f0 a.f1 a.f2 b.f0 b.f1 b.f2) (fun k => by simp only [peristyleref1_Like.j0, Bool.false_eq_true, if_false, if_pos h0]) (nul true rfl)
      · refine Ev.step (f := fun k => peristyleref1_Like.j1 k (b.f0 == 0) a.f0 a.f1 a.f2 b.f0 b.f1 b.f2) (fun k => by simp only [peristyleref1_Like.j0, Bool.false_eq_true, if_false, if_neg h0]) ?_
        by_cases h1 : b.f0 = 0
        · rw [if_pos (Or.inr h1)]; exact nul _ (by simpa using h1)
        · rw [if_neg (fun h => h.elim h0 h1)]
          have e : (b.f0 == 0) = false := by simpa using h1
          rw [e]
          have sa := (right3 ra (ka.resolve_left h0)).2.1
          have sb := (right3 rb (kb.resolve_left h1)).2.1
          refine Ev.step (fun k => by simp only [peristyleref1_Like.j1, Bool.false_eq_true, if_false]; rfl) (Ev.bind (SignsR_ev b.f2 (by omega)) ?_)
          cases hg : sg false (bs b.f2) with
          | none => simp only [rgR, Bool.false_eq_true, if_false]; exact Ev.now _
          | some x =>
            have hx := sg_len _ _ _ hg
            rw [bs_len] at hx
            simp only [rgR, if_true, List.nil_append]
            refine Ev.bind (Fits_ev a.f2 (by omega) x (by omega)) ?_
            have eb : ∀ v : Bool, peristyleref1_Truth.f v = some (1, (if v then 1 else 0), ee) := fun v => by unfold peristyleref1_Truth.f; cases v <;> rfl
            simp only [eb, Option.bind_some]
            exact Ev.now _
    have no : ∀ v : Val, cvV v = 0 → ¬ (v.f0 = 0 ∨ v.f0 = 3) → (v = a ∨ v = b) → ofS 3 a b ≠ 0 := by
      intro v _ hv hab ho
      have hz := ofS_zero.1 ho
      rcases hab with rfl | rfl
      · exact hv hz.2.2.1
      · exact hv hz.2.2.2
    by_cases a0 : a.f0 = 0
    · simp only [if_pos a0]
      by_cases b0 : b.f0 = 0
      · simp only [if_pos b0]; exact go _ rfl (.inl a0) (.inl b0)
      · simp only [if_neg b0]
        by_cases b3 : b.f0 = 3
        · exact go _ (by simpa using b3) (.inl a0) (.inr b3)
        · exact mism _ (by simpa using b3) (no b rb (fun h => h.elim b0 b3) (.inr rfl))
    · simp only [if_neg a0]
      by_cases a3 : a.f0 = 3
      · simp only [if_pos a3]
        by_cases b0 : b.f0 = 0
        · simp only [if_pos b0]; exact go _ rfl (.inr a3) (.inl b0)
        · simp only [if_neg b0]
          by_cases b3 : b.f0 = 3
          · exact go _ (by simpa using b3) (.inr a3) (.inr b3)
          · exact mism _ (by simpa using b3) (no b rb (fun h => h.elim b0 b3) (.inr rfl))
      · simp only [if_neg a3]; exact mism _ rfl (no a ra (fun h => h.elim a0 a3) (.inl rfl))
  · have e : ofS 3 a b = cv2 a b := if_neg h
    have e2 : likeS a b = bad (cv2 a b) := by unfold likeS; rw [if_neg (by rw [e]; exact h), e]
    rw [e2]
    simp only [if_neg h]; exact Ev.now _
end Go.Proofs.YtokphfhihhdfpaaDoor.Pure
