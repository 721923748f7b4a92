/- Plain laws, part Lk: texts and patterns. What the signs of a pattern are, what it is to be of a pattern, and what value.Like comes to. -/
import Derived.Test.YtokphfhihhdfpaaDoorPureC
import Derived.Test.YtokphfhihhdfpaaDoorQxLikes
namespace Go.Proofs.YtokphfhihhdfpaaDoor.Pure
open Go.RowKit Go.Proofs.YtokphfhihhdfpaaDoor.Q Go.Proofs.YtokphfhihhdfpaaDoor.Ext Go.Proofs.YtokphfhihhdfpaaDoorW.PrintWords Go.Proofs.YtokphfhihhdfpaaDoorW.PrintLast Go.Proofs.YtokphfhihhdfpaaDoorW.PrintMore
set_option linter.unusedVariables false
set_option linter.unusedSimpArgs false

/-! ### bytes as numbers -/
def bs (s : ByteArray) : List Int := s.data.toList.map fun b => (b.toNat : Int)
theorem bs_len (s : ByteArray) : (bs s).length = s.size := by unfold bs; rw [List.length_map]; exact Lib.size_eq s
theorem bs_append (s t : ByteArray) : bs (s ++ t) = bs s ++ bs t := by unfold bs; rw [ByteArray.data_append, Array.toList_append, List.map_append]
theorem bs_at (s : ByteArray) (i : Nat) : (bs s).getD i 0 = bt s i := by
  unfold bt
  split
  · rename_i h
    have hi : i < (bs s).length := by rw [bs_len]; simpa using h
    rw [List.getD_eq_getElem?_getD, List.getElem?_eq_getElem hi]
    simp only [Option.getD_some]
    exact List.getElem_map _
  · rename_i h
    rw [List.getD_eq_getElem?_getD, List.getElem?_eq_none (by rw [bs_len]; simpa using h)]
    rfl
theorem bs_drop (s : ByteArray) (i : Nat) (h : i < s.size) : (bs s).drop i = bt s i :: (bs s).drop (i + 1) := by
  have hi : i < (bs s).length := by rw [bs_len]; exact h
  rw [List.drop_eq_getElem_cons hi, ← bs_at, List.getD_eq_getElem?_getD, List.getElem?_eq_getElem hi]
  rfl
/-! ### the signs of a pattern -/
abbrev Sg := S134
abbrev sgAt (l : List Sg) (i : Nat) : Sg := rd_T134 l (i : Int)
def chr (c : Int) : Sg := ⟨c, false, false⟩
def sgn1 (c : Int) : Sg := if c = 37 then ⟨0, false, true⟩ else if c = 95 then ⟨0, true, false⟩ else chr c
def sg : Bool → List Int → Option (List Sg)
  | false, [] => some []
  | true, [] => none
  | true, d :: r => (sg false r).map (chr d :: ·)
  | false, c :: r => if c = 92 then sg true r else (sg false r).map (sgn1 c :: ·)
theorem sg_append : ∀ (f : Bool) (a b : List Int) (x : List Sg), sg f a = some x → sg f (a ++ b) = (sg false b).map (x ++ ·)
  | false, [], b, x, h => by
    obtain rfl := Option.some.inj h
    show sg false b = _
    cases sg false b <;> rfl
  | true, [], b, x, h => by cases h
  | true, d :: r, b, x, h => by
    simp only [sg] at h
    obtain ⟨y, hy, rfl⟩ := Option.map_eq_some_iff.1 h
    simp only [List.cons_append, sg]
    rw [sg_append false r b y hy]
    cases sg false b <;> rfl
  | false, c :: r, b, x, h => by
    simp only [sg] at h
    simp only [List.cons_append, sg]
    by_cases hc : c = 92
    · rw [if_pos hc] at h ⊢; exact sg_append true r b x h
    · rw [if_neg hc] at h ⊢
      obtain ⟨y, hy, rfl⟩ := Option.map_eq_some_iff.1 h
      rw [sg_append false r b y hy]
      cases sg false b <;> rfl
def sgR (acc : List Sg) : Option (List Sg) → List Sg × Bool
  | none => ([], false)
  | some x => (acc ++ x, true)
theorem sgR_map (acc : List Sg) (x : Sg) (o : Option (List Sg)) : sgR acc (o.map (x :: ·)) = sgR (acc ++ [x]) o := by
  cases o with
  | none => rfl
  | some y => simp [sgR]
theorem Signs_l (s : ByteArray) (hs : s.size ≤ 1000) : ∀ d i, s.size - i ≤ d → i ≤ s.size → ∀ acc : List Sg, acc.length ≤ i → Ev (fun k => value_signs.l0 k s acc (i : Int)) (sgR acc (sg false ((bs s).drop i))) := by
  intro d
  induction d with
  | zero =>
    intro i h1 h2 acc ha
    obtain rfl : i = s.size := by omega
    rw [List.drop_of_length_le (by rw [bs_len]; omega)]
    refine Ev.step (f := fun _ => some _) (fun k => ?_) (Ev.now _)
    simp only [value_signs.l0]
    rw [if_neg (by omega)]
    simp [sgR, sg]
  | succ d ih =>
    intro i h1 h2 acc ha
    rcases Nat.lt_or_ge i s.size with hi | hi
    · rw [bs_drop s i hi]
      have al : acc.length < 46912496118442 := by omega
      by_cases hb : bt s i = 92
      · have e : sg false (bt s i :: (bs s).drop (i + 1)) = sg true ((bs s).drop (i + 1)) := by simp only [sg]; rw [if_pos hb]
        rw [e]
        rcases Nat.lt_or_ge (i + 1) s.size with h3 | h3
        · rw [bs_drop s (i + 1) h3]
          have e2 : sg true (bt s ((i + 1 : Nat) : Int) :: (bs s).drop (i + 1 + 1)) = (sg false ((bs s).drop (i + 1 + 1))).map (chr (bt s ((i + 1 : Nat) : Int)) :: ·) := by simp only [sg]
          rw [e2, sgR_map]
          refine Ev.step (fun k => ?_) (ih (i + 1 + 1) (by omega) (by omega) _ (by simp; omega))
          simp only [value_signs.l0, w64s hi (by omega : s.size ≤ 9223372036854775807)]
          rw [w64s h3 (by omega : s.size ≤ 9223372036854775807)]
          rw [if_pos (by omega), if_pos (by omega), if_neg (by omega), if_neg (by omega), if_pos hb, if_neg (by omega), if_pos (by omega), if_pos (by omega), if_pos al]
          rfl
        · rw [List.drop_of_length_le (by rw [bs_len]; omega)]
          refine Ev.step (f := fun _ => some _) (fun k => ?_) (Ev.now _)
          simp only [value_signs.l0, w64s hi (by omega : s.size ≤ 9223372036854775807)]
          rw [if_pos (by omega), if_pos (by omega), if_neg (by omega), if_neg (by omega), if_pos hb, if_pos (by omega)]
          rfl
      · have e : sg false (bt s i :: (bs s).drop (i + 1)) = (sg false ((bs s).drop (i + 1))).map (sgn1 (bt s i) :: ·) := by simp only [sg]; rw [if_neg hb]
        rw [e, sgR_map]
        refine Ev.step (fun k => ?_) (ih (i + 1) (by omega) (by omega) _ (by simp; omega))
        simp only [value_signs.l0, w64s hi (by omega : s.size ≤ 9223372036854775807)]
        rw [if_pos (by omega), if_pos (by omega)]
        unfold sgn1
        by_cases h37 : bt s i = 37
        · rw [if_pos h37, if_pos h37, if_pos al]
        · rw [if_neg h37, if_neg h37]
          by_cases h95 : bt s i = 95
          · rw [if_pos h95, if_pos h95, if_pos al]
          · rw [if_neg h95, if_neg h95, if_neg hb, if_pos al]; rfl
    · obtain rfl : i = s.size := by omega
      rw [List.drop_of_length_le (by rw [bs_len]; omega)]
      refine Ev.step (f := fun _ => some _) (fun k => ?_) (Ev.now _)
      simp only [value_signs.l0]
      rw [if_neg (by omega)]
      simp [sgR, sg]
theorem Signs_ev (s : ByteArray) (hs : s.size ≤ 1000) : Ev (fun k => value_signs.f k s) (sgR [] (sg false (bs s))) := by
  have := Signs_l s hs s.size 0 (by omega) (by omega) [] (by simp)
  exact this
/-- A pattern has at most as many signs as bytes. -/
theorem sg_len : ∀ (f : Bool) (a : List Int) (x : List Sg), sg f a = some x → x.length ≤ a.length
  | false, [], x, h => by obtain rfl := Option.some.inj h; simp
  | true, [], x, h => by cases h
  | true, d :: r, x, h => by
    simp only [sg] at h
    obtain ⟨y, hy, rfl⟩ := Option.map_eq_some_iff.1 h
    have := sg_len false r y hy
    simp; omega
  | false, c :: r, x, h => by
    simp only [sg] at h
    by_cases hc : c = 92
    · rw [if_pos hc] at h; have := sg_len true r x h; simp; omega
    · rw [if_neg hc] at h
      obtain ⟨y, hy, rfl⟩ := Option.map_eq_some_iff.1 h
      have := sg_len false r y hy
      simp; omega
/-! ### to be of a pattern -/
def fit1 (x : Sg) (u : List Int) : Prop := if x.f2 = true then True else if x.f1 = true then u.length = 1 else u = [x.f0]
def mt : List Sg → List Int → Prop
  | [], t => t = []
  | x :: r, t => ∃ u v, t = u ++ v ∧ fit1 x u ∧ mt r v
theorem mt_append : ∀ (a b : List Sg) (t : List Int), mt (a ++ b) t ↔ ∃ u v, t = u ++ v ∧ mt a u ∧ mt b v
  | [], b, t => ⟨fun h => ⟨[], t, rfl, rfl, h⟩, fun ⟨u, v, h1, h2, h3⟩ => by rw [h1, show u = [] from h2]; exact h3⟩
  | x :: r, b, t => by
    constructor
    · rintro ⟨u, v, rfl, h1, h2⟩
      obtain ⟨p, q, rfl, h3, h4⟩ := (mt_append r b v).1 h2
      exact ⟨u ++ p, q, by rw [List.append_assoc], ⟨u, p, rfl, h1, h3⟩, h4⟩
    · rintro ⟨u, v, rfl, ⟨p, q, rfl, h1, h2⟩, h3⟩
      exact ⟨p, q ++ v, by rw [List.append_assoc], h1, (mt_append r b (q ++ v)).2 ⟨q, v, rfl, h2, h3⟩⟩
theorem mt_one (x : Sg) (t : List Int) : mt [x] t ↔ fit1 x t :=
  ⟨fun ⟨u, v, h1, h2, h3⟩ => by rw [h1, show v = [] from h3, List.append_nil]; exact h2, fun h => ⟨t, [], (List.append_nil t).symm, h, rfl⟩⟩
/-- The row of a sign more, out of the row of the signs before it. -/
def nx (x : Sg) (L : List Int) (now : Nat → Bool) (i : Nat) : Bool :=
  if x.f2 = true then (List.range (i + 1)).any now else match i with
    | 0 => false
    | j + 1 => now j && (x.f1 || L.getD j 0 == x.f0)
theorem nx_mt (a : List Sg) (x : Sg) (L : List Int) (now : Nat → Bool) (h : ∀ i, i ≤ L.length → (now i = true ↔ mt a (L.take i))) (i : Nat) (hi : i ≤ L.length) : nx x L now i = true ↔ mt (a ++ [x]) (L.take i) := by
  rw [mt_append]
  have split : (∃ u v, L.take i = u ++ v ∧ mt a u ∧ mt [x] v) ↔ ∃ j, j ≤ i ∧ now j = true ∧ fit1 x ((L.take i).drop j) := by
    constructor
    · rintro ⟨u, v, e, h1, h2⟩
      have hl : u.length ≤ i := by have := congrArg List.length e; rw [List.length_take, List.length_append] at this; omega
      have eu : u = L.take u.length := by
        have := congrArg (List.take u.length) e
        rw [List.take_left, List.take_take, Nat.min_eq_left hl] at this
        exact this.symm
      have ev : v = (L.take i).drop u.length := by
        have := congrArg (List.drop u.length) e
        rw [List.drop_left] at this
        exact this.symm
      exact ⟨u.length, hl, (h _ (by omega)).2 (eu ▸ h1), ev ▸ (mt_one x v).1 h2⟩
    · rintro ⟨j, hj, h1, h2⟩
      refine ⟨(L.take i).take j, (L.take i).drop j, (List.take_append_drop j _).symm, ?_, (mt_one x _).2 h2⟩
      rw [List.take_take, Nat.min_eq_left hj]
      exact (h j (by omega)).1 h1
  rw [split]
  unfold nx fit1
  by_cases h2 : x.f2 = true
  · simp only [if_pos h2, List.any_eq_true, List.mem_range]
    exact ⟨fun ⟨j, h3, h4⟩ => ⟨j, by omega, h4, trivial⟩, fun ⟨j, h3, h4, _⟩ => ⟨j, by omega, h4⟩⟩
  · simp only [if_neg h2]
    have dl : ∀ j, j ≤ i → ((L.take i).drop j).length = i - j := fun j hj => by rw [List.length_drop, List.length_take]; omega
    cases i with
    | zero =>
      simp only [Bool.false_eq_true, false_iff]
      rintro ⟨j, hj, _, h4⟩
      have := dl j hj
      split at h4
      · omega
      · rw [h4] at this; simp only [List.length_singleton] at this; omega
    | succ i =>
      have one : (L.take (i + 1)).drop i = [L.getD i 0] := by
        rw [List.getD_eq_getElem?_getD, List.getElem?_eq_getElem (by omega), Option.getD_some]
        rw [List.drop_eq_getElem_cons (by rw [List.length_take]; omega), List.getElem_take, List.drop_of_length_le (by rw [List.length_take]; omega)]
      simp only [Bool.and_eq_true, Bool.or_eq_true, beq_iff_eq]
      constructor
      · rintro ⟨h3, h4⟩
        refine ⟨i, by omega, h3, ?_⟩
        rw [one]
        by_cases h5 : x.f1 = true
        · rw [if_pos h5]; rfl
        · rw [if_neg h5, h4.resolve_left h5]
      · rintro ⟨j, hj, h3, h4⟩
        have := dl j hj
        by_cases h5 : x.f1 = true
        · rw [if_pos h5] at h4
          obtain rfl : j = i := by omega
          exact ⟨h3, .inl h5⟩
        · rw [if_neg h5] at h4
          obtain rfl : j = i := by rw [h4] at this; simp only [List.length_singleton] at this; omega
          rw [one] at h4
          exact ⟨h3, .inr (List.cons.inj h4).1⟩
/-! ### the rows of value.like -/
/-- A list of n + 1 truths that is a row. -/
def RowIs (n : Nat) (l : List Bool) (row : Nat → Bool) : Prop := l.length = n + 1 ∧ ∀ i, i ≤ n → l.getD i false = row i
theorem getD_set {l : List Bool} {i j : Nat} {b : Bool} (hi : i < l.length) : (l.set i b).getD j false = if i = j then b else l.getD j false := by
  rw [List.getD_eq_getElem?_getD, List.getD_eq_getElem?_getD, List.getElem?_set]
  split
  · subst i; simp [hi]
  · rfl
theorem getD_rep (n j : Nat) : (List.replicate n false).getD j false = false := by
  rw [List.getD_eq_getElem?_getD, List.getElem?_replicate]
  split <;> rfl
theorem any_range_succ (p : Nat → Bool) (i : Nat) : (List.range (i + 1)).any p = ((List.range i).any p || p i) := by
  rw [List.range_succ, List.any_append]; simp
theorem Like_l1 (s : ByteArray) (hs : s.size ≤ 1000) (sig : List Sg) (now : List Bool) (row : Nat → Bool) (hr : RowIs s.size now row) (q : Nat) (x : Sg) (r : Bool)
    (fin : ∀ l, RowIs s.size l (nx x (bs s) row) → Ev (fun k => value_like.l0 k s l sig (sig.length : Int) (wrap64 ((q : Int) + 1))) r) :
    Ev (fun k => value_like.l1 k s now (List.replicate (s.size + 1) false) sig (sig.length : Int) (q : Int) (now.length : Int) 0 x.f0 x.f1 x.f2) r := by
  obtain ⟨hl, hrow⟩ := hr
  by_cases h2 : x.f2 = true
  · have nxe : ∀ i, nx x (bs s) row i = (List.range (i + 1)).any row := fun i => if_pos h2
    have key : ∀ d i, i + d = s.size + 1 → ∀ l : List Bool, l.length = s.size + 1 → (∀ j, j < i → l.getD j false = nx x (bs s) row j) →
        Ev (fun k => value_like.l1 k s now l sig (sig.length : Int) (q : Int) (now.length : Int) (i : Int) x.f0 x.f1 x.f2) r := by
      intro d
      induction d with
      | zero =>
        intro i hi l hl2 hin
        refine Ev.step (fun k => ?_) (fin l ⟨hl2, fun j hj => hin j (by omega)⟩)
        simp only [value_like.l1]
        rw [if_neg (by omega)]
      | succ d ih =>
        intro i hi l hl2 hin
        have hrd : rdOf false now (i : Int) = row i := by unfold rdOf; rw [Int.toNat_natCast]; exact hrow i (by omega)
        have step : ∀ b, b = nx x (bs s) row i → Ev (fun k => value_like.l1 k s now (l.set i b) sig (sig.length : Int) (q : Int) (now.length : Int) ((i + 1 : Nat) : Int) x.f0 x.f1 x.f2) r := by
          intro b hb
          refine ih (i + 1) (by omega) _ (by rw [List.length_set]; exact hl2) fun j hj => ?_
          rw [getD_set (by omega)]
          split
          · rename_i h; rw [← h]; exact hb
          · exact hin j (by omega)
        have w : wrap64 ((i : Int) + 1) = ((i + 1 : Nat) : Int) := w64s (by omega : i < s.size + 1) (by omega)
        by_cases hn : row i = true
        · refine Ev.step (fun k => ?_) (step true (by rw [nxe, any_range_succ, hn, Bool.or_true]))
          simp only [value_like.l1, w, hrd, Int.toNat_natCast]
          rw [if_pos (by omega), if_pos h2, if_pos (by omega), if_pos (by omega), if_pos hn, if_pos (by omega)]
        · rcases Nat.eq_zero_or_pos i with h0 | h0
          · subst h0
            refine Ev.step (fun k => ?_) (step false (by rw [nxe, any_range_succ]; simpa using hn))
            simp only [value_like.l1, w, hrd, Int.toNat_natCast]
            rw [if_pos (by omega), if_pos h2, if_pos (by omega), if_pos (by omega), if_neg hn, if_neg (by omega), if_pos (by omega)]
          · have w2 : wrap64 ((i : Int) - 1) = ((i - 1 : Nat) : Int) := by rw [w64 (by omega) (by omega)]; omega
            have e : rdOf false l ((i - 1 : Nat) : Int) = nx x (bs s) row (i - 1) := by unfold rdOf; rw [Int.toNat_natCast]; exact hin (i - 1) (by omega)
            refine Ev.step (fun k => ?_) (step (nx x (bs s) row (i - 1)) (by
              rw [nxe, nxe, any_range_succ row i, show i - 1 + 1 = i by omega]
              rw [show row i = false by simpa using hn, Bool.or_false]))
            simp only [value_like.l1, w, w2, hrd, e, Int.toNat_natCast]
            rw [if_pos (by omega), if_pos h2, if_pos (by omega), if_pos (by omega), if_neg hn, if_pos (by omega), if_pos (by omega), if_pos (by omega), if_pos (by omega)]
    exact key (s.size + 1) 0 (by omega) _ (List.length_replicate) (fun j hj => by omega)
  · have nx0 : nx x (bs s) row 0 = false := if_neg h2
    have nxs : ∀ j, nx x (bs s) row (j + 1) = (row j && (x.f1 || (bs s).getD j 0 == x.f0)) := fun j => if_neg h2
    have key : ∀ d i, i + d = s.size + 1 → ∀ l : List Bool, l.length = s.size + 1 → (∀ j, j ≤ s.size → l.getD j false = if j ≤ i then nx x (bs s) row j else false) →
        Ev (fun k => value_like.l1 k s now l sig (sig.length : Int) (q : Int) (now.length : Int) (i : Int) x.f0 x.f1 x.f2) r := by
      intro d
      induction d with
      | zero =>
        intro i hi l hl2 hin
        refine Ev.step (fun k => ?_) (fin l ⟨hl2, fun j hj => by rw [hin j hj, if_pos (by omega)]⟩)
        simp only [value_like.l1]
        rw [if_neg (by omega)]
      | succ d ih =>
        intro i hi l hl2 hin
        have hrd : rdOf false now (i : Int) = row i := by unfold rdOf; rw [Int.toNat_natCast]; exact hrow i (by omega)
        have w : wrap64 ((i : Int) + 1) = ((i + 1 : Nat) : Int) := w64s (by omega : i < s.size + 1) (by omega)
        have skip : (i < s.size → nx x (bs s) row (i + 1) = false) → Ev (fun k => value_like.l1 k s now l sig (sig.length : Int) (q : Int) (now.length : Int) ((i + 1 : Nat) : Int) x.f0 x.f1 x.f2) r := by
          intro hb
          refine ih (i + 1) (by omega) _ hl2 fun j hj => ?_
          rw [hin j hj]
          by_cases h : j ≤ i
          · rw [if_pos h, if_pos (by omega)]
          · rw [if_neg h]
            split
            · obtain rfl : j = i + 1 := by omega
              exact (hb (by omega)).symm
            · rfl
        have set : i < s.size → nx x (bs s) row (i + 1) = true → Ev (fun k => value_like.l1 k s now (l.set (i + 1) true) sig (sig.length : Int) (q : Int) (now.length : Int) ((i + 1 : Nat) : Int) x.f0 x.f1 x.f2) r := by
          intro hlt hb
          refine ih (i + 1) (by omega) _ (by rw [List.length_set]; exact hl2) fun j hj => ?_
          rw [getD_set (by omega)]
          split
          · rename_i h; subst h; rw [if_pos (by omega), hb]
          · rw [hin j hj]
            by_cases h : j ≤ i
            · rw [if_pos h, if_pos (by omega)]
            · rw [if_neg h, if_neg (by omega)]
        by_cases hn : row i = true
        · by_cases hlt : i < s.size
          · by_cases h1 : x.f1 = true
            · refine Ev.step (fun k => ?_) (set hlt (by rw [nxs, hn, h1]; rfl))
              simp only [value_like.l1, w, hrd, Int.toNat_natCast]
              rw [if_pos (by omega), if_neg h2, if_pos (by omega), if_pos (by omega), if_pos hn, if_pos (by omega), if_pos h1, if_pos (by omega), if_pos (by omega)]
            · by_cases hc : bt s i = x.f0
              · refine Ev.step (fun k => ?_) (set hlt (by rw [nxs, hn, bs_at, hc]; simp))
                simp only [value_like.l1, w, hrd, Int.toNat_natCast]
                rw [if_pos (by omega), if_neg h2, if_pos (by omega), if_pos (by omega), if_pos hn, if_pos (by omega), if_neg h1, if_pos hc, if_pos (by omega), if_pos (by omega)]
              · refine Ev.step (fun k => ?_) (skip fun _ => by rw [nxs, bs_at, hn]; simp [h1, hc])
                simp only [value_like.l1, w, hrd, Int.toNat_natCast]
                rw [if_pos (by omega), if_neg h2, if_pos (by omega), if_pos (by omega), if_pos hn, if_pos (by omega), if_neg h1, if_neg hc]
          · refine Ev.step (fun k => ?_) (skip fun h => absurd h hlt)
            simp only [value_like.l1, w, hrd, Int.toNat_natCast]
            rw [if_pos (by omega), if_neg h2, if_pos (by omega), if_pos (by omega), if_pos hn, if_neg (by omega)]
        · refine Ev.step (fun k => ?_) (skip fun _ => by rw [nxs, show row i = false by simpa using hn]; rfl)
          simp only [value_like.l1, w, hrd, Int.toNat_natCast]
          rw [if_pos (by omega), if_neg h2, if_pos (by omega), if_pos (by omega), if_neg hn]
    refine key (s.size + 1) 0 (by omega) _ (List.length_replicate) fun j hj => ?_
    rw [getD_rep]
    split
    · obtain rfl : j = 0 := by omega
      exact nx0.symm
    · rfl
/-- The row behind all signs. -/
def rows (L : List Int) (sig : List Sg) (row : Nat → Bool) : Nat → Bool := sig.foldl (fun now x => nx x L now) row
def row0 (i : Nat) : Bool := i == 0
/-- Whether a text is of a pattern. -/
def likeB (sig : List Sg) (L : List Int) : Bool := rows L sig row0 L.length
theorem rows_mt (L : List Int) : ∀ (sig a : List Sg) (row : Nat → Bool), (∀ i, i ≤ L.length → (row i = true ↔ mt a (L.take i))) → ∀ i, i ≤ L.length → (rows L sig row i = true ↔ mt (a ++ sig) (L.take i))
  | [], a, row, h, i, hi => by rw [List.append_nil]; exact h i hi
  | x :: r, a, row, h, i, hi => by
    have := rows_mt L r (a ++ [x]) (nx x L row) (nx_mt a x L row h) i hi
    rw [List.append_assoc] at this
    exact this
theorem likeB_mt (sig : List Sg) (L : List Int) : likeB sig L = true ↔ mt sig L := by
  have := rows_mt L sig [] row0 (fun i hi => by
    show (i == 0) = true ↔ L.take i = []
    rw [beq_iff_eq]
    constructor
    · intro h; rw [h]; rfl
    · intro h
      have := congrArg List.length h
      rw [List.length_take] at this
      simp only [List.length_nil] at this
      omega) L.length (Nat.le_refl _)
  rw [List.take_length] at this
  exact this
theorem Like_l0 (s : ByteArray) (hs : s.size ≤ 1000) (sig : List Sg) (hg : sig.length ≤ 1000) : ∀ d q, q + d = sig.length → ∀ l row, RowIs s.size l row →
    Ev (fun k => value_like.l0 k s l sig (sig.length : Int) (q : Int)) (rows (bs s) (sig.drop q) row s.size) := by
  intro d
  induction d with
  | zero =>
    intro q hq l row hr
    rw [List.drop_of_length_le (by omega)]
    refine Ev.step (f := fun _ => some (row s.size)) (fun k => ?_) (Ev.now _)
    simp only [value_like.l0]
    rw [if_neg (by omega), if_pos (by omega), if_pos (by have := hr.1; omega)]
    unfold rdOf
    rw [Int.toNat_natCast, hr.2 _ (Nat.le_refl _)]
  | succ d ih =>
    intro q hq l row hr
    have hlt : q < sig.length := by omega
    have w1 : wrap64 ((s.size : Int) + 1) = ((s.size + 1 : Nat) : Int) := w64s (by omega : s.size < s.size + 1) (by omega)
    have e : sig.drop q = sgAt sig q :: sig.drop (q + 1) := by
      rw [List.drop_eq_getElem_cons hlt]
      congr 1
      show _ = sig.getD q _
      rw [List.getD_eq_getElem?_getD, List.getElem?_eq_getElem hlt]; rfl
    rw [e]
    refine Ev.step (fun k => ?_) (Like_l1 s hs sig l row hr q (sgAt sig q) _ fun l' hl' => by rw [w64s hlt (by omega)]; exact ih (q + 1) (by omega) l' _ hl')
    simp only [value_like.l0, w1]
    rw [if_pos (by omega), if_pos (by omega), if_pos (by omega), if_pos (by omega), if_pos (by omega)]
    rfl
theorem like_ev (s : ByteArray) (hs : s.size ≤ 1000) (sig : List Sg) (hg : sig.length ≤ 1000) : Ev (fun k => value_like.f k s sig) (likeB sig (bs s)) := by
  unfold value_like.f
  have w1 : wrap64 ((s.size : Int) + 1) = ((s.size + 1 : Nat) : Int) := w64s (by omega : s.size < s.size + 1) (by omega)
  simp only [w1, Int.toNat_natCast, Option.bind_some, List.length_replicate, if_pos (show (0 : Int) ≤ ((s.size + 1 : Nat) : Int) by omega), if_pos (show s.size + 1 ≤ 281474976710656 by omega), if_pos (show (0 : Int) < ((s.size + 1 : Nat) : Int) by omega)]
  have := Like_l0 s hs sig hg sig.length 0 (by omega) ((List.replicate (s.size + 1) false).set 0 true) row0 ⟨by rw [List.length_set, List.length_replicate], fun i hi => by
    rw [getD_set (by rw [List.length_replicate]; omega), getD_rep]
    unfold row0
    by_cases h : i = 0
    · subst h; rfl
    · rw [if_neg (fun e => h e.symm)]; simpa using h⟩
  unfold likeB
  rw [bs_len]
  exact this
/-! ### Like -/
def likeS (a b : Val) : Res := if ofS 3 a b = 0 then (if a.f0 = 0 ∨ b.f0 = 0 then bad 0 else match sg false (bs b.f2) with
    | none => bad 9
    | some x => tv (likeB x (bs a.f2))) else bad (ofS 3 a b)
theorem Like_ev (a b : Val) (ha : fits a) (hb : fits b) : Ev (fun k => value_Like.f k a.f0 a.f1 a.f2 b.f0 b.f1 b.f2) (likeS a b) := by
  unfold value_Like.f
  refine Ev.bind (Of2 3 a b ha hb) ?_
  unfold likeS
  by_cases h : ofS 3 a b = 0
  · simp only [if_pos h, kit_IsNull.f, Option.bind_some, beq_iff_eq]
    obtain ⟨ra, rb, ka, kb⟩ := ofS_zero.1 h
    have e0 : ∀ v : Bool, v = true → Ev (fun k => value_Like.j0 k v a.f0 a.f1 a.f2 b.f0 b.f1 b.f2) (bad 0) := by
      intro v hv; subst hv
      exact Ev.step (f := fun _ => some (bad 0)) (fun k => by simp only [value_Like.j0]; rfl) (Ev.now _)
    by_cases h0 : a.f0 = 0
    · rw [if_pos (Or.inl h0)]; simp only [if_pos h0]; exact e0 _ rfl
    · simp only [if_neg h0]
      by_cases h1 : b.f0 = 0
      · rw [if_pos (Or.inr h1)]; exact e0 _ (by simpa using h1)
      · rw [if_neg (fun h => h.elim h0 h1)]
        have e : (b.f0 == 0) = false := by simpa using h1
        rw [e]
        have sa := (right3 ra (ka.resolve_left h0)).2.1
        have sb := (right3 rb (kb.resolve_left h1)).2.1
        refine Ev.step (fun k => by simp only [value_Like.j0, Bool.false_eq_true, if_false]; rfl) (Ev.bind (Signs_ev b.f2 (by omega)) ?_)
        cases hg : sg false (bs b.f2) with
        | none => simp only [sgR, Bool.false_eq_true, if_false]; exact Ev.now _
        | some x =>
          have hx := sg_len _ _ _ hg
          rw [bs_len] at hx
          simp only [sgR, if_true, List.nil_append]
          refine Ev.bind (like_ev a.f2 (by omega) x (by omega)) ?_
          have eb : ∀ v : Bool, kit_Bool.f v = some (1, (if v then 1 else 0), ee) := fun v => by unfold kit_Bool.f; cases v <;> rfl
          simp only [eb, Option.bind_some]
          exact Ev.now _
  · simp only [if_neg h]; exact Ev.now _
end Go.Proofs.YtokphfhihhdfpaaDoor.Pure
