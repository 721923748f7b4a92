/- Plain laws, part Di: what Distinct of the program comes to: of the rows of a right table those that no earlier one is the same as. -/
import Derived.Test.YtokphfhihhdfpaaDoorPureR
import Derived.Test.YtokphfhihhdfpaaDoorQxvalueDistinct
namespace Go.Proofs.YtokphfhihhdfpaaDoor.Pure
open Go.RowKit Go.Proofs.YtokphfhihhdfpaaDoor.Q Go.Proofs.YtokphfhihhdfpaaDoor.Ext Go.Proofs.YtokphfhihhdfpaaDoorW.PrintWords Go.Proofs.YtokphfhihhdfpaaDoorW.PrintLast Go.Proofs.YtokphfhihhdfpaaDoorW.PrintMore
set_option linter.unusedVariables false
set_option linter.unusedSimpArgs false

abbrev rowv (l : List Rw) (i : Nat) : List Val := (rowAt l i).f0
def cmpR (l : List Rw) (i j : Nat) : Int := crl (rowv l i) (rowv l j)
variable {c : List Col} {l : List Rw}
theorem Right.at_ (h : Right c l) {i : Nat} (hi : i < l.length) : (rowv l i).length = c.length ∧ ∀ v ∈ rowv l i, cvV v = 0 := h.row _ (rowAt_mem hi)
theorem Right.cmp (h : Right c l) {i j : Nat} (hi : i < l.length) (hj : j < l.length) (k : Nat) (hk : 20 < k) : kit_CompareRows.f k (rowv l i) (rowv l j) = some (cmpR l i j) :=
  cr_100 _ _ (by rw [(h.at_ hi).1]; exact h.c20) (by rw [(h.at_ hi).1, (h.at_ hj).1]) (h.at_ hi).2 (h.at_ hj).2 k hk
theorem Right.neg (h : Right c l) {i j : Nat} (hi : i < l.length) (hj : j < l.length) : cmpR l j i = - cmpR l i j := crl_neg _ _ (by rw [(h.at_ hi).1, (h.at_ hj).1])
theorem Right.trans (h : Right c l) {i j k : Nat} (hi : i < l.length) (hj : j < l.length) (hk : k < l.length) (h1 : cmpR l i j ≤ 0) (h2 : cmpR l j k ≤ 0) : cmpR l i k ≤ 0 ∧ (cmpR l i k = 0 ↔ cmpR l i j = 0 ∧ cmpR l j k = 0) :=
  crl_trans _ _ _ (by rw [(h.at_ hi).1, (h.at_ hj).1]) (by rw [(h.at_ hj).1, (h.at_ hk).1]) h1 h2
theorem Right.eq (h : Right c l) {i j : Nat} (hi : i < l.length) (hj : j < l.length) : cmpR l i j = 0 ↔ rowv l i = rowv l j := crl_eq _ _ (by rw [(h.at_ hi).1, (h.at_ hj).1])
/-- Ahead of, by rows and places. -/
def ahd (l : List Rw) (i j : Nat) : Prop := cmpR l i j < 0 ∨ (cmpR l i j = 0 ∧ i < j)
theorem val_range (n : Nat) : (List.finRange n).map Fin.val = List.range n := by
  apply List.ext_getElem
  · simp
  · intro i h1 h2; simp
theorem sortPlaces_ok (h : Right c l) : ∃ L : List Nat, SoP.sortPlaces l ((List.range l.length).map Int.ofNat) = some (L.map Int.ofNat) ∧ L.Perm (List.range l.length) ∧ L.Pairwise (ahd l) := by
  unfold SoP.sortPlaces
  split
  · rename_i h0
    rw [h0]
    exact ⟨[], by simp, by simp, List.Pairwise.nil⟩
  · rename_i m hm
    have hrow : ∀ x : Fin (m + 1), x.val < l.length := fun x => by have := x.isLt; omega
    have hcf : ∀ x y : Fin (m + 1), SoP.cmpAt l m x y = cmpR l x.val y.val := fun x y => by
      unfold SoP.cmpAt
      have := h.cmp (hrow x) (hrow y) 100 (by decide)
      unfold rowv rowAt at this
      rw [this]
      rfl
    have hok : SoP.cmpOk l m = true := by
      unfold SoP.cmpOk
      refine decide_eq_true fun x y => ?_
      have := h.cmp (hrow x) (hrow y) 100 (by decide)
      unfold rowv rowAt at this
      rw [this]
      rfl
    have hO : Stab.Ordered (SoP.cmpAt l m) := {
      neg := fun i j => by rw [hcf, hcf]; exact h.neg (hrow i) (hrow j)
      trans := fun i j k h1 h2 => by
        rw [hcf] at h1 h2
        rw [hcf, hcf, hcf]
        exact h.trans (hrow i) (hrow j) (hrow k) h1 h2 }
    have hp := Stab.stable_places hO
    rw [if_pos ⟨by rw [hm], by have := h.rows; omega, hok⟩]
    refine ⟨(Stab.stable (Go.Proofs.ltOf (SoP.cmpAt l m)) (Stab.d0 m)).toList.map Fin.val, ?_, ?_, ?_⟩
    · rw [List.map_map]
      rfl
    · rw [hm, ← val_range]
      exact hp.1.map _
    · rw [List.pairwise_map]
      refine hp.2.imp fun {a b} hab => ?_
      unfold Stab.Ahead at hab
      rw [hcf] at hab
      exact hab
/-! ### the places laid -/
def fillAt (n i : Nat) : List Int := (List.range i).map Int.ofNat ++ List.replicate (n - i) 0
theorem fill_length (n i : Nat) (h : i ≤ n) : (fillAt n i).length = n := by simp [fillAt]; omega
theorem fill_set (n i : Nat) (h : i < n) : (fillAt n i).set i (i : Int) = fillAt n (i + 1) := by
  unfold fillAt
  obtain ⟨d, hd⟩ : ∃ d, n - i = d + 1 := ⟨n - i - 1, by omega⟩
  rw [hd, show n - (i + 1) = d by omega, List.replicate_succ, List.set_append_right _ _ (by simp), List.length_map, List.length_range, Nat.sub_self, List.set_cons_zero, List.range_succ, List.map_append]
  simp
theorem fill_ev (r : List Col × List Rw × Int) (n : Nat) (hn : n ≤ 2000) (cc : List Col) (ll : List Rw)
    (hlast : Ev (fun k => (SoP.sortPlaces ll ((List.range n).map Int.ofNat)).bind fun t => if 0 ≤ (ll.length : Int) then (if ((ll.length : Int) : Int).toNat ≤ 281474976710656 then value_Distinct.l1 k t (List.replicate ((ll.length : Int) : Int).toNat false) t (t.length : Int) 0 cc ll else none) else none) r) :
    ∀ d i, i + d = n → Ev (fun k => value_Distinct.l0 k (fillAt n i) (n : Int) (i : Int) cc ll) r := by
  intro d
  induction d with
  | zero =>
    intro i hi
    obtain rfl : i = n := by omega
    refine Ev.step (fun k => ?_) hlast
    simp only [value_Distinct.l0]
    rw [if_neg (by omega)]
    have e : fillAt i i = (List.range i).map Int.ofNat := by simp [fillAt]
    rw [e]
  | succ d ih =>
    intro i hi
    refine Ev.step (fun k => ?_) (ih (i + 1) (by omega))
    simp only [value_Distinct.l0]
    rw [if_pos (by omega), if_pos (by omega), if_pos (by rw [fill_length n i (by omega)]; omega), Int.toNat_natCast, fill_set n i (by omega), w64s (n := n) (by omega) (by omega)]
/-! ### the marks -/
def flag (l : List Rw) (L : List Nat) (t : Nat) : Bool := t == 0 || cmpR l (L.getD (t - 1) 0) (L.getD t 0) != 0
def marks (l : List Rw) (L : List Nat) : Nat → List Bool
  | 0 => List.replicate l.length false
  | t + 1 => (marks l L t).set (L.getD t 0) (flag l L t)
theorem marks_length (l : List Rw) (L : List Nat) : ∀ t, (marks l L t).length = l.length
  | 0 => by simp [marks]
  | t + 1 => by rw [marks, List.length_set, marks_length l L t]
theorem rd_map (L : List Nat) (t : Nat) (h : t < L.length) : rd (L.map Int.ofNat) (t : Int) = ((L.getD t 0 : Nat) : Int) := by
  unfold rd
  simp [List.getD_eq_getElem?_getD, h]
theorem mark_ev (h : Right c l) (L : List Nat) (hL : L.Perm (List.range l.length)) (r : List Col × List Rw × Int)
    (hlast : Ev (fun k => value_Distinct.l2 k (marks l L l.length) l (l.length : Int) 0 c ([] : List Rw)) r) :
    ∀ d t, t + d = l.length → Ev (fun k => value_Distinct.l1 k (L.map Int.ofNat) (marks l L t) (L.map Int.ofNat) (l.length : Int) (t : Int) c l) r := by
  have hlen : L.length = l.length := by rw [hL.length_eq]; simp
  have hin : ∀ t, t < l.length → L.getD t 0 < l.length := fun t ht => by
    have hm : L.getD t 0 ∈ L := by
      rw [List.getD_eq_getElem?_getD, List.getElem?_eq_getElem (by omega)]
      exact List.getElem_mem _
    simpa using hL.subset hm
  have hn := h.rows
  intro d
  induction d with
  | zero =>
    intro t ht
    obtain rfl : t = l.length := by omega
    refine Ev.step (fun k => ?_) hlast
    simp only [value_Distinct.l1]
    rw [if_neg (by omega)]
    have e : slices_CloneC.f c = some c := by unfold slices_CloneC.f; rw [if_pos ⟨h.c1, by have := h.c20; omega⟩]
    rw [e]
    rfl
  | succ d ih =>
    intro t ht
    have hq := hin t (by omega)
    have hr := rd_map L t (by omega)
    by_cases h0 : t = 0
    · subst h0
      refine Ev.step (fun k => ?_) (ih 1 (by omega))
      simp only [value_Distinct.l1]
      rw [if_pos (by omega), if_pos (by omega), if_pos (by simp; omega), if_pos (by rfl), hr, if_pos (by omega), if_pos (by rw [marks_length]; omega), w64s (n := l.length) (by omega) (by omega), Int.toNat_natCast]
      rfl
    · obtain ⟨s, rfl⟩ : ∃ s, t = s + 1 := ⟨t - 1, by omega⟩
      have hq2 := hin s (by omega)
      have hr2 := rd_map L s (by omega)
      have ew : wrap64 (((s + 1 : Nat) : Int) - 1) = (s : Int) := by rw [w64 (by omega) (by omega)]; omega
      obtain ⟨K, hK⟩ := ih (s + 2) (by omega)
      refine ⟨max K 21 + 1, fun k hk => ?_⟩
      obtain ⟨k, rfl⟩ : ∃ z_, k = z_ + 1 := ⟨k - 1, by omega⟩
      have hc := h.cmp hq2 hq k (by omega)
      unfold rowv rowAt at hc
      show value_Distinct.l1 (k + 1) _ _ _ _ _ _ _ = _
      simp only [value_Distinct.l1]
      rw [if_pos (by omega), if_pos (by omega), if_pos (by simp; omega), if_neg (by omega), ew, if_pos (by omega), if_pos (by simp; omega), hr, hr2, if_pos (by omega), if_pos (by omega), if_pos (by omega), if_pos (by omega), hc]
      simp only [Option.bind_some]
      rw [if_pos (by rw [marks_length]; omega), w64s (n := l.length) (by omega) (by omega), Int.toNat_natCast]
      have e : (marks l L (s + 1)).set (L.getD (s + 1) 0) (cmpR l (L.getD s 0) (L.getD (s + 1) 0) != 0) = marks l L (s + 2) := by
        show _ = (marks l L (s + 1)).set (L.getD (s + 1) 0) (flag l L (s + 1))
        have : flag l L (s + 1) = (cmpR l (L.getD s 0) (L.getD (s + 1) 0) != 0) := by unfold flag; simp
        rw [this]
      rw [e]
      exact hK k (by omega)
/-! ### what is kept -/
def kept (l : List Rw) (B : List Bool) (i : Nat) : List Rw := ((List.range i).filter fun j => B.getD j false).map (rowAt l)
theorem kept_succ (l : List Rw) (B : List Bool) (i : Nat) : kept l B (i + 1) = if B.getD i false = true then kept l B i ++ [rowAt l i] else kept l B i := by
  unfold kept
  rw [List.range_succ, List.filter_append, List.map_append]
  by_cases h : B.getD i false = true
  · rw [if_pos h, show List.filter (fun j => B.getD j false) [i] = [i] from by simp only [List.filter, h]]; rfl
  · rw [if_neg h, show List.filter (fun j => B.getD j false) [i] = [] from by simp only [List.filter, Bool.eq_false_iff.2 h]]; simp
theorem kept_le (l : List Rw) (B : List Bool) (i : Nat) : (kept l B i).length ≤ i := by
  unfold kept
  rw [List.length_map]
  exact Nat.le_trans (List.length_filter_le _ _) (by simp)
theorem keep_ev (h : Right c l) (B : List Bool) (hB : B.length = l.length) : ∀ d i, i + d = l.length → Ev (fun k => value_Distinct.l2 k B l (l.length : Int) (i : Int) c (kept l B i)) (c, kept l B l.length, 0) := by
  have hn := h.rows
  intro d
  induction d with
  | zero =>
    intro i hi
    obtain rfl : i = l.length := by omega
    refine Ev.step (f := fun _ => some _) (fun k => ?_) (Ev.now _)
    simp only [value_Distinct.l2]
    rw [if_neg (by omega)]
  | succ d ih =>
    intro i hi
    refine Ev.step (fun k => ?_) (ih (i + 1) (by omega))
    simp only [value_Distinct.l2]
    have er : rdOf false B (i : Int) = B.getD i false := rfl
    rw [if_pos (by omega), if_pos (by omega), if_pos (by omega), if_pos (by omega), er, kept_succ, w64s (n := l.length) (by omega) (by omega)]
    by_cases hb : B.getD i false = true
    · have hl := (h.at_ (show i < l.length by omega)).1
      have hc20 := h.c20
      have hk := kept_le l B i
      have ec : kit_Clone.f (rd_T50 l (i : Int)).f0 = some (rowv l i) := by
        unfold kit_Clone.f
        rw [if_pos (by unfold rowv rowAt at hl; rw [hl]; simp; omega)]
        rfl
      rw [if_pos hb, if_pos hb, ec]
      simp only [Option.bind_some]
      rw [if_pos (by omega)]
    · rw [if_neg hb, if_neg hb]
/-- Whether no earlier row is the same. -/
def fst (l : List Rw) (i : Nat) : Bool := (List.range i).all fun j => cmpR l j i != 0
def dist (l : List Rw) : List Rw := ((List.range l.length).filter (fst l)).map (rowAt l)
theorem fst_iff (l : List Rw) (i : Nat) : fst l i = true ↔ ∀ j, j < i → cmpR l j i ≠ 0 := by
  unfold fst
  simp
/-- The marks' cells: at the place L[t] stands its flag. -/
theorem marks_at (L : List Nat) (hnd : L.Nodup) (hlen : L.length = l.length) (hin : ∀ t, t < l.length → L.getD t 0 < l.length) : ∀ n, n ≤ l.length → ∀ t, t < n → (marks l L n).getD (L.getD t 0) false = flag l L t := by
  intro n
  induction n with
  | zero => intro _ t ht; omega
  | succ n ih =>
    intro hn t ht
    rw [marks]
    have hq := hin n (by omega)
    by_cases e : t = n
    · subst e
      rw [List.getD_eq_getElem?_getD, List.getElem?_set_self (by rw [marks_length]; exact hq)]
      rfl
    · have hne : L.getD n 0 ≠ L.getD t 0 := by
        intro he
        rw [List.getD_eq_getElem?_getD, List.getD_eq_getElem?_getD, List.getElem?_eq_getElem (by omega), List.getElem?_eq_getElem (by omega)] at he
        have := List.pairwise_iff_getElem.1 hnd t n (by omega) (by omega) (by omega)
        exact this he.symm
      rw [List.getD_eq_getElem?_getD, List.getElem?_set_ne hne, ← List.getD_eq_getElem?_getD]
      exact ih (by omega) t (by omega)
theorem flag_fst (h : Right c l) (L : List Nat) (hp : L.Perm (List.range l.length)) (hs : L.Pairwise (ahd l)) (t : Nat) (ht : t < l.length) : flag l L t = fst l (L.getD t 0) := by
  have hlen : L.length = l.length := by rw [hp.length_eq]; simp
  have hin : ∀ t, t < l.length → L.getD t 0 < l.length := fun t ht => by
    have hm : L.getD t 0 ∈ L := by
      rw [List.getD_eq_getElem?_getD, List.getElem?_eq_getElem (by omega)]
      exact List.getElem_mem _
    simpa using hp.subset hm
  have hon : ∀ j, j < l.length → ∃ s, s < l.length ∧ L.getD s 0 = j := fun j hj => by
    have hm : j ∈ L := hp.symm.subset (by simpa using hj)
    obtain ⟨s, hs⟩ := List.getElem?_of_mem hm
    have hlt := (List.getElem?_eq_some_iff.1 hs).1
    exact ⟨s, by omega, by rw [List.getD_eq_getElem?_getD, hs]; rfl⟩
  have ha : ∀ s t, s < t → t < l.length → ahd l (L.getD s 0) (L.getD t 0) := fun s t hst htl => by
    have := List.pairwise_iff_getElem.1 hs s t (by omega) (by omega) hst
    rw [List.getD_eq_getElem?_getD, List.getD_eq_getElem?_getD, List.getElem?_eq_getElem (by omega), List.getElem?_eq_getElem (by omega)]
    exact this
  have has : ∀ i j, i < l.length → j < l.length → ahd l i j → ahd l j i → False := fun i j hi hj h1 h2 => by
    have := h.neg hi hj
    unfold ahd at h1 h2
    omega
  rw [Bool.eq_iff_iff, fst_iff]
  have hi := hin t ht
  constructor
  · intro hf j hj hc
    obtain ⟨s, hsl, hsj⟩ := hon j (by omega)
    have hji : ahd l j (L.getD t 0) := .inr ⟨hc, hj⟩
    have hst : s < t := by
      rcases Nat.lt_trichotomy s t with q | q | q
      · exact q
      · subst q; omega
      · exfalso
        have := ha t s q hsl
        rw [hsj] at this
        exact has _ _ hi (by omega) this hji
    unfold flag at hf
    rw [Bool.or_eq_true, beq_iff_eq, bne_iff_ne] at hf
    rcases hf with hf | hf
    · omega
    · have hp1 := ha (t - 1) t (by omega) ht
      have hpl := hin (t - 1) (by omega)
      have hlt : cmpR l (L.getD (t - 1) 0) (L.getD t 0) < 0 := by unfold ahd at hp1; omega
      rcases Nat.lt_or_ge s (t - 1) with q | q
      · have := ha s (t - 1) q (by omega)
        rw [hsj] at this
        have hle : cmpR l j (L.getD (t - 1) 0) ≤ 0 := by unfold ahd at this; omega
        have := h.trans (show j < l.length by omega) hpl hi hle (by omega)
        omega
      · have : s = t - 1 := by omega
        rw [← this, hsj] at hlt
        omega
  · intro hf
    unfold flag
    rw [Bool.or_eq_true, beq_iff_eq, bne_iff_ne]
    by_cases h0 : t = 0
    · exact .inl h0
    · refine .inr fun hc => ?_
      have hp1 := ha (t - 1) t (by omega) ht
      unfold ahd at hp1
      exact hf (L.getD (t - 1) 0) (by omega) hc
theorem kept_dist (h : Right c l) (L : List Nat) (hp : L.Perm (List.range l.length)) (hs : L.Pairwise (ahd l)) : kept l (marks l L l.length) l.length = dist l := by
  have hlen : L.length = l.length := by rw [hp.length_eq]; simp
  have hin : ∀ t, t < l.length → L.getD t 0 < l.length := fun t ht => by
    have hm : L.getD t 0 ∈ L := by
      rw [List.getD_eq_getElem?_getD, List.getElem?_eq_getElem (by omega)]
      exact List.getElem_mem _
    simpa using hp.subset hm
  have hnd : L.Nodup := hp.nodup_iff.2 List.nodup_range
  unfold kept dist
  congr 1
  apply List.filter_congr
  intro i hi
  have hi2 : i < l.length := by simpa using hi
  have hm : i ∈ L := hp.symm.subset hi
  obtain ⟨t, htt⟩ := List.getElem?_of_mem hm
  have hlt := (List.getElem?_eq_some_iff.1 htt).1
  have he : L.getD t 0 = i := by rw [List.getD_eq_getElem?_getD, htt]; rfl
  have := marks_at L hnd hlen hin l.length (Nat.le_refl _) t (by omega)
  rw [he] at this
  rw [this, flag_fst h L hp hs t (by omega), he]
/-- Distinct of the program. -/
def disS (c : List Col) (l : List Rw) : List Col × List Rw × Int := if ct c l = 0 then (c, dist l, 0) else ([], [], ct c l)
theorem Distinct_ev (c : List Col) (l : List Rw) (hf : TableFits c l) : Ev (fun k => value_Distinct.f k c l) (disS c l) := by
  unfold value_Distinct.f disS
  refine Ev.bind (CT c l hf) ?_
  by_cases h0 : ct c l = 0
  · simp only [if_pos h0]
    have h := right_of h0
    have hn := h.rows
    simp only [if_pos (show 0 ≤ (l.length : Int) by omega), if_pos (show ((l.length : Int) : Int).toNat ≤ 35184372088832 by omega), if_pos (show l.length ≤ 35184372088832 by omega), Option.bind_some, Int.toNat_natCast, List.length_replicate]
    obtain ⟨L, hs1, hp, hs⟩ := sortPlaces_ok h
    have hlen : L.length = l.length := by rw [hp.length_eq]; simp
    have e0 : List.replicate l.length (0 : Int) = fillAt l.length 0 := by simp [fillAt]
    have e1 := kept_dist h L hp hs
    rw [e0, ← e1]
    refine fill_ev _ l.length hn c l ?_ l.length 0 (by omega)
    rw [hs1]
    simp only [Option.bind_some, if_pos (show 0 ≤ (l.length : Int) by omega), if_pos (show ((l.length : Int) : Int).toNat ≤ 281474976710656 by omega), if_pos (show l.length ≤ 281474976710656 by omega), Int.toNat_natCast, List.length_map, hlen]
    have := mark_ev h L hp (c, kept l (marks l L l.length) l.length, 0) (keep_ev h (marks l L l.length) (marks_length l L _) l.length 0 (by omega)) l.length 0 (by omega)
    exact this
  · simp only [if_neg h0]
    exact Ev.now _
end Go.Proofs.YtokphfhihhdfpaaDoor.Pure
