/- The plain law of DistinctHasEachOnce: Distinct has each row once, and that of the first rows is the begin of that of all. For every table whose lengths fit an int, and every number. -/
import Derived.Test.YtokphfhihhdfpaaDoorPureDi
import Derived.Test.YtokphfhihhdfpaaDoorOpen
import Derived.Test.YtokphfhihhdfpaaDoorQxperistylelaw1DistinctHasEachOnce
namespace Go.Proofs.YtokphfhihhdfpaaDoor.Pure
open Go.RowKit Go.Proofs.YtokphfhihhdfpaaDoor.Q Go.Proofs.YtokphfhihhdfpaaDoor.Ext Go.Proofs.YtokphfhihhdfpaaDoorW.PrintWords Go.Proofs.YtokphfhihhdfpaaDoorW.PrintLast Go.Proofs.YtokphfhihhdfpaaDoorW.PrintMore
set_option linter.unusedVariables false
set_option linter.unusedSimpArgs false
theorem fitsD {c : List Col} {l : List Rw} (h1 : Opn.PColumns c) (h2 : Opn.PRows l) : TableFits c l :=
  ⟨fun x hx => (h1.2 x hx).1, h2.1, fun r hr => ⟨(h2.2 r hr).1, fun v hv => ((h2.2 r hr).2 v hv).2.2⟩⟩
theorem fits_take {c : List Col} {l : List Rw} (h : TableFits c l) (n : Nat) : TableFits c (l.take n) :=
  ⟨h.1, by rw [List.length_take]; have := h.2.1; omega, fun r hr => h.2.2 r (List.mem_of_mem_take hr)⟩
theorem rowAt_take {l : List Rw} {n i : Nat} (h : i < n) : rowAt (l.take n) i = rowAt l i := by
  show (l.take n).getD (i : Int).toNat _ = l.getD (i : Int).toNat _
  simp [List.getD_eq_getElem?_getD, List.getElem?_take, h]
theorem fst_take {l : List Rw} {n i : Nat} (h : i < n) : Pure.fst (l.take n) i = Pure.fst l i := by
  rw [Bool.eq_iff_iff, fst_iff, fst_iff]
  have e : ∀ j, j < i → cmpR (l.take n) j i = cmpR l j i := fun j hj => by
    unfold cmpR rowv
    rw [rowAt_take h, rowAt_take (by omega)]
  exact ⟨fun hf j hj => by rw [← e j hj]; exact hf j hj, fun hf j hj => by rw [e j hj]; exact hf j hj⟩
/-- Distinct of the first rows is the begin of that of all. -/
theorem dist_take (l : List Rw) (n : Nat) (hn : n ≤ l.length) : ∃ r, dist l = dist (l.take n) ++ r := by
  unfold dist
  rw [List.length_take, Nat.min_eq_left hn]
  obtain ⟨d, hd⟩ : ∃ d, l.length = n + d := ⟨l.length - n, by omega⟩
  rw [hd, List.range_add, List.filter_append, List.map_append]
  refine ⟨_, congrArg (· ++ _) ?_⟩
  rw [List.filter_congr (fun i hi => (fst_take (l := l) (n := n) (by simpa using hi)).symm)]
  apply List.map_congr_left
  intro i hi
  have : i < n := by simpa using (List.mem_filter.1 hi).1
  exact (rowAt_take this).symm
/-- No row of it is the same as an earlier one. -/
theorem dist_once {c : List Col} {l : List Rw} (h : Right c l) : (dist l).Pairwise fun a b => a.f0 ≠ b.f0 := by
  unfold dist
  rw [List.pairwise_map]
  have hp : ((List.range l.length).filter (Pure.fst l)).Pairwise (· < ·) := List.Pairwise.filter _ List.pairwise_lt_range
  refine hp.imp_of_mem fun {a b} ha hb hab he => ?_
  have ha1 : a < l.length := by simpa using (List.mem_filter.1 ha).1
  have hb1 : b < l.length := by simpa using (List.mem_filter.1 hb).1
  have hb2 := (fst_iff l b).1 (List.mem_filter.1 hb).2 a hab
  exact hb2 ((h.eq ha1 hb1).2 he)
theorem dist_mem {l : List Rw} {r : Rw} (h : r ∈ dist l) : r ∈ l := by
  unfold dist at h
  obtain ⟨i, hi, rfl⟩ := List.mem_map.1 h
  exact rowAt_mem (by simpa using (List.mem_filter.1 hi).1)
theorem ct_take {c : List Col} {l : List Rw} (h : ct c l = 0) (n : Nat) : ct c (l.take n) = 0 := by
  unfold ct at h ⊢
  split at h
  · rename_i hc
    rw [if_pos hc]
    split at h
    · cases h
    · rename_i h2
      rw [if_neg (by rw [List.length_take]; omega)]
      have hne : ∀ j, rowT c l j ≠ some 0 := fun j e => by
        unfold rowT at e
        split at e
        · cases e
        · rename_i hne; injection e with e; exact hne e
      have hn := scan_fin hne l.length 0 h
      refine scan_none _ _ fun j _ hj => ?_
      have hj2 : j < n ∧ j < l.length := by rw [List.length_take] at hj; omega
      have := hn j (Nat.zero_le _) (by omega)
      unfold rowT at this ⊢
      rw [rowAt_take hj2.1]
      exact this
  · rename_i hc
    exact absurd h hc
theorem DistinctHasEachOnce (c : List Col) (l : List Rw) (n : Int) (h1 : Opn.PColumns c) (h2 : Opn.PRows l) (hn : (Lit.int .i64 n).wf = true) :
    Ev (fun k => peristylelaw1_DistinctHasEachOnce.f k c l n) true := by
  have hf := fitsD h1 h2
  unfold peristylelaw1_DistinctHasEachOnce.f
  refine Ev.bind (Distinct_ev c l hf) ?_
  unfold disS
  have awk : ∀ f : Nat → Option Bool, (∀ k, f k = (peristylelaw1_awake.f k).bind fun t => some t) → Ev f true := fun f e => Ev.congr e (Ev.bind Ev_awake (Ev.now _))
  by_cases h0 : ct c l = 0
  · have hR := right_of h0
    simp only [if_pos h0, if_true]
    have early : Ev (fun k => peristylelaw1_DistinctHasEachOnce.j0 k n 0 true c l c (dist l)) true :=
      Ev.step (f := fun k => (peristylelaw1_awake.f k).bind fun t => some t) (fun k => by simp only [peristylelaw1_DistinctHasEachOnce.j0, if_true]) (Ev.bind Ev_awake (Ev.now _))
    by_cases hn0 : n < 0
    · simp only [if_pos hn0]; exact early
    · simp only [if_neg hn0]
      by_cases hn1 : n > (l.length : Int)
      · simp only [decide_eq_true hn1]; exact early
      · simp only [decide_eq_false hn1]
        obtain ⟨m, rfl⟩ : ∃ m : Nat, n = (m : Int) := ⟨n.toNat, by omega⟩
        have hm : m ≤ l.length := by omega
        have hdl : (dist l).length ≤ 2000 := by
          have := hR.rows
          unfold dist
          rw [List.length_map]
          have := List.length_filter_le (Pure.fst l) (List.range l.length)
          rw [List.length_range] at this
          omega
        have hrl : ∀ r ∈ dist l, r.f0.length ≤ 9223372036854775807 := fun r hr => (hf.2.2 r (dist_mem hr)).1
        refine Ev.step (f := fun k => peristylelaw1_DistinctHasEachOnce.l0 k (m : Int) 0 c l c (dist l)) (fun k => by simp only [peristylelaw1_DistinctHasEachOnce.j0, Bool.false_eq_true, if_false]) ?_
        -- the second table
        have hct := ct_take h0 m
        obtain ⟨rest, hrest⟩ := dist_take l m hm
        have second : Ev (fun k => peristylelaw1_DistinctHasEachOnce.l0 k (m : Int) ((dist l).length : Int) c l c (dist l)) true := by
          refine Ev.step (f := fun k => (value_Distinct.f k c (l.take m)).bind fun bt119 => (if bt119.2.2 = 0 then (peristylelaw1_DistinctHasEachOnce.j3 k (decide ((bt119.2.1.length : Int) > ((dist l).length : Int))) c (dist l) bt119.1 bt119.2.1) else (peristylelaw1_DistinctHasEachOnce.j3 k true c (dist l) bt119.1 bt119.2.1))) (fun k => ?_) ?_
          · simp only [peristylelaw1_DistinctHasEachOnce.l0]
            rw [if_neg (by omega), if_pos (by omega), if_pos (by omega), Int.toNat_natCast]
          · refine Ev.bind (Distinct_ev c (l.take m) (fits_take hf m)) ?_
            unfold disS
            simp only [if_pos hct, if_true]
            have hle : ¬ ((dist (l.take m)).length : Int) > ((dist l).length : Int) := by rw [hrest, List.length_append]; omega
            simp only [decide_eq_false hle]
            refine Ev.step (f := fun k => peristylelaw1_DistinctHasEachOnce.l2 k 0 c (dist l) c (dist (l.take m))) (fun k => by simp only [peristylelaw1_DistinctHasEachOnce.j3, Bool.false_eq_true, if_false]) ?_
            have key : ∀ d i, i + d = (dist (l.take m)).length → Ev (fun k => peristylelaw1_DistinctHasEachOnce.l2 k (i : Int) c (dist l) c (dist (l.take m))) true := by
              intro d
              induction d with
              | zero =>
                intro i hi
                refine Ev.step (f := fun k => (peristylelaw1_awake.f k).bind fun t => some t) (fun k => ?_) (Ev.bind Ev_awake (Ev.now _))
                simp only [peristylelaw1_DistinctHasEachOnce.l2]
                rw [if_neg (by omega)]
              | succ d ih =>
                intro i hi
                have hlen : (dist (l.take m)).length ≤ (dist l).length := by rw [hrest, List.length_append]; omega
                have er : rowAt (dist l) i = rowAt (dist (l.take m)) i := by
                  show (dist l).getD (i : Int).toNat _ = (dist (l.take m)).getD (i : Int).toNat _
                  rw [hrest]
                  simp [List.getD_eq_getElem?_getD, List.getElem?_append_left (show i < (dist (l.take m)).length by omega)]
                have hs : same (rowAt (dist l) i).f0 (rowAt (dist (l.take m)) i).f0 = true := (same_iff _ _).2 (by rw [er])
                have hE := Same_ev (rowAt (dist l) i).f0 (rowAt (dist (l.take m)) i).f0 (hrl _ (rowAt_mem (by omega)))
                rw [hs] at hE
                refine Ev.step (f := fun k => (peristyleref1_SameRow.f k (rowAt (dist l) i).f0 (rowAt (dist (l.take m)) i).f0).bind fun t129 => if t129 = true then peristylelaw1_DistinctHasEachOnce.l2 k ((i + 1 : Nat) : Int) c (dist l) c (dist (l.take m)) else none) (fun k => ?_) (Ev.bind hE ?_)
                · simp only [peristylelaw1_DistinctHasEachOnce.l2]
                  rw [if_pos (by omega), if_pos (by omega), if_pos (by omega), w64s (n := 2000) (by omega) (by omega)]
                · simp only [if_true]; exact ih (i + 1) (by omega)
            exact key (dist (l.take m)).length 0 (by omega)
        -- each once
        have hon := List.pairwise_iff_getElem.1 (dist_once hR)
        have hne : ∀ i j, i < j → j < (dist l).length → same (rowAt (dist l) j).f0 (rowAt (dist l) i).f0 = false := fun i j hij hj => by
          have := hon i j (by omega) hj hij
          cases hs : same (rowAt (dist l) j).f0 (rowAt (dist l) i).f0 with
          | false => rfl
          | true =>
            exfalso
            have e := (same_iff _ _).1 hs
            have e1 : rowAt (dist l) i = (dist l)[i] := by
              show (dist l).getD (i : Int).toNat _ = _
              simp [List.getD_eq_getElem?_getD, show i < (dist l).length by omega]
            have e2 : rowAt (dist l) j = (dist l)[j] := by
              show (dist l).getD (j : Int).toNat _ = _
              simp [List.getD_eq_getElem?_getD, hj]
            rw [e1, e2] at e
            exact this e.symm
        have inner : ∀ i, i < (dist l).length → Ev (fun k => peristylelaw1_DistinctHasEachOnce.l0 k (m : Int) ((i + 1 : Nat) : Int) c l c (dist l)) true → ∀ d j, j + d = i → Ev (fun k => peristylelaw1_DistinctHasEachOnce.l1 k (m : Int) (i : Int) (j : Int) c l c (dist l)) true := by
          intro i hi hnext d
          induction d with
          | zero =>
            intro j hj
            refine Ev.step (fun k => ?_) hnext
            simp only [peristylelaw1_DistinctHasEachOnce.l1]
            rw [if_neg (by omega), w64s (n := 2000) (by omega) (by omega)]
          | succ d ih =>
            intro j hj
            have hE := Same_ev (rowAt (dist l) i).f0 (rowAt (dist l) j).f0 (hrl _ (rowAt_mem hi))
            rw [hne j i (by omega) hi] at hE
            refine Ev.step (f := fun k => (peristyleref1_SameRow.f k (rowAt (dist l) i).f0 (rowAt (dist l) j).f0).bind fun t114 => if t114 = true then none else peristylelaw1_DistinctHasEachOnce.l1 k (m : Int) (i : Int) ((j + 1 : Nat) : Int) c l c (dist l)) (fun k => ?_) (Ev.bind hE ?_)
            · simp only [peristylelaw1_DistinctHasEachOnce.l1]
              rw [if_pos (by omega), if_pos (by omega), if_pos (by omega), if_pos (by omega), if_pos (by omega), w64s (n := 2000) (by omega) (by omega)]
            · simp only [Bool.false_eq_true, if_false]; exact ih (j + 1) (by omega)
        have outer : ∀ d i, i + d = (dist l).length → Ev (fun k => peristylelaw1_DistinctHasEachOnce.l0 k (m : Int) (i : Int) c l c (dist l)) true := by
          intro d
          induction d with
          | zero =>
            intro i hi
            obtain rfl : i = (dist l).length := by omega
            exact second
          | succ d ih =>
            intro i hi
            refine Ev.step (f := fun k => peristylelaw1_DistinctHasEachOnce.l1 k (m : Int) (i : Int) 0 c l c (dist l)) (fun k => ?_) ?_
            · simp only [peristylelaw1_DistinctHasEachOnce.l0]
              rw [if_pos (by omega)]
            · exact inner i (by omega) (ih (i + 1) (by omega)) i 0 (by omega)
        exact outer (dist l).length 0 (by omega)
  · simp only [if_neg h0]
    refine Ev.step (f := fun k => (peristylelaw1_awake.f k).bind fun t => some t) (fun k => ?_) (Ev.bind Ev_awake (Ev.now _))
    simp only [peristylelaw1_DistinctHasEachOnce.j0, if_true]
    rw [if_neg h0, if_pos (by rfl)]
end Go.Proofs.YtokphfhihhdfpaaDoor.Pure
