-- Written by a program of this claim (after the kit's printer) out of the translation. Not trusted: Lean checks it.
import Derived.Test.YtokphfhihhdfpaaDoorQx0
import Derived.Test.YtokphfhihhdfpaaDoorQxRefOrder
namespace Go.Proofs.YtokphfhihhdfpaaDoor.Q
open Go.RowKit Go.Proofs.YtokphfhihhdfpaaDoorW.PrintWords Go.Proofs.YtokphfhihhdfpaaDoorW.PrintLast Go.Proofs.YtokphfhihhdfpaaDoorW.PrintMore
open Go.Proofs.YtokphfhihhdfpaaDoor.Ext
attribute [local go_sem] max2_int min2_int max_two min_two max_three min_three max_four min_four   -- for this text's walks alone
set_option linter.unusedVariables false
set_option linter.unusedSimpArgs false
theorem blkNe_peristyleref1ByKeys {w : World} {p : Addr} {v : Value} {g : Nat} (h : w.cell? p = some v) (hg : w.heap.size ≤ g) : p.block ≠ g := Nat.ne_of_lt (Nat.lt_of_lt_of_le (World.block_lt_of_cell? _ _ h) hg)

/-! ### peristyleref1_ByKeys: function 100 -/
mutual
def peristyleref1_ByKeys.l0 : Nat → List (S138) → Int → List (S23) → List (S23) → Option (Int)
  | 0, _, _, _, _ => none
  | k + 1, x0, x7, x102000, x103000 => if x7 < (x0.length : Int) then (if 0 ≤ x7 then (if 0 ≤ ((rd_T138 x0 x7).f0) then (if ((rd_T138 x0 x7).f0) < (x102000.length : Int) then (if ((rd_T138 x0 x7).f0) < (x103000.length : Int) then ((peristyleref1_Order.f ((rd_T23 x102000 ((rd_T138 x0 x7).f0)).f0) ((rd_T23 x102000 ((rd_T138 x0 x7).f0)).f1) ((rd_T23 x102000 ((rd_T138 x0 x7).f0)).f2) ((rd_T23 x103000 ((rd_T138 x0 x7).f0)).f0) ((rd_T23 x103000 ((rd_T138 x0 x7).f0)).f1) ((rd_T23 x103000 ((rd_T138 x0 x7).f0)).f2)).bind fun t109 => (if t109 = 0 then (peristyleref1_ByKeys.l0 k x0 (wrap64 (x7 + 1)) x102000 x103000) else (if ((rd_T23 x102000 ((rd_T138 x0 x7).f0)).f0) = 0 then (peristyleref1_ByKeys.j1 k x0 x7 t109 true) else (peristyleref1_ByKeys.j1 k x0 x7 t109 (((rd_T23 x103000 ((rd_T138 x0 x7).f0)).f0) == 0))))) else (none)) else (none)) else (none)) else (none)) else (some 0)
def peristyleref1_ByKeys.j1 : Nat → List (S138) → Int → Int → Bool → Option (Int)
  | 0, _, _, _, _ => none
  | k + 1, x0, x7, x10, x47 => if x47 = true then (if 0 ≤ x7 then (if x7 < (x0.length : Int) then (if (rd_T138 x0 x7).f2 = true then (some x10) else (some (wrap64 (-x10)))) else (none)) else (none)) else (if 0 ≤ x7 then (if x7 < (x0.length : Int) then (if (rd_T138 x0 x7).f1 = true then (some (wrap64 (-x10))) else (some x10)) else (none)) else (none))
end
def peristyleref1_ByKeys.f (k : Nat) (l0 : List (S138)) (l1_0 : List (S23)) (l2_0 : List (S23)) : Option (Int) := peristyleref1_ByKeys.l0 k l0 0 l1_0 l2_0
theorem peristyleref1_ByKeys.mono_l : ∀ k, (∀ y0 y1 y2 y3, LeO (peristyleref1_ByKeys.l0 k y0 y1 y2 y3) (peristyleref1_ByKeys.l0 (k + 1) y0 y1 y2 y3)) ∧ (∀ y0 y1 y2 y3, LeO (peristyleref1_ByKeys.j1 k y0 y1 y2 y3) (peristyleref1_ByKeys.j1 (k + 1) y0 y1 y2 y3))
  | 0 => ⟨fun _ _ _ _ r h => by simp [peristyleref1_ByKeys.l0] at h, fun _ _ _ _ r h => by simp [peristyleref1_ByKeys.j1] at h⟩
  | k + 1 => by
    obtain ⟨ih0, ih1⟩ := peristyleref1_ByKeys.mono_l k
    refine ⟨?_, ?_⟩
    · intro y0 y1 y2 y3
      unfold peristyleref1_ByKeys.l0
      repeat' first
      | (with_reducible exact ih0 _ _ _ _)
      | (with_reducible exact ih1 _ _ _ _)
      | (with_reducible exact LeO.refl _)
      | (with_reducible exact LeO.none _)
      | (with_reducible refine LeO.ite ?_ ?_)
      | (with_reducible refine LeO.bind ?_ (fun _ => ?_))
      | exact ih0 _ _ _ _
      | exact ih1 _ _ _ _
      | exact LeO.none _
      | refine LeO.ite ?_ ?_
      | refine LeO.bind ?_ (fun _ => ?_)
    · intro y0 y1 y2 y3
      unfold peristyleref1_ByKeys.j1
      repeat' first
      | (with_reducible exact ih0 _ _ _ _)
      | (with_reducible exact ih1 _ _ _ _)
      | (with_reducible exact LeO.refl _)
      | (with_reducible exact LeO.none _)
      | (with_reducible refine LeO.ite ?_ ?_)
      | (with_reducible refine LeO.bind ?_ (fun _ => ?_))
      | exact ih0 _ _ _ _
      | exact ih1 _ _ _ _
      | exact LeO.none _
      | refine LeO.ite ?_ ?_
      | refine LeO.bind ?_ (fun _ => ?_)
theorem peristyleref1_ByKeys.mono : ∀ a0 a1 a2 k, LeO (peristyleref1_ByKeys.f k a0 a1 a2) (peristyleref1_ByKeys.f (k + 1) a0 a1 a2) := by
  intro a0 a1 a2 k
  obtain ⟨ih0, ih1⟩ := peristyleref1_ByKeys.mono_l k
  unfold peristyleref1_ByKeys.f
  repeat' first
      | (with_reducible exact ih0 _ _ _ _)
      | (with_reducible exact ih1 _ _ _ _)
      | (with_reducible exact LeO.refl _)
      | (with_reducible exact LeO.none _)
      | (with_reducible refine LeO.ite ?_ ?_)
      | (with_reducible refine LeO.bind ?_ (fun _ => ?_))
      | exact ih0 _ _ _ _
      | exact ih1 _ _ _ _
      | exact LeO.none _
      | refine LeO.ite ?_ ?_
      | refine LeO.bind ?_ (fun _ => ?_)
def peristyleref1_ByKeys.T4 : Bool × List (List Nat × List Nat) := (true, [([], []), ([0], [0]), ([], []), ([], []), ([2, 3], [2, 3]), ([4], [4]), ([5], [5]), ([1, 6], [1, 6]), ([7], [7]), ([], []), ([9], [9]), ([], []), ([], []), ([11, 12], [11, 12]), ([13], [13]), ([14], [14]), ([10, 15], [10, 15]), ([16], [16]), ([], []), ([], []), ([18, 8, 0, 1, 2, 3, 4, 5, 6, 7, 8, 18, 19], [8, 18]), ([19, 17, 20, 0, 1, 2, 3, 4, 5, 6, 7, 8, 9, 10, 11, 12, 13, 14, 15, 16, 17, 18, 19, 20], [17, 19])])
def peristyleref1_ByKeys.B4 : List Nat := [0, 1, 0, 0, 12, 28, 60, 127, 255, 0, 512, 0, 0, 6144, 14336, 30720, 65024, 130560, 0, 0, 786943, 2097151]
theorem peristyleref1_ByKeys.tab4 : rtab .any (opsOf Tryd.f100 4) = peristyleref1_ByKeys.T4 := by kernel_rfl
theorem peristyleref1_ByKeys.bits4 : waitsOk peristyleref1_ByKeys.T4.2 peristyleref1_ByKeys.B4 = true := by kernel_rfl
set_option maxHeartbeats 8000000 in
set_option maxRecDepth 100000 in
theorem peristyleref1_ByKeys.calls (k : Nat) (A0 : Option Addr) (c0 : Nat) (l0 : List (S138)) (A1_0 : Option Addr) (c1_0 : Nat) (l1_0 : List (S23)) (A2_0 : Option Addr) (c2_0 : Nat) (l2_0 : List (S23)) (r : Int) (w : World) (hr0 : Kd.C k138 w A0 l0.length l0) (hc0 : l0.length ≤ c0) (hr1_0 : Kd.C k23 w A1_0 l1_0.length l1_0) (hc1_0 : l1_0.length ≤ c1_0) (hr2_0 : Kd.C k23 w A2_0 l2_0.length l2_0) (hc2_0 : l2_0.length ≤ c2_0) (h : peristyleref1_ByKeys.f k l0 l1_0 l2_0 = some r) :
    Calls Tryd.prog 100 #[.slice A0 l0.length c0, .agg #[.slice A1_0 l1_0.length c1_0], .agg #[.slice A2_0 l2_0.length c2_0]] w fun e w' => e = .returned (.int .i64 r) ∧ Below w.heap.size w w' := by
  have hu50 := Tryd.underlying50
  have hu23 := Tryd.underlying23
  have HR0 := Aside0.mk hr0
  have HC0 := Aside0.mk hc0
  clear hr0 hc0
  have HR1_0 := Aside0.mk hr1_0
  have HC1_0 := Aside0.mk hc1_0
  clear hr1_0 hc1_0
  have HR2_0 := Aside0.mk hr2_0
  have HC2_0 := Aside0.mk hc2_0
  clear hr2_0 hc2_0
  have HB := Aside0.mk (Below.refl w.heap.size w)
  have H : (peristyleref1_ByKeys.l0 k l0 0 l1_0 l2_0) = some r := h
  clear h
  have H' := Aside0.mk H
  clear H
  go_enter Tryd.func100, Tryd.ntmps100
  go_wp2_with (first | ((with_reducible refine gate_dst (N := 4) rfl ?_); refine box_event ?hg (N := 4) ?hd (cs := #[.slice A1_0 l1_0.length c1_0]) (t := 50) ?hr ?_; (case hd => rfl); (case hg => rfl); (case hr => first | (go_simp; done) | (go_simp; rfl)); intro gb101 hg w4 hbox hb; have n0_ := Aside0.mk (below_step (by repeat (first | (with_reducible first | exact HB.out | apply below_alloc | apply pw_below_drewN | apply below_drew1) | exact HB.out)) hb); have n1_ := Aside0.mk (hbox); have n2_ := Aside0.mk ((by rw [hg]; exact (below_size (by repeat (first | (with_reducible first | exact HB.out | apply below_alloc | apply pw_below_drewN | apply below_drew1) | exact HB.out))) : w.heap.size ≤ gb101)); have n3_ := n2_; clear HB; have HB := n0_; have BK101 := n1_; have GW101 := n2_; have GE101 := n3_; clear n0_ n1_ n2_ n3_; clear hb hbox hg) | ((with_reducible refine gate_dst (N := 5) rfl ?_); refine box_event ?hg (N := 5) ?hd (cs := #[.slice A2_0 l2_0.length c2_0]) (t := 50) ?hr ?_; (case hd => rfl); (case hg => rfl); (case hr => first | (go_simp; done) | (go_simp; rfl)); intro gb102 hg w5 hbox hb; have n0_ := Aside0.mk (blk_below (g := gb101) (o := .cells #[.slice A1_0 l1_0.length c1_0] 50 (0, 0)) (by (with_reducible repeat (first | refine blk_drewN ?_ _ | refine blk_drew ?_ | refine blk_alloc ?_ _)); exact BK101.out) hb); have n1_ := Aside0.mk (below_step (by repeat (first | (with_reducible first | exact HB.out | apply below_alloc | apply pw_below_drewN | apply below_drew1 | refine below_set ?_ GE101.out) | exact HB.out)) hb); have n2_ := Aside0.mk (hbox); have n3_ := Aside0.mk ((by rw [hg]; exact (below_size (by repeat (first | (with_reducible first | exact HB.out | apply below_alloc | apply pw_below_drewN | apply below_drew1 | refine below_set ?_ GE101.out) | exact HB.out))) : w.heap.size ≤ gb102)); have n4_ := n3_; have n5_ := Aside0.mk ((by rw [hg]; exact Nat.ne_of_lt (blk_lt (g := gb101) (o := .cells #[.slice A1_0 l1_0.length c1_0] 50 (0, 0)) (by (with_reducible repeat (first | refine blk_drewN ?_ _ | refine blk_drew ?_ | refine blk_alloc ?_ _)); exact BK101.out)) : gb101 ≠ gb102)); have n6_ := Aside0.mk ((by rw [hg]; exact Nat.ne_of_gt (blk_lt (g := gb101) (o := .cells #[.slice A1_0 l1_0.length c1_0] 50 (0, 0)) (by (with_reducible repeat (first | refine blk_drewN ?_ _ | refine blk_drew ?_ | refine blk_alloc ?_ _)); exact BK101.out)) : gb102 ≠ gb101)); clear BK101; clear HB; have BK101 := n0_; have HB := n1_; have BK102 := n2_; have GW102 := n3_; have GE102 := n4_; have NB101_102 := n5_; have NB102_101 := n6_; clear n0_ n1_ n2_ n3_ n4_ n5_ n6_; clear hb hbox hg))
  go_loopg [7] k (fun kq v7 w' => ∃ (x7_1 : Int), v7 = .int .i64 x7_1 ∧ Aside0 (peristyleref1_ByKeys.l0 kq l0 x7_1 l1_0 l2_0 = some r) ∧ Aside0 (kq ≤ k) ∧ Aside0 (w'.heap[gb101]? = some (.cells #[(.slice A1_0 l1_0.length c1_0)] 50 (0, 0))) ∧ Aside0 (w'.heap[gb102]? = some (.cells #[(.slice A2_0 l2_0.length c2_0)] 50 (0, 0))) ∧ Aside0 (Below w.heap.size w w'))
  case atStart => exact ⟨(0), (by first | rfl | (simp; done) | (simp [*]; done) | (simp [Go.bneNilE]; done) | (simp [*, Go.bneNilE]; done)), H', ⟨Nat.le_refl _⟩, ⟨by (with_reducible repeat (first | refine blk_drewN ?_ _ | refine blk_drew ?_ | refine blk_alloc ?_ _)); exact BK101.out⟩, ⟨by (with_reducible repeat (first | refine blk_drewN ?_ _ | refine blk_drew ?_ | refine blk_alloc ?_ _)); exact BK102.out⟩, ⟨by repeat (first | (with_reducible first | exact HB.out | apply below_alloc | apply pw_below_drewN | apply below_drew1 | refine below_set ?_ GE101.out | refine below_set ?_ GE102.out) | exact HB.out)⟩⟩
  case round =>
    clear H'
    try clear c1
    try clear c2
    try clear p2
    obtain ⟨x7_1, rfl, HA, HK1, BK101, BK102, HB⟩ := hrel
    cases gk with
    | zero => exact absurd HA.out (by simp [peristyleref1_ByKeys.l0])
    | succ k1 =>
      have H := HA.out
      clear HA
      simp only [peristyleref1_ByKeys.l0] at H
      by_cases c6 : x7_1 < (l0.length : Int)
      · rw [if_pos c6] at H
        have c6b0 : decide (x7_1 < (l0.length : Int)) = true := decide_eq_true c6
        clear c6
        by_cases c7 : 0 ≤ x7_1
        · rw [if_pos c7] at H
          have c7b0 : decide (0 ≤ x7_1) = true := decide_eq_true c7
          clear c7
          by_cases c8 : 0 ≤ ((rd_T138 l0 x7_1).f0)
          · rw [if_pos c8] at H
            have c8b0 : decide (0 ≤ ((rd_T138 l0 x7_1).f0)) = true := decide_eq_true c8
            clear c8
            by_cases c9 : ((rd_T138 l0 x7_1).f0) < (l1_0.length : Int)
            · rw [if_pos c9] at H
              have c9b0 : decide (((rd_T138 l0 x7_1).f0) < (l1_0.length : Int)) = true := decide_eq_true c9
              clear c9
              by_cases c10 : ((rd_T138 l0 x7_1).f0) < (l2_0.length : Int)
              · rw [if_pos c10] at H
                have c10b0 : decide (((rd_T138 l0 x7_1).f0) < (l2_0.length : Int)) = true := decide_eq_true c10
                clear c10
                replace H := Option.bind_eq_some_iff.mp H
                obtain ⟨t109, A110, H⟩ := H
                replace H : (if t109 = 0 then (peristyleref1_ByKeys.l0 k1 l0 (wrap64 (x7_1 + 1)) l1_0 l2_0) else (if ((rd_T23 l1_0 ((rd_T138 l0 x7_1).f0)).f0) = 0 then (peristyleref1_ByKeys.j1 k1 l0 x7_1 t109 true) else (peristyleref1_ByKeys.j1 k1 l0 x7_1 t109 (((rd_T23 l2_0 ((rd_T138 l0 x7_1).f0)).f0) == 0)))) = some r := H
                have A11 := Aside0.mk A110
                clear A110
                by_cases c12 : t109 = 0
                · rw [if_pos c12] at H
                  have c12b0 : (t109 == 0) = true := beq_iff_eq.mpr c12
                  have c12b1 : (t109 != 0) = false := bne_eq_false_iff_eq.mpr c12
                  clear c12
                  have H' := Aside0.mk H
                  clear H
                  try go_wp2
                  have n0_ := Aside0.mk (blk_drew BK101.out)
                  have n1_ := Aside0.mk (blk_drew BK102.out)
                  have n2_ := Aside0.mk (below_drew1 HB.out)
                  clear BK101
                  clear BK102
                  clear HB
                  have BK101 := n0_
                  have BK102 := n1_
                  have HB := n2_
                  clear n0_ n1_ n2_
                  have p103 : 0 ≤ (x7_1 : Int) := of_decide_eq_true (by first | (with_reducible assumption) | assumption)
                  have q103 : x7_1 < (l0.length : Int) := of_decide_eq_true (by first | (with_reducible assumption) | assumption)
                  obtain ⟨ad103, e103, hx103_0, hx103_1, hx103_2⟩ := at_T138 HR0.out x7_1 p103 q103
                  have hw103_2 := hx103_2
                  have hw103_1 := hx103_1
                  have hw103_0 := hx103_0
                  cases e103
                  replace hx103_0 := (HB.out.cell (World.block_lt_of_cell? w _ hx103_0)).trans hx103_0
                  replace hx103_1 := (HB.out.cell (World.block_lt_of_cell? w _ hx103_1)).trans hx103_1
                  replace hx103_2 := (HB.out.cell (World.block_lt_of_cell? w _ hx103_2)).trans hx103_2
                  replace p103 := eq_true p103
                  replace q103 := eq_true q103
                  have p104 : 0 ≤ (((rd_T138 l0 x7_1).f0) : Int) := of_decide_eq_true (by first | (with_reducible assumption) | assumption)
                  have q104 : ((rd_T138 l0 x7_1).f0) < (l1_0.length : Int) := of_decide_eq_true (by first | (with_reducible assumption) | assumption)
                  obtain ⟨ad104, e104, hx104_0, hx104_1, hx104_2⟩ := at_T23 HR1_0.out ((rd_T138 l0 x7_1).f0) p104 q104
                  have hw104_2 := hx104_2
                  have hw104_1 := hx104_1
                  have hw104_0 := hx104_0
                  cases e104
                  replace hx104_0 := (HB.out.cell (World.block_lt_of_cell? w _ hx104_0)).trans hx104_0
                  replace hx104_1 := (HB.out.cell (World.block_lt_of_cell? w _ hx104_1)).trans hx104_1
                  replace hx104_2 := (HB.out.cell (World.block_lt_of_cell? w _ hx104_2)).trans hx104_2
                  replace p104 := eq_true p104
                  replace q104 := eq_true q104
                  have p105 : 0 ≤ (x7_1 : Int) := of_decide_eq_true (by first | (with_reducible assumption) | assumption)
                  have q105 : x7_1 < (l0.length : Int) := of_decide_eq_true (by first | (with_reducible assumption) | assumption)
                  obtain ⟨ad105, e105, hx105_0, hx105_1, hx105_2⟩ := at_T138 HR0.out x7_1 p105 q105
                  have hw105_2 := hx105_2
                  have hw105_1 := hx105_1
                  have hw105_0 := hx105_0
                  obtain rfl : ad103 = ad105 := (by injection e105)
                  replace hx105_0 := (HB.out.cell (World.block_lt_of_cell? w _ hx105_0)).trans hx105_0
                  replace hx105_1 := (HB.out.cell (World.block_lt_of_cell? w _ hx105_1)).trans hx105_1
                  replace hx105_2 := (HB.out.cell (World.block_lt_of_cell? w _ hx105_2)).trans hx105_2
                  replace p105 := eq_true p105
                  replace q105 := eq_true q105
                  have p106 : 0 ≤ (((rd_T138 l0 x7_1).f0) : Int) := of_decide_eq_true (by first | (with_reducible assumption) | assumption)
                  have q106 : ((rd_T138 l0 x7_1).f0) < (l2_0.length : Int) := of_decide_eq_true (by first | (with_reducible assumption) | assumption)
                  obtain ⟨ad106, e106, hx106_0, hx106_1, hx106_2⟩ := at_T23 HR2_0.out ((rd_T138 l0 x7_1).f0) p106 q106
                  have hw106_2 := hx106_2
                  have hw106_1 := hx106_1
                  have hw106_0 := hx106_0
                  cases e106
                  replace hx106_0 := (HB.out.cell (World.block_lt_of_cell? w _ hx106_0)).trans hx106_0
                  replace hx106_1 := (HB.out.cell (World.block_lt_of_cell? w _ hx106_1)).trans hx106_1
                  replace hx106_2 := (HB.out.cell (World.block_lt_of_cell? w _ hx106_2)).trans hx106_2
                  replace p106 := eq_true p106
                  replace q106 := eq_true q106
                  refine start_ (n := 22) (S := fun w' => w'.cell? ⟨gb101, 0, none⟩ = some (.slice (some ad104) l1_0.length c1_0) ∧ w'.cell? ⟨gb102, 0, none⟩ = some (.slice (some ad106) l2_0.length c2_0) ∧ w'.cell? (ad103.add ((x7_1).toNat * 3)) = some (.int .i64 ((rd_T138 l0 x7_1).f0)) ∧ w'.cell? ⟨(ad103.add ((x7_1).toNat * 3)).block, (ad103.add ((x7_1).toNat * 3)).off + 1, none⟩ = some (.bool ((rd_T138 l0 x7_1).f1)) ∧ w'.cell? ⟨(ad103.add ((x7_1).toNat * 3)).block, (ad103.add ((x7_1).toNat * 3)).off + 2, none⟩ = some (.bool ((rd_T138 l0 x7_1).f2)) ∧ w'.cell? (ad104.add ((((rd_T138 l0 x7_1).f0)).toNat * 3)) = some (.int .i64 ((rd_T23 l1_0 ((rd_T138 l0 x7_1).f0)).f0)) ∧ w'.cell? ⟨(ad104.add ((((rd_T138 l0 x7_1).f0)).toNat * 3)).block, (ad104.add ((((rd_T138 l0 x7_1).f0)).toNat * 3)).off + 1, none⟩ = some (.int .i64 ((rd_T23 l1_0 ((rd_T138 l0 x7_1).f0)).f1)) ∧ w'.cell? ⟨(ad104.add ((((rd_T138 l0 x7_1).f0)).toNat * 3)).block, (ad104.add ((((rd_T138 l0 x7_1).f0)).toNat * 3)).off + 2, none⟩ = some (.string ((rd_T23 l1_0 ((rd_T138 l0 x7_1).f0)).f2)) ∧ w'.cell? (ad103.add ((x7_1).toNat * 3)) = some (.int .i64 ((rd_T138 l0 x7_1).f0)) ∧ w'.cell? ⟨(ad103.add ((x7_1).toNat * 3)).block, (ad103.add ((x7_1).toNat * 3)).off + 1, none⟩ = some (.bool ((rd_T138 l0 x7_1).f1)) ∧ w'.cell? ⟨(ad103.add ((x7_1).toNat * 3)).block, (ad103.add ((x7_1).toNat * 3)).off + 2, none⟩ = some (.bool ((rd_T138 l0 x7_1).f2)) ∧ w'.cell? (ad106.add ((((rd_T138 l0 x7_1).f0)).toNat * 3)) = some (.int .i64 ((rd_T23 l2_0 ((rd_T138 l0 x7_1).f0)).f0)) ∧ w'.cell? ⟨(ad106.add ((((rd_T138 l0 x7_1).f0)).toNat * 3)).block, (ad106.add ((((rd_T138 l0 x7_1).f0)).toNat * 3)).off + 1, none⟩ = some (.int .i64 ((rd_T23 l2_0 ((rd_T138 l0 x7_1).f0)).f1)) ∧ w'.cell? ⟨(ad106.add ((((rd_T138 l0 x7_1).f0)).toNat * 3)).block, (ad106.add ((((rd_T138 l0 x7_1).f0)).toNat * 3)).off + 2, none⟩ = some (.string ((rd_T23 l2_0 ((rd_T138 l0 x7_1).f0)).f2))) (ds := []) #[false, false, false, false, false, false, false, false, false, false, false, false, false, false, false, false, false, false, false, false, false, false] (by kernel_rfl) rfl rfl ⟨(blk_cell BK101.out 0).trans rfl, (blk_cell BK102.out 0).trans rfl, ((HB.out.cell (World.block_lt_of_cell? w _ hw103_0)).trans hw103_0), ((HB.out.cell (World.block_lt_of_cell? w _ hw103_1)).trans hw103_1), ((HB.out.cell (World.block_lt_of_cell? w _ hw103_2)).trans hw103_2), ((HB.out.cell (World.block_lt_of_cell? w _ hw104_0)).trans hw104_0), ((HB.out.cell (World.block_lt_of_cell? w _ hw104_1)).trans hw104_1), ((HB.out.cell (World.block_lt_of_cell? w _ hw104_2)).trans hw104_2), ((HB.out.cell (World.block_lt_of_cell? w _ hw105_0)).trans hw105_0), ((HB.out.cell (World.block_lt_of_cell? w _ hw105_1)).trans hw105_1), ((HB.out.cell (World.block_lt_of_cell? w _ hw105_2)).trans hw105_2), ((HB.out.cell (World.block_lt_of_cell? w _ hw106_0)).trans hw106_0), ((HB.out.cell (World.block_lt_of_cell? w _ hw106_1)).trans hw106_1), ((HB.out.cell (World.block_lt_of_cell? w _ hw106_2)).trans hw106_2)⟩ (fun hHeld => ?_); refine with_tabW peristyleref1_ByKeys.tab4 peristyleref1_ByKeys.bits4 (fun HT_ HW_ => ?_)
                  generalize wr.drew = w13 at BK101 BK102 HB hx103_0 hx103_1 hx103_2 hx104_0 hx104_1 hx104_2 hx105_0 hx105_1 hx105_2 hx106_0 hx106_1 hx106_2 hHeld ⊢
                  refine pure_ (i := 0) (N := some 17) (v := ?_) (a' := ?_) #[true, false, false, false, false, false, false, false, false, false, false, false, false, false, false, false, false, false, false, false, false, false] rfl rfl (any_of HT_.out (by kernel_rfl)) (fun _ _ _ h => h) (Or.inl ⟨by rfl, ?_⟩) ?_ ?_
                  rotate_left
                  · intro w'
                    go_simp
                    with_reducible rfl
                  rotate_left
                  · simp only [Act.put, List.setIfInBounds_toArray, List.set_cons_zero, List.set_cons_succ, i64_w, i32_w]
                    rfl
                  refine pure_ (i := 2) (N := some 19) (v := ?_) (a' := ?_) #[true, false, true, false, false, false, false, false, false, false, false, false, false, false, false, false, false, false, false, false, false, false] rfl rfl (any_of HT_.out (by kernel_rfl)) (fun _ _ _ h => h) (Or.inl ⟨by rfl, ?_⟩) ?_ ?_
                  rotate_left
                  · intro w'
                    go_simp
                    with_reducible rfl
                  rotate_left
                  · simp only [Act.put, List.setIfInBounds_toArray, List.set_cons_zero, List.set_cons_succ, i64_w, i32_w]
                    rfl
                  refine pure_ (i := 3) (N := some 20) (v := ?_) (a' := ?_) #[true, false, true, true, false, false, false, false, false, false, false, false, false, false, false, false, false, false, false, false, false, false] rfl rfl (any_of HT_.out (by kernel_rfl)) (fun _ _ _ h => h) (Or.inl ⟨by rfl, ?_⟩) ?_ ?_
                  rotate_left
                  · intro w'
                    go_simp
                    with_reducible rfl
                  rotate_left
                  · simp only [Act.put, List.setIfInBounds_toArray, List.set_cons_zero, List.set_cons_succ, i64_w, i32_w]
                    rfl
                  refine pure_ (i := 4) (N := some 21) (v := ?_) (a' := ?_) #[true, false, true, true, true, false, false, false, false, false, false, false, false, false, false, false, false, false, false, false, false, false] rfl rfl (any_of HT_.out (by kernel_rfl)) (fun _ _ _ h => h) (Or.inl ⟨by rfl, ?_⟩) ?_ ?_
                  rotate_left
                  · intro w'
                    go_simp
                    with_reducible rfl
                  rotate_left
                  · simp only [Act.put, List.setIfInBounds_toArray, List.set_cons_zero, List.set_cons_succ, i64_w, i32_w]
                    rfl
                  refine pure_ (i := 5) (N := some 22) (v := ?_) (a' := ?_) #[true, false, true, true, true, true, false, false, false, false, false, false, false, false, false, false, false, false, false, false, false, false] rfl rfl (any_of HT_.out (by kernel_rfl)) (fun _ _ _ h => h) (Or.inl ⟨by rfl, ?_⟩) ?_ ?_
                  rotate_left
                  · intro w'
                    go_simp
                    with_reducible rfl
                  rotate_left
                  · simp only [Act.put, List.setIfInBounds_toArray, List.set_cons_zero, List.set_cons_succ, i64_w, i32_w]
                    rfl
                  refine pure_ (i := 9) (N := some 26) (v := ?_) (a' := ?_) #[true, false, true, true, true, true, false, false, false, true, false, false, false, false, false, false, false, false, false, false, false, false] rfl rfl (any_of HT_.out (by kernel_rfl)) (fun _ _ _ h => h) (Or.inl ⟨by rfl, ?_⟩) ?_ ?_
                  rotate_left
                  · intro w'
                    go_simp
                    with_reducible rfl
                  rotate_left
                  · simp only [Act.put, List.setIfInBounds_toArray, List.set_cons_zero, List.set_cons_succ, i64_w, i32_w]
                    rfl
                  refine pure_ (i := 11) (N := some 28) (v := ?_) (a' := ?_) #[true, false, true, true, true, true, false, false, false, true, false, true, false, false, false, false, false, false, false, false, false, false] rfl rfl (any_of HT_.out (by kernel_rfl)) (fun _ _ _ h => h) (Or.inl ⟨by rfl, ?_⟩) ?_ ?_
                  rotate_left
                  · intro w'
                    go_simp
                    with_reducible rfl
                  rotate_left
                  · simp only [Act.put, List.setIfInBounds_toArray, List.set_cons_zero, List.set_cons_succ, i64_w, i32_w]
                    rfl
                  refine pure_ (i := 12) (N := some 29) (v := ?_) (a' := ?_) #[true, false, true, true, true, true, false, false, false, true, false, true, true, false, false, false, false, false, false, false, false, false] rfl rfl (any_of HT_.out (by kernel_rfl)) (fun _ _ _ h => h) (Or.inl ⟨by rfl, ?_⟩) ?_ ?_
                  rotate_left
                  · intro w'
                    go_simp
                    with_reducible rfl
                  rotate_left
                  · simp only [Act.put, List.setIfInBounds_toArray, List.set_cons_zero, List.set_cons_succ, i64_w, i32_w]
                    rfl
                  refine pure_ (i := 13) (N := some 30) (v := ?_) (a' := ?_) #[true, false, true, true, true, true, false, false, false, true, false, true, true, true, false, false, false, false, false, false, false, false] rfl rfl (any_of HT_.out (by kernel_rfl)) (fun _ _ _ h => h) (Or.inl ⟨by rfl, ?_⟩) ?_ ?_
                  rotate_left
                  · intro w'
                    go_simp
                    with_reducible rfl
                  rotate_left
                  · simp only [Act.put, List.setIfInBounds_toArray, List.set_cons_zero, List.set_cons_succ, i64_w, i32_w]
                    rfl
                  refine pure_ (i := 14) (N := some 31) (v := ?_) (a' := ?_) #[true, false, true, true, true, true, false, false, false, true, false, true, true, true, true, false, false, false, false, false, false, false] rfl rfl (any_of HT_.out (by kernel_rfl)) (fun _ _ _ h => h) (Or.inl ⟨by rfl, ?_⟩) ?_ ?_
                  rotate_left
                  · intro w'
                    go_simp
                    with_reducible rfl
                  rotate_left
                  · simp only [Act.put, List.setIfInBounds_toArray, List.set_cons_zero, List.set_cons_succ, i64_w, i32_w]
                    rfl
                  refine take_ (i := 1) (N := some 18) (v := ?_) (a' := ?_) #[true, true, true, true, true, true, false, false, false, true, false, true, true, true, true, false, false, false, false, false, false, false] rfl rfl (take_ofW HT_.out HW_.out (by kernel_rfl)) (fun _ _ _ h => h) (Or.inl ⟨by rfl, ?_⟩) hHeld ?_ ?_
                  rotate_left
                  · rintro w' ⟨s0, s1, s2, s3, s4, s5, s6, s7, s8, s9, s10, s11, s12, s13⟩
                    go_simp
                    with_reducible rfl
                  rotate_left
                  · simp only [Act.put, List.setIfInBounds_toArray, List.set_cons_zero, List.set_cons_succ, i64_w, i32_w]
                    rfl
                  refine take_ (i := 6) (N := some 23) (v := ?_) (a' := ?_) #[true, true, true, true, true, true, true, false, false, true, false, true, true, true, true, false, false, false, false, false, false, false] rfl rfl (take_ofW HT_.out HW_.out (by kernel_rfl)) (fun _ _ _ h => h) (Or.inl ⟨by rfl, ?_⟩) hHeld ?_ ?_
                  rotate_left
                  · rintro w' ⟨s0, s1, s2, s3, s4, s5, s6, s7, s8, s9, s10, s11, s12, s13⟩
                    go_simp
                    with_reducible rfl
                  rotate_left
                  · simp only [Act.put, List.setIfInBounds_toArray, List.set_cons_zero, List.set_cons_succ, i64_w, i32_w]
                    rfl
                  refine pure_ (i := 7) (N := some 24) (v := ?_) (a' := ?_) #[true, true, true, true, true, true, true, true, false, true, false, true, true, true, true, false, false, false, false, false, false, false] rfl rfl (any_of HT_.out (by kernel_rfl)) (fun _ _ _ h => h) (Or.inl ⟨by rfl, ?_⟩) ?_ ?_
                  rotate_left
                  · intro w'
                    go_simp
                    with_reducible rfl
                  rotate_left
                  · simp only [Act.put, List.setIfInBounds_toArray, List.set_cons_zero, List.set_cons_succ, i64_w, i32_w]
                    rfl
                  refine take_ (i := 8) (N := some 25) (v := ?_) (a' := ?_) #[true, true, true, true, true, true, true, true, true, true, false, true, true, true, true, false, false, false, false, false, false, false] rfl rfl (take_ofW HT_.out HW_.out (by kernel_rfl)) (fun _ _ _ h => h) (Or.inl ⟨by rfl, ?_⟩) hHeld ?_ ?_
                  rotate_left
                  · rintro w' ⟨s0, s1, s2, s3, s4, s5, s6, s7, s8, s9, s10, s11, s12, s13⟩
                    go_simp
                    with_reducible rfl
                  rotate_left
                  · simp only [Act.put, List.setIfInBounds_toArray, List.set_cons_zero, List.set_cons_succ, i64_w, i32_w]
                    rfl
                  refine take_ (i := 10) (N := some 27) (v := ?_) (a' := ?_) #[true, true, true, true, true, true, true, true, true, true, true, true, true, true, true, false, false, false, false, false, false, false] rfl rfl (take_ofW HT_.out HW_.out (by kernel_rfl)) (fun _ _ _ h => h) (Or.inl ⟨by rfl, ?_⟩) hHeld ?_ ?_
                  rotate_left
                  · rintro w' ⟨s0, s1, s2, s3, s4, s5, s6, s7, s8, s9, s10, s11, s12, s13⟩
                    go_simp
                    with_reducible rfl
                  rotate_left
                  · simp only [Act.put, List.setIfInBounds_toArray, List.set_cons_zero, List.set_cons_succ, i64_w, i32_w]
                    rfl
                  refine take_ (i := 15) (N := some 32) (v := ?_) (a' := ?_) #[true, true, true, true, true, true, true, true, true, true, true, true, true, true, true, true, false, false, false, false, false, false] rfl rfl (take_ofW HT_.out HW_.out (by kernel_rfl)) (fun _ _ _ h => h) (Or.inl ⟨by rfl, ?_⟩) hHeld ?_ ?_
                  rotate_left
                  · rintro w' ⟨s0, s1, s2, s3, s4, s5, s6, s7, s8, s9, s10, s11, s12, s13⟩
                    go_simp
                    with_reducible rfl
                  rotate_left
                  · simp only [Act.put, List.setIfInBounds_toArray, List.set_cons_zero, List.set_cons_succ, i64_w, i32_w]
                    rfl
                  refine pure_ (i := 16) (N := some 33) (v := ?_) (a' := ?_) #[true, true, true, true, true, true, true, true, true, true, true, true, true, true, true, true, true, false, false, false, false, false] rfl rfl (any_of HT_.out (by kernel_rfl)) (fun _ _ _ h => h) (Or.inl ⟨by rfl, ?_⟩) ?_ ?_
                  rotate_left
                  · intro w'
                    go_simp
                    with_reducible rfl
                  rotate_left
                  · simp only [Act.put, List.setIfInBounds_toArray, List.set_cons_zero, List.set_cons_succ, i64_w, i32_w]
                    rfl
                  refine take_ (i := 17) (N := some 34) (v := ?_) (a' := ?_) #[true, true, true, true, true, true, true, true, true, true, true, true, true, true, true, true, true, true, false, false, false, false] rfl rfl (take_ofW HT_.out HW_.out (by kernel_rfl)) (fun _ _ _ h => h) (Or.inl ⟨by rfl, ?_⟩) hHeld ?_ ?_
                  rotate_left
                  · rintro w' ⟨s0, s1, s2, s3, s4, s5, s6, s7, s8, s9, s10, s11, s12, s13⟩
                    go_simp
                    with_reducible rfl
                  rotate_left
                  · simp only [Act.put, List.setIfInBounds_toArray, List.set_cons_zero, List.set_cons_succ, i64_w, i32_w]
                    rfl
                  refine join_ (σ := Nat × Nat) 2 #[true, true, true, true, true, true, true, true, true, true, true, true, true, true, true, true, true, true, true, true, false, false] (fun s_ => [(8, .pointer (some ⟨s_.1, 0, none⟩)), (9, .pointer (some ⟨s_.2, 0, none⟩))]) (fun s_ w' => (w'.cell? ⟨gb101, 0, none⟩ = some (.slice (some ad104) l1_0.length c1_0) ∧ w'.cell? ⟨gb102, 0, none⟩ = some (.slice (some ad106) l2_0.length c2_0) ∧ w'.cell? (ad103.add ((x7_1).toNat * 3)) = some (.int .i64 ((rd_T138 l0 x7_1).f0)) ∧ w'.cell? ⟨(ad103.add ((x7_1).toNat * 3)).block, (ad103.add ((x7_1).toNat * 3)).off + 1, none⟩ = some (.bool ((rd_T138 l0 x7_1).f1)) ∧ w'.cell? ⟨(ad103.add ((x7_1).toNat * 3)).block, (ad103.add ((x7_1).toNat * 3)).off + 2, none⟩ = some (.bool ((rd_T138 l0 x7_1).f2)) ∧ w'.cell? (ad104.add ((((rd_T138 l0 x7_1).f0)).toNat * 3)) = some (.int .i64 ((rd_T23 l1_0 ((rd_T138 l0 x7_1).f0)).f0)) ∧ w'.cell? ⟨(ad104.add ((((rd_T138 l0 x7_1).f0)).toNat * 3)).block, (ad104.add ((((rd_T138 l0 x7_1).f0)).toNat * 3)).off + 1, none⟩ = some (.int .i64 ((rd_T23 l1_0 ((rd_T138 l0 x7_1).f0)).f1)) ∧ w'.cell? ⟨(ad104.add ((((rd_T138 l0 x7_1).f0)).toNat * 3)).block, (ad104.add ((((rd_T138 l0 x7_1).f0)).toNat * 3)).off + 2, none⟩ = some (.string ((rd_T23 l1_0 ((rd_T138 l0 x7_1).f0)).f2)) ∧ w'.cell? (ad103.add ((x7_1).toNat * 3)) = some (.int .i64 ((rd_T138 l0 x7_1).f0)) ∧ w'.cell? ⟨(ad103.add ((x7_1).toNat * 3)).block, (ad103.add ((x7_1).toNat * 3)).off + 1, none⟩ = some (.bool ((rd_T138 l0 x7_1).f1)) ∧ w'.cell? ⟨(ad103.add ((x7_1).toNat * 3)).block, (ad103.add ((x7_1).toNat * 3)).off + 2, none⟩ = some (.bool ((rd_T138 l0 x7_1).f2)) ∧ w'.cell? (ad106.add ((((rd_T138 l0 x7_1).f0)).toNat * 3)) = some (.int .i64 ((rd_T23 l2_0 ((rd_T138 l0 x7_1).f0)).f0)) ∧ w'.cell? ⟨(ad106.add ((((rd_T138 l0 x7_1).f0)).toNat * 3)).block, (ad106.add ((((rd_T138 l0 x7_1).f0)).toNat * 3)).off + 1, none⟩ = some (.int .i64 ((rd_T23 l2_0 ((rd_T138 l0 x7_1).f0)).f1)) ∧ w'.cell? ⟨(ad106.add ((((rd_T138 l0 x7_1).f0)).toNat * 3)).block, (ad106.add ((((rd_T138 l0 x7_1).f0)).toNat * 3)).off + 2, none⟩ = some (.string ((rd_T23 l2_0 ((rd_T138 l0 x7_1).f0)).f2))) ∧ (w'.heap[gb101]? = some (.cells #[.slice (some ad104) l1_0.length c1_0] 50 (0, 0))) ∧ (w'.heap[gb102]? = some (.cells #[.slice (some ad106) l2_0.length c2_0] 50 (0, 0))) ∧ (w'.heap[s_.1]? = some (.cells #[.int .i64 0, .int .i64 0, .string (⟨#[]⟩ : ByteArray)] 23 (0, 0))) ∧ (w'.heap[s_.2]? = some (.cells #[.int .i64 0, .int .i64 0, .string (⟨#[]⟩ : ByteArray)] 23 (0, 0))) ∧ (w.heap.size ≤ s_.1) ∧ (w.heap.size ≤ s_.1) ∧ (gb101 ≠ s_.1) ∧ (s_.1 ≠ gb101) ∧ (gb102 ≠ s_.1) ∧ (s_.1 ≠ gb102) ∧ (s_.2 ≠ s_.1) ∧ (s_.1 ≠ s_.2) ∧ (w.heap.size ≤ s_.2) ∧ (w.heap.size ≤ s_.2) ∧ (gb101 ≠ s_.2) ∧ (s_.2 ≠ gb101) ∧ (gb102 ≠ s_.2) ∧ (s_.2 ≠ gb102) ∧ (Below w.heap.size w w')) ?_ ?_
                  rotate_left
                  · intro hCont
                    refine two_ (i := 18) (j := 19) (Ni := some 8) (Nj := some 9) #[true, true, true, true, true, true, true, true, true, true, true, true, true, true, true, true, true, true, true, false, false, false] #[true, true, true, true, true, true, true, true, true, true, true, true, true, true, true, true, true, true, false, true, false, false] rfl rfl rfl rfl (two_of HT_.out (by kernel_rfl)) (by decide) (by decide) (fun K hK => ?_) (fun K hK => ?_)
                    · skip
                      refine box_step ?hg (N := 8) ?hd (cs := #[.int .i64 0, .int .i64 0, .string (⟨#[]⟩ : ByteArray)]) (t := 23) ?hr ?_; (case hd => rfl); (case hg => rfl); (case hr => first | (go_simp; done) | (go_simp; rfl))
                      intro gb107 hg w14 hbox hb
                      have n0_ := Aside0.mk (blk_below (g := gb101) (o := .cells #[.slice (some ad104) l1_0.length c1_0] 50 (0, 0)) (by (with_reducible repeat (first | refine blk_drewN ?_ _ | refine blk_drew ?_ | refine blk_alloc ?_ _)); exact BK101.out) hb)
                      have n1_ := Aside0.mk (blk_below (g := gb102) (o := .cells #[.slice (some ad106) l2_0.length c2_0] 50 (0, 0)) (by (with_reducible repeat (first | refine blk_drewN ?_ _ | refine blk_drew ?_ | refine blk_alloc ?_ _)); exact BK102.out) hb)
                      have n2_ := Aside0.mk (below_step (by repeat (first | (with_reducible first | exact HB.out | apply below_alloc | apply pw_below_drewN | apply below_drew1 | refine below_set ?_ GE101.out | refine below_set ?_ GE102.out) | exact HB.out)) hb)
                      have n3_ := Aside0.mk (hbox)
                      have n4_ := Aside0.mk ((by rw [hg]; exact (below_size (by repeat (first | (with_reducible first | exact HB.out | apply below_alloc | apply pw_below_drewN | apply below_drew1 | refine below_set ?_ GE101.out | refine below_set ?_ GE102.out) | exact HB.out))) : w.heap.size ≤ gb107))
                      have n5_ := Aside0.mk ((by rw [hg]; exact (below_size (by repeat (first | (with_reducible first | exact HB.out | apply below_alloc | apply pw_below_drewN | apply below_drew1 | refine below_set ?_ GE101.out | refine below_set ?_ GE102.out) | exact HB.out))) : w.heap.size ≤ gb107))
                      have n6_ := Aside0.mk ((by rw [hg]; exact Nat.ne_of_lt (blk_lt (g := gb101) (o := .cells #[.slice (some ad104) l1_0.length c1_0] 50 (0, 0)) (by (with_reducible repeat (first | refine blk_drewN ?_ _ | refine blk_drew ?_ | refine blk_alloc ?_ _)); exact BK101.out)) : gb101 ≠ gb107))
                      have n7_ := Aside0.mk ((by rw [hg]; exact Nat.ne_of_gt (blk_lt (g := gb101) (o := .cells #[.slice (some ad104) l1_0.length c1_0] 50 (0, 0)) (by (with_reducible repeat (first | refine blk_drewN ?_ _ | refine blk_drew ?_ | refine blk_alloc ?_ _)); exact BK101.out)) : gb107 ≠ gb101))
                      have n8_ := Aside0.mk ((by rw [hg]; exact Nat.ne_of_lt (blk_lt (g := gb102) (o := .cells #[.slice (some ad106) l2_0.length c2_0] 50 (0, 0)) (by (with_reducible repeat (first | refine blk_drewN ?_ _ | refine blk_drew ?_ | refine blk_alloc ?_ _)); exact BK102.out)) : gb102 ≠ gb107))
                      have n9_ := Aside0.mk ((by rw [hg]; exact Nat.ne_of_gt (blk_lt (g := gb102) (o := .cells #[.slice (some ad106) l2_0.length c2_0] 50 (0, 0)) (by (with_reducible repeat (first | refine blk_drewN ?_ _ | refine blk_drew ?_ | refine blk_alloc ?_ _)); exact BK102.out)) : gb107 ≠ gb102))
                      clear BK101
                      clear BK102
                      clear HB
                      have BK101 := n0_
                      have BK102 := n1_
                      have HB := n2_
                      have BK107 := n3_
                      have GW107 := n4_
                      have GE107 := n5_
                      have NB101_107 := n6_
                      have NB107_101 := n7_
                      have NB102_107 := n8_
                      have NB107_102 := n9_
                      clear n0_ n1_ n2_ n3_ n4_ n5_ n6_ n7_ n8_ n9_
                      clear hb hbox hg
                      refine hK.out _ _ ⟨(blk_cell BK101.out 0).trans rfl, (blk_cell BK102.out 0).trans rfl, ((HB.out.cell (World.block_lt_of_cell? w _ hw103_0)).trans hw103_0), ((HB.out.cell (World.block_lt_of_cell? w _ hw103_1)).trans hw103_1), ((HB.out.cell (World.block_lt_of_cell? w _ hw103_2)).trans hw103_2), ((HB.out.cell (World.block_lt_of_cell? w _ hw104_0)).trans hw104_0), ((HB.out.cell (World.block_lt_of_cell? w _ hw104_1)).trans hw104_1), ((HB.out.cell (World.block_lt_of_cell? w _ hw104_2)).trans hw104_2), ((HB.out.cell (World.block_lt_of_cell? w _ hw105_0)).trans hw105_0), ((HB.out.cell (World.block_lt_of_cell? w _ hw105_1)).trans hw105_1), ((HB.out.cell (World.block_lt_of_cell? w _ hw105_2)).trans hw105_2), ((HB.out.cell (World.block_lt_of_cell? w _ hw106_0)).trans hw106_0), ((HB.out.cell (World.block_lt_of_cell? w _ hw106_1)).trans hw106_1), ((HB.out.cell (World.block_lt_of_cell? w _ hw106_2)).trans hw106_2)⟩ (fun hHeld => ?_)
                      clear hK K
                      refine norm_ (a' := ?_) ?_ ?_
                      rotate_left
                      · show Act.put _ (some 8) _ = _
                        simp only [Act.put, List.setIfInBounds_toArray, List.set_cons_zero, List.set_cons_succ, i64_w, i32_w]
                        rfl
                      refine one_ (i := 19) (N := some 9) #[true, true, true, true, true, true, true, true, true, true, true, true, true, true, true, true, true, true, true, true, false, false] rfl rfl (one_of HT_.out (by kernel_rfl)) (by decide) (fun K hK => ?_)
                      refine box_step ?hg (N := 9) ?hd (cs := #[.int .i64 0, .int .i64 0, .string (⟨#[]⟩ : ByteArray)]) (t := 23) ?hr ?_; (case hd => rfl); (case hg => rfl); (case hr => first | (go_simp; done) | (go_simp; rfl))
                      intro gb108 hg w15 hbox hb
                      have n0_ := Aside0.mk (blk_below (g := gb101) (o := .cells #[.slice (some ad104) l1_0.length c1_0] 50 (0, 0)) (by (with_reducible repeat (first | refine blk_drewN ?_ _ | refine blk_drew ?_ | refine blk_alloc ?_ _)); exact BK101.out) hb)
                      have n1_ := Aside0.mk (blk_below (g := gb102) (o := .cells #[.slice (some ad106) l2_0.length c2_0] 50 (0, 0)) (by (with_reducible repeat (first | refine blk_drewN ?_ _ | refine blk_drew ?_ | refine blk_alloc ?_ _)); exact BK102.out) hb)
                      have n2_ := Aside0.mk (blk_below (g := gb107) (o := .cells #[.int .i64 0, .int .i64 0, .string (⟨#[]⟩ : ByteArray)] 23 (0, 0)) (by (with_reducible repeat (first | refine blk_drewN ?_ _ | refine blk_drew ?_ | refine blk_alloc ?_ _)); exact BK107.out) hb)
                      have n3_ := Aside0.mk (below_step (by repeat (first | (with_reducible first | exact HB.out | apply below_alloc | apply pw_below_drewN | apply below_drew1 | refine below_set ?_ GE101.out | refine below_set ?_ GE102.out | refine below_set ?_ GE107.out) | exact HB.out)) hb)
                      have n4_ := Aside0.mk (hbox)
                      have n5_ := Aside0.mk ((by rw [hg]; exact (below_size (by repeat (first | (with_reducible first | exact HB.out | apply below_alloc | apply pw_below_drewN | apply below_drew1 | refine below_set ?_ GE101.out | refine below_set ?_ GE102.out | refine below_set ?_ GE107.out) | exact HB.out))) : w.heap.size ≤ gb108))
                      have n6_ := Aside0.mk ((by rw [hg]; exact (below_size (by repeat (first | (with_reducible first | exact HB.out | apply below_alloc | apply pw_below_drewN | apply below_drew1 | refine below_set ?_ GE101.out | refine below_set ?_ GE102.out | refine below_set ?_ GE107.out) | exact HB.out))) : w.heap.size ≤ gb108))
                      have n7_ := Aside0.mk ((by rw [hg]; exact Nat.ne_of_lt (blk_lt (g := gb101) (o := .cells #[.slice (some ad104) l1_0.length c1_0] 50 (0, 0)) (by (with_reducible repeat (first | refine blk_drewN ?_ _ | refine blk_drew ?_ | refine blk_alloc ?_ _)); exact BK101.out)) : gb101 ≠ gb108))
                      have n8_ := Aside0.mk ((by rw [hg]; exact Nat.ne_of_gt (blk_lt (g := gb101) (o := .cells #[.slice (some ad104) l1_0.length c1_0] 50 (0, 0)) (by (with_reducible repeat (first | refine blk_drewN ?_ _ | refine blk_drew ?_ | refine blk_alloc ?_ _)); exact BK101.out)) : gb108 ≠ gb101))
                      have n9_ := Aside0.mk ((by rw [hg]; exact Nat.ne_of_lt (blk_lt (g := gb102) (o := .cells #[.slice (some ad106) l2_0.length c2_0] 50 (0, 0)) (by (with_reducible repeat (first | refine blk_drewN ?_ _ | refine blk_drew ?_ | refine blk_alloc ?_ _)); exact BK102.out)) : gb102 ≠ gb108))
                      have n10_ := Aside0.mk ((by rw [hg]; exact Nat.ne_of_gt (blk_lt (g := gb102) (o := .cells #[.slice (some ad106) l2_0.length c2_0] 50 (0, 0)) (by (with_reducible repeat (first | refine blk_drewN ?_ _ | refine blk_drew ?_ | refine blk_alloc ?_ _)); exact BK102.out)) : gb108 ≠ gb102))
                      have n11_ := Aside0.mk ((by rw [hg]; exact Nat.ne_of_lt (blk_lt (g := gb107) (o := .cells #[.int .i64 0, .int .i64 0, .string (⟨#[]⟩ : ByteArray)] 23 (0, 0)) (by (with_reducible repeat (first | refine blk_drewN ?_ _ | refine blk_drew ?_ | refine blk_alloc ?_ _)); exact BK107.out)) : gb107 ≠ gb108))
                      have n12_ := Aside0.mk ((by rw [hg]; exact Nat.ne_of_gt (blk_lt (g := gb107) (o := .cells #[.int .i64 0, .int .i64 0, .string (⟨#[]⟩ : ByteArray)] 23 (0, 0)) (by (with_reducible repeat (first | refine blk_drewN ?_ _ | refine blk_drew ?_ | refine blk_alloc ?_ _)); exact BK107.out)) : gb108 ≠ gb107))
                      clear BK101
                      clear BK102
                      clear BK107
                      clear HB
                      have BK101 := n0_
                      have BK102 := n1_
                      have BK107 := n2_
                      have HB := n3_
                      have BK108 := n4_
                      have GW108 := n5_
                      have GE108 := n6_
                      have NB101_108 := n7_
                      have NB108_101 := n8_
                      have NB102_108 := n9_
                      have NB108_102 := n10_
                      have NB107_108 := n11_
                      have NB108_107 := n12_
                      clear n0_ n1_ n2_ n3_ n4_ n5_ n6_ n7_ n8_ n9_ n10_ n11_ n12_
                      clear hb hbox hg
                      refine hK.out _ _ ⟨(blk_cell BK101.out 0).trans rfl, (blk_cell BK102.out 0).trans rfl, ((HB.out.cell (World.block_lt_of_cell? w _ hw103_0)).trans hw103_0), ((HB.out.cell (World.block_lt_of_cell? w _ hw103_1)).trans hw103_1), ((HB.out.cell (World.block_lt_of_cell? w _ hw103_2)).trans hw103_2), ((HB.out.cell (World.block_lt_of_cell? w _ hw104_0)).trans hw104_0), ((HB.out.cell (World.block_lt_of_cell? w _ hw104_1)).trans hw104_1), ((HB.out.cell (World.block_lt_of_cell? w _ hw104_2)).trans hw104_2), ((HB.out.cell (World.block_lt_of_cell? w _ hw105_0)).trans hw105_0), ((HB.out.cell (World.block_lt_of_cell? w _ hw105_1)).trans hw105_1), ((HB.out.cell (World.block_lt_of_cell? w _ hw105_2)).trans hw105_2), ((HB.out.cell (World.block_lt_of_cell? w _ hw106_0)).trans hw106_0), ((HB.out.cell (World.block_lt_of_cell? w _ hw106_1)).trans hw106_1), ((HB.out.cell (World.block_lt_of_cell? w _ hw106_2)).trans hw106_2)⟩ (fun hHeld => ?_)
                      clear hK K
                      refine norm_ (a' := ?_) ?_ ?_
                      rotate_left
                      · show Act.put _ (some 9) _ = _
                        simp only [Act.put, List.setIfInBounds_toArray, List.set_cons_zero, List.set_cons_succ, i64_w, i32_w]
                        rfl
                      exact norm_ (by simp only [putAll, Act.put, List.setIfInBounds_toArray, List.set_cons_zero, List.set_cons_succ]) (hCont (gb107, gb108) _ ⟨hHeld, (by (with_reducible repeat (first | refine blk_drewN ?_ _ | refine blk_drew ?_ | refine blk_alloc ?_ _)); exact BK101.out), (by (with_reducible repeat (first | refine blk_drewN ?_ _ | refine blk_drew ?_ | refine blk_alloc ?_ _)); exact BK102.out), (by (with_reducible repeat (first | refine blk_drewN ?_ _ | refine blk_drew ?_ | refine blk_alloc ?_ _)); exact BK107.out), (by (with_reducible repeat (first | refine blk_drewN ?_ _ | refine blk_drew ?_ | refine blk_alloc ?_ _)); exact BK108.out), GW107.out, GE107.out, NB101_107.out, NB107_101.out, NB102_107.out, NB107_102.out, NB108_107.out, NB107_108.out, GW108.out, GE108.out, NB101_108.out, NB108_101.out, NB102_108.out, NB108_102.out, (by repeat (first | (with_reducible first | exact HB.out | apply below_alloc | apply pw_below_drewN | apply below_drew1 | refine below_set ?_ GE101.out | refine below_set ?_ GE102.out | refine below_set ?_ GE107.out | refine below_set ?_ GE108.out) | exact HB.out))⟩)
                    · skip
                      refine box_step ?hg (N := 9) ?hd (cs := #[.int .i64 0, .int .i64 0, .string (⟨#[]⟩ : ByteArray)]) (t := 23) ?hr ?_; (case hd => rfl); (case hg => rfl); (case hr => first | (go_simp; done) | (go_simp; rfl))
                      intro gb108 hg w14 hbox hb
                      have n0_ := Aside0.mk (blk_below (g := gb101) (o := .cells #[.slice (some ad104) l1_0.length c1_0] 50 (0, 0)) (by (with_reducible repeat (first | refine blk_drewN ?_ _ | refine blk_drew ?_ | refine blk_alloc ?_ _)); exact BK101.out) hb)
                      have n1_ := Aside0.mk (blk_below (g := gb102) (o := .cells #[.slice (some ad106) l2_0.length c2_0] 50 (0, 0)) (by (with_reducible repeat (first | refine blk_drewN ?_ _ | refine blk_drew ?_ | refine blk_alloc ?_ _)); exact BK102.out) hb)
                      have n2_ := Aside0.mk (below_step (by repeat (first | (with_reducible first | exact HB.out | apply below_alloc | apply pw_below_drewN | apply below_drew1 | refine below_set ?_ GE101.out | refine below_set ?_ GE102.out) | exact HB.out)) hb)
                      have n3_ := Aside0.mk (hbox)
                      have n4_ := Aside0.mk ((by rw [hg]; exact (below_size (by repeat (first | (with_reducible first | exact HB.out | apply below_alloc | apply pw_below_drewN | apply below_drew1 | refine below_set ?_ GE101.out | refine below_set ?_ GE102.out) | exact HB.out))) : w.heap.size ≤ gb108))
                      have n5_ := Aside0.mk ((by rw [hg]; exact (below_size (by repeat (first | (with_reducible first | exact HB.out | apply below_alloc | apply pw_below_drewN | apply below_drew1 | refine below_set ?_ GE101.out | refine below_set ?_ GE102.out) | exact HB.out))) : w.heap.size ≤ gb108))
                      have n6_ := Aside0.mk ((by rw [hg]; exact Nat.ne_of_lt (blk_lt (g := gb101) (o := .cells #[.slice (some ad104) l1_0.length c1_0] 50 (0, 0)) (by (with_reducible repeat (first | refine blk_drewN ?_ _ | refine blk_drew ?_ | refine blk_alloc ?_ _)); exact BK101.out)) : gb101 ≠ gb108))
                      have n7_ := Aside0.mk ((by rw [hg]; exact Nat.ne_of_gt (blk_lt (g := gb101) (o := .cells #[.slice (some ad104) l1_0.length c1_0] 50 (0, 0)) (by (with_reducible repeat (first | refine blk_drewN ?_ _ | refine blk_drew ?_ | refine blk_alloc ?_ _)); exact BK101.out)) : gb108 ≠ gb101))
                      have n8_ := Aside0.mk ((by rw [hg]; exact Nat.ne_of_lt (blk_lt (g := gb102) (o := .cells #[.slice (some ad106) l2_0.length c2_0] 50 (0, 0)) (by (with_reducible repeat (first | refine blk_drewN ?_ _ | refine blk_drew ?_ | refine blk_alloc ?_ _)); exact BK102.out)) : gb102 ≠ gb108))
                      have n9_ := Aside0.mk ((by rw [hg]; exact Nat.ne_of_gt (blk_lt (g := gb102) (o := .cells #[.slice (some ad106) l2_0.length c2_0] 50 (0, 0)) (by (with_reducible repeat (first | refine blk_drewN ?_ _ | refine blk_drew ?_ | refine blk_alloc ?_ _)); exact BK102.out)) : gb108 ≠ gb102))
                      clear BK101
                      clear BK102
                      clear HB
                      have BK101 := n0_
                      have BK102 := n1_
                      have HB := n2_
                      have BK108 := n3_
                      have GW108 := n4_
                      have GE108 := n5_
                      have NB101_108 := n6_
                      have NB108_101 := n7_
                      have NB102_108 := n8_
                      have NB108_102 := n9_
                      clear n0_ n1_ n2_ n3_ n4_ n5_ n6_ n7_ n8_ n9_
                      clear hb hbox hg
                      refine hK.out _ _ ⟨(blk_cell BK101.out 0).trans rfl, (blk_cell BK102.out 0).trans rfl, ((HB.out.cell (World.block_lt_of_cell? w _ hw103_0)).trans hw103_0), ((HB.out.cell (World.block_lt_of_cell? w _ hw103_1)).trans hw103_1), ((HB.out.cell (World.block_lt_of_cell? w _ hw103_2)).trans hw103_2), ((HB.out.cell (World.block_lt_of_cell? w _ hw104_0)).trans hw104_0), ((HB.out.cell (World.block_lt_of_cell? w _ hw104_1)).trans hw104_1), ((HB.out.cell (World.block_lt_of_cell? w _ hw104_2)).trans hw104_2), ((HB.out.cell (World.block_lt_of_cell? w _ hw105_0)).trans hw105_0), ((HB.out.cell (World.block_lt_of_cell? w _ hw105_1)).trans hw105_1), ((HB.out.cell (World.block_lt_of_cell? w _ hw105_2)).trans hw105_2), ((HB.out.cell (World.block_lt_of_cell? w _ hw106_0)).trans hw106_0), ((HB.out.cell (World.block_lt_of_cell? w _ hw106_1)).trans hw106_1), ((HB.out.cell (World.block_lt_of_cell? w _ hw106_2)).trans hw106_2)⟩ (fun hHeld => ?_)
                      clear hK K
                      refine norm_ (a' := ?_) ?_ ?_
                      rotate_left
                      · show Act.put _ (some 9) _ = _
                        simp only [Act.put, List.setIfInBounds_toArray, List.set_cons_zero, List.set_cons_succ, i64_w, i32_w]
                        rfl
                      refine one_ (i := 18) (N := some 8) #[true, true, true, true, true, true, true, true, true, true, true, true, true, true, true, true, true, true, true, true, false, false] rfl rfl (one_of HT_.out (by kernel_rfl)) (by decide) (fun K hK => ?_)
                      refine box_step ?hg (N := 8) ?hd (cs := #[.int .i64 0, .int .i64 0, .string (⟨#[]⟩ : ByteArray)]) (t := 23) ?hr ?_; (case hd => rfl); (case hg => rfl); (case hr => first | (go_simp; done) | (go_simp; rfl))
                      intro gb107 hg w15 hbox hb
                      have n0_ := Aside0.mk (blk_below (g := gb101) (o := .cells #[.slice (some ad104) l1_0.length c1_0] 50 (0, 0)) (by (with_reducible repeat (first | refine blk_drewN ?_ _ | refine blk_drew ?_ | refine blk_alloc ?_ _)); exact BK101.out) hb)
                      have n1_ := Aside0.mk (blk_below (g := gb102) (o := .cells #[.slice (some ad106) l2_0.length c2_0] 50 (0, 0)) (by (with_reducible repeat (first | refine blk_drewN ?_ _ | refine blk_drew ?_ | refine blk_alloc ?_ _)); exact BK102.out) hb)
                      have n2_ := Aside0.mk (blk_below (g := gb108) (o := .cells #[.int .i64 0, .int .i64 0, .string (⟨#[]⟩ : ByteArray)] 23 (0, 0)) (by (with_reducible repeat (first | refine blk_drewN ?_ _ | refine blk_drew ?_ | refine blk_alloc ?_ _)); exact BK108.out) hb)
                      have n3_ := Aside0.mk (below_step (by repeat (first | (with_reducible first | exact HB.out | apply below_alloc | apply pw_below_drewN | apply below_drew1 | refine below_set ?_ GE101.out | refine below_set ?_ GE102.out | refine below_set ?_ GE108.out) | exact HB.out)) hb)
                      have n4_ := Aside0.mk (hbox)
                      have n5_ := Aside0.mk ((by rw [hg]; exact (below_size (by repeat (first | (with_reducible first | exact HB.out | apply below_alloc | apply pw_below_drewN | apply below_drew1 | refine below_set ?_ GE101.out | refine below_set ?_ GE102.out | refine below_set ?_ GE108.out) | exact HB.out))) : w.heap.size ≤ gb107))
                      have n6_ := Aside0.mk ((by rw [hg]; exact (below_size (by repeat (first | (with_reducible first | exact HB.out | apply below_alloc | apply pw_below_drewN | apply below_drew1 | refine below_set ?_ GE101.out | refine below_set ?_ GE102.out | refine below_set ?_ GE108.out) | exact HB.out))) : w.heap.size ≤ gb107))
                      have n7_ := Aside0.mk ((by rw [hg]; exact Nat.ne_of_lt (blk_lt (g := gb101) (o := .cells #[.slice (some ad104) l1_0.length c1_0] 50 (0, 0)) (by (with_reducible repeat (first | refine blk_drewN ?_ _ | refine blk_drew ?_ | refine blk_alloc ?_ _)); exact BK101.out)) : gb101 ≠ gb107))
                      have n8_ := Aside0.mk ((by rw [hg]; exact Nat.ne_of_gt (blk_lt (g := gb101) (o := .cells #[.slice (some ad104) l1_0.length c1_0] 50 (0, 0)) (by (with_reducible repeat (first | refine blk_drewN ?_ _ | refine blk_drew ?_ | refine blk_alloc ?_ _)); exact BK101.out)) : gb107 ≠ gb101))
                      have n9_ := Aside0.mk ((by rw [hg]; exact Nat.ne_of_lt (blk_lt (g := gb102) (o := .cells #[.slice (some ad106) l2_0.length c2_0] 50 (0, 0)) (by (with_reducible repeat (first | refine blk_drewN ?_ _ | refine blk_drew ?_ | refine blk_alloc ?_ _)); exact BK102.out)) : gb102 ≠ gb107))
                      have n10_ := Aside0.mk ((by rw [hg]; exact Nat.ne_of_gt (blk_lt (g := gb102) (o := .cells #[.slice (some ad106) l2_0.length c2_0] 50 (0, 0)) (by (with_reducible repeat (first | refine blk_drewN ?_ _ | refine blk_drew ?_ | refine blk_alloc ?_ _)); exact BK102.out)) : gb107 ≠ gb102))
                      have n11_ := Aside0.mk ((by rw [hg]; exact Nat.ne_of_lt (blk_lt (g := gb108) (o := .cells #[.int .i64 0, .int .i64 0, .string (⟨#[]⟩ : ByteArray)] 23 (0, 0)) (by (with_reducible repeat (first | refine blk_drewN ?_ _ | refine blk_drew ?_ | refine blk_alloc ?_ _)); exact BK108.out)) : gb108 ≠ gb107))
                      have n12_ := Aside0.mk ((by rw [hg]; exact Nat.ne_of_gt (blk_lt (g := gb108) (o := .cells #[.int .i64 0, .int .i64 0, .string (⟨#[]⟩ : ByteArray)] 23 (0, 0)) (by (with_reducible repeat (first | refine blk_drewN ?_ _ | refine blk_drew ?_ | refine blk_alloc ?_ _)); exact BK108.out)) : gb107 ≠ gb108))
                      clear BK101
                      clear BK102
                      clear BK108
                      clear HB
                      have BK101 := n0_
                      have BK102 := n1_
                      have BK108 := n2_
                      have HB := n3_
                      have BK107 := n4_
                      have GW107 := n5_
                      have GE107 := n6_
                      have NB101_107 := n7_
                      have NB107_101 := n8_
                      have NB102_107 := n9_
                      have NB107_102 := n10_
                      have NB108_107 := n11_
                      have NB107_108 := n12_
                      clear n0_ n1_ n2_ n3_ n4_ n5_ n6_ n7_ n8_ n9_ n10_ n11_ n12_
                      clear hb hbox hg
                      refine hK.out _ _ ⟨(blk_cell BK101.out 0).trans rfl, (blk_cell BK102.out 0).trans rfl, ((HB.out.cell (World.block_lt_of_cell? w _ hw103_0)).trans hw103_0), ((HB.out.cell (World.block_lt_of_cell? w _ hw103_1)).trans hw103_1), ((HB.out.cell (World.block_lt_of_cell? w _ hw103_2)).trans hw103_2), ((HB.out.cell (World.block_lt_of_cell? w _ hw104_0)).trans hw104_0), ((HB.out.cell (World.block_lt_of_cell? w _ hw104_1)).trans hw104_1), ((HB.out.cell (World.block_lt_of_cell? w _ hw104_2)).trans hw104_2), ((HB.out.cell (World.block_lt_of_cell? w _ hw105_0)).trans hw105_0), ((HB.out.cell (World.block_lt_of_cell? w _ hw105_1)).trans hw105_1), ((HB.out.cell (World.block_lt_of_cell? w _ hw105_2)).trans hw105_2), ((HB.out.cell (World.block_lt_of_cell? w _ hw106_0)).trans hw106_0), ((HB.out.cell (World.block_lt_of_cell? w _ hw106_1)).trans hw106_1), ((HB.out.cell (World.block_lt_of_cell? w _ hw106_2)).trans hw106_2)⟩ (fun hHeld => ?_)
                      clear hK K
                      refine norm_ (a' := ?_) ?_ ?_
                      rotate_left
                      · show Act.put _ (some 8) _ = _
                        simp only [Act.put, List.setIfInBounds_toArray, List.set_cons_zero, List.set_cons_succ, i64_w, i32_w]
                        rfl
                      exact norm_ (by simp only [putAll, Act.put, List.setIfInBounds_toArray, List.set_cons_zero, List.set_cons_succ]) (hCont (gb107, gb108) _ ⟨hHeld, (by (with_reducible repeat (first | refine blk_drewN ?_ _ | refine blk_drew ?_ | refine blk_alloc ?_ _)); exact BK101.out), (by (with_reducible repeat (first | refine blk_drewN ?_ _ | refine blk_drew ?_ | refine blk_alloc ?_ _)); exact BK102.out), (by (with_reducible repeat (first | refine blk_drewN ?_ _ | refine blk_drew ?_ | refine blk_alloc ?_ _)); exact BK107.out), (by (with_reducible repeat (first | refine blk_drewN ?_ _ | refine blk_drew ?_ | refine blk_alloc ?_ _)); exact BK108.out), GW107.out, GE107.out, NB101_107.out, NB107_101.out, NB102_107.out, NB107_102.out, NB108_107.out, NB107_108.out, GW108.out, GE108.out, NB101_108.out, NB108_101.out, NB102_108.out, NB108_102.out, (by repeat (first | (with_reducible first | exact HB.out | apply below_alloc | apply pw_below_drewN | apply below_drew1 | refine below_set ?_ GE101.out | refine below_set ?_ GE102.out | refine below_set ?_ GE108.out | refine below_set ?_ GE107.out) | exact HB.out))⟩)
                  rintro ⟨gb107, gb108⟩ w16 ⟨hS_, h0_, h1_, h2_, h3_, h4_, h5_, h6_, h7_, h8_, h9_, h10_, h11_, h12_, h13_, h14_, h15_, h16_, h17_, h18_⟩
                  have n0_ : Aside0 (w16.heap[gb101]? = some (.cells #[.slice (some ad104) l1_0.length c1_0] 50 (0, 0))) := ⟨h0_⟩
                  have n1_ : Aside0 (w16.heap[gb102]? = some (.cells #[.slice (some ad106) l2_0.length c2_0] 50 (0, 0))) := ⟨h1_⟩
                  have n2_ : Aside0 (w16.heap[gb107]? = some (.cells #[.int .i64 0, .int .i64 0, .string (⟨#[]⟩ : ByteArray)] 23 (0, 0))) := ⟨h2_⟩
                  have n3_ : Aside0 (w16.heap[gb108]? = some (.cells #[.int .i64 0, .int .i64 0, .string (⟨#[]⟩ : ByteArray)] 23 (0, 0))) := ⟨h3_⟩
                  have n4_ : Aside0 (w.heap.size ≤ gb107) := ⟨h4_⟩
                  have n5_ : Aside0 (w.heap.size ≤ gb107) := ⟨h5_⟩
                  have n6_ : Aside0 (gb101 ≠ gb107) := ⟨h6_⟩
                  have n7_ : Aside0 (gb107 ≠ gb101) := ⟨h7_⟩
                  have n8_ : Aside0 (gb102 ≠ gb107) := ⟨h8_⟩
                  have n9_ : Aside0 (gb107 ≠ gb102) := ⟨h9_⟩
                  have n10_ : Aside0 (gb108 ≠ gb107) := ⟨h10_⟩
                  have n11_ : Aside0 (gb107 ≠ gb108) := ⟨h11_⟩
                  have n12_ : Aside0 (w.heap.size ≤ gb108) := ⟨h12_⟩
                  have n13_ : Aside0 (w.heap.size ≤ gb108) := ⟨h13_⟩
                  have n14_ : Aside0 (gb101 ≠ gb108) := ⟨h14_⟩
                  have n15_ : Aside0 (gb108 ≠ gb101) := ⟨h15_⟩
                  have n16_ : Aside0 (gb102 ≠ gb108) := ⟨h16_⟩
                  have n17_ : Aside0 (gb108 ≠ gb102) := ⟨h17_⟩
                  have n18_ : Aside0 (Below w.heap.size w w16) := ⟨h18_⟩
                  clear BK101
                  clear BK102
                  clear HB
                  clear h0_ h1_ h2_ h3_ h4_ h5_ h6_ h7_ h8_ h9_ h10_ h11_ h12_ h13_ h14_ h15_ h16_ h17_ h18_
                  have BK101 := n0_
                  have BK102 := n1_
                  have BK107 := n2_
                  have BK108 := n3_
                  have GW107 := n4_
                  have GE107 := n5_
                  have NB101_107 := n6_
                  have NB107_101 := n7_
                  have NB102_107 := n8_
                  have NB107_102 := n9_
                  have NB108_107 := n10_
                  have NB107_108 := n11_
                  have GW108 := n12_
                  have GE108 := n13_
                  have NB101_108 := n14_
                  have NB108_101 := n15_
                  have NB102_108 := n16_
                  have NB108_102 := n17_
                  have HB := n18_
                  clear n0_ n1_ n2_ n3_ n4_ n5_ n6_ n7_ n8_ n9_ n10_ n11_ n12_ n13_ n14_ n15_ n16_ n17_ n18_
                  have hHeld : w16.cell? ⟨gb101, 0, none⟩ = some (.slice (some ad104) l1_0.length c1_0) ∧ w16.cell? ⟨gb102, 0, none⟩ = some (.slice (some ad106) l2_0.length c2_0) ∧ w16.cell? (ad103.add ((x7_1).toNat * 3)) = some (.int .i64 ((rd_T138 l0 x7_1).f0)) ∧ w16.cell? ⟨(ad103.add ((x7_1).toNat * 3)).block, (ad103.add ((x7_1).toNat * 3)).off + 1, none⟩ = some (.bool ((rd_T138 l0 x7_1).f1)) ∧ w16.cell? ⟨(ad103.add ((x7_1).toNat * 3)).block, (ad103.add ((x7_1).toNat * 3)).off + 2, none⟩ = some (.bool ((rd_T138 l0 x7_1).f2)) ∧ w16.cell? (ad104.add ((((rd_T138 l0 x7_1).f0)).toNat * 3)) = some (.int .i64 ((rd_T23 l1_0 ((rd_T138 l0 x7_1).f0)).f0)) ∧ w16.cell? ⟨(ad104.add ((((rd_T138 l0 x7_1).f0)).toNat * 3)).block, (ad104.add ((((rd_T138 l0 x7_1).f0)).toNat * 3)).off + 1, none⟩ = some (.int .i64 ((rd_T23 l1_0 ((rd_T138 l0 x7_1).f0)).f1)) ∧ w16.cell? ⟨(ad104.add ((((rd_T138 l0 x7_1).f0)).toNat * 3)).block, (ad104.add ((((rd_T138 l0 x7_1).f0)).toNat * 3)).off + 2, none⟩ = some (.string ((rd_T23 l1_0 ((rd_T138 l0 x7_1).f0)).f2)) ∧ w16.cell? (ad103.add ((x7_1).toNat * 3)) = some (.int .i64 ((rd_T138 l0 x7_1).f0)) ∧ w16.cell? ⟨(ad103.add ((x7_1).toNat * 3)).block, (ad103.add ((x7_1).toNat * 3)).off + 1, none⟩ = some (.bool ((rd_T138 l0 x7_1).f1)) ∧ w16.cell? ⟨(ad103.add ((x7_1).toNat * 3)).block, (ad103.add ((x7_1).toNat * 3)).off + 2, none⟩ = some (.bool ((rd_T138 l0 x7_1).f2)) ∧ w16.cell? (ad106.add ((((rd_T138 l0 x7_1).f0)).toNat * 3)) = some (.int .i64 ((rd_T23 l2_0 ((rd_T138 l0 x7_1).f0)).f0)) ∧ w16.cell? ⟨(ad106.add ((((rd_T138 l0 x7_1).f0)).toNat * 3)).block, (ad106.add ((((rd_T138 l0 x7_1).f0)).toNat * 3)).off + 1, none⟩ = some (.int .i64 ((rd_T23 l2_0 ((rd_T138 l0 x7_1).f0)).f1)) ∧ w16.cell? ⟨(ad106.add ((((rd_T138 l0 x7_1).f0)).toNat * 3)).block, (ad106.add ((((rd_T138 l0 x7_1).f0)).toNat * 3)).off + 2, none⟩ = some (.string ((rd_T23 l2_0 ((rd_T138 l0 x7_1).f0)).f2)) := hS_
                  refine norm_ (a' := ?_) ?_ ?_
                  rotate_left
                  · simp only [putAll, Act.put, List.setIfInBounds_toArray, List.set_cons_zero, List.set_cons_succ]
                    rfl
                  refine one_ (i := 20) (N := none) #[true, true, true, true, true, true, true, true, true, true, true, true, true, true, true, true, true, true, true, true, true, false] rfl rfl (one_of HT_.out (by kernel_rfl)) (by decide) (fun K hK => ?_)
                  have hs17 : w16.cell? ⟨gb107, 0, none⟩ = some (.int .i64 0) := (blk_cell BK107.out 0).trans rfl
                  have hfs17 := blk_frozen BK107.out 0
                  have hns17_0 := NB101_107.out
                  have hns17_1 := NB102_107.out
                  have hns17_3 := NB108_107.out
                  have hms17_0 := NB107_101.out
                  have hms17_1 := NB107_102.out
                  have hms17_3 := NB107_108.out
                  have hs18 : w16.cell? ⟨gb107, 1, none⟩ = some (.int .i64 0) := (blk_cell BK107.out 1).trans rfl
                  have hfs18 := blk_frozen BK107.out 1
                  have hns18_0 := NB101_107.out
                  have hns18_1 := NB102_107.out
                  have hns18_3 := NB108_107.out
                  have hms18_0 := NB107_101.out
                  have hms18_1 := NB107_102.out
                  have hms18_3 := NB107_108.out
                  have hs19 : w16.cell? ⟨gb107, 2, none⟩ = some (.string (⟨#[]⟩ : ByteArray)) := (blk_cell BK107.out 2).trans rfl
                  have hfs19 := blk_frozen BK107.out 2
                  have hns19_0 := NB101_107.out
                  have hns19_1 := NB102_107.out
                  have hns19_3 := NB108_107.out
                  have hms19_0 := NB107_101.out
                  have hms19_1 := NB107_102.out
                  have hms19_3 := NB107_108.out
                  refine skip_ (w1 := ?_) (by rfl) rfl ?_ ?_
                  rotate_left
                  · go_simp
                    rfl
                  refine hK.out _ _ ⟨((cell_far (p := ⟨gb107, _, none⟩) NB101_107.out _).trans (((cell_far (p := ⟨gb107, _, none⟩) NB101_107.out _).trans (((cell_far (p := ⟨gb107, _, none⟩) NB101_107.out _).trans (hHeld.1)))))), ((cell_far (p := ⟨gb107, _, none⟩) NB102_107.out _).trans (((cell_far (p := ⟨gb107, _, none⟩) NB102_107.out _).trans (((cell_far (p := ⟨gb107, _, none⟩) NB102_107.out _).trans (hHeld.2.1)))))), ((cell_far (p := ⟨gb107, _, none⟩) (blkNe_peristyleref1ByKeys hw103_0 GW107.out) _).trans (((cell_far (p := ⟨gb107, _, none⟩) (blkNe_peristyleref1ByKeys hw103_0 GW107.out) _).trans (((cell_far (p := ⟨gb107, _, none⟩) (blkNe_peristyleref1ByKeys hw103_0 GW107.out) _).trans (hHeld.2.2.1)))))), ((cell_far (p := ⟨gb107, _, none⟩) (blkNe_peristyleref1ByKeys hw103_1 GW107.out) _).trans (((cell_far (p := ⟨gb107, _, none⟩) (blkNe_peristyleref1ByKeys hw103_1 GW107.out) _).trans (((cell_far (p := ⟨gb107, _, none⟩) (blkNe_peristyleref1ByKeys hw103_1 GW107.out) _).trans (hHeld.2.2.2.1)))))), ((cell_far (p := ⟨gb107, _, none⟩) (blkNe_peristyleref1ByKeys hw103_2 GW107.out) _).trans (((cell_far (p := ⟨gb107, _, none⟩) (blkNe_peristyleref1ByKeys hw103_2 GW107.out) _).trans (((cell_far (p := ⟨gb107, _, none⟩) (blkNe_peristyleref1ByKeys hw103_2 GW107.out) _).trans (hHeld.2.2.2.2.1)))))), ((cell_far (p := ⟨gb107, _, none⟩) (blkNe_peristyleref1ByKeys hw104_0 GW107.out) _).trans (((cell_far (p := ⟨gb107, _, none⟩) (blkNe_peristyleref1ByKeys hw104_0 GW107.out) _).trans (((cell_far (p := ⟨gb107, _, none⟩) (blkNe_peristyleref1ByKeys hw104_0 GW107.out) _).trans (hHeld.2.2.2.2.2.1)))))), ((cell_far (p := ⟨gb107, _, none⟩) (blkNe_peristyleref1ByKeys hw104_1 GW107.out) _).trans (((cell_far (p := ⟨gb107, _, none⟩) (blkNe_peristyleref1ByKeys hw104_1 GW107.out) _).trans (((cell_far (p := ⟨gb107, _, none⟩) (blkNe_peristyleref1ByKeys hw104_1 GW107.out) _).trans (hHeld.2.2.2.2.2.2.1)))))), ((cell_far (p := ⟨gb107, _, none⟩) (blkNe_peristyleref1ByKeys hw104_2 GW107.out) _).trans (((cell_far (p := ⟨gb107, _, none⟩) (blkNe_peristyleref1ByKeys hw104_2 GW107.out) _).trans (((cell_far (p := ⟨gb107, _, none⟩) (blkNe_peristyleref1ByKeys hw104_2 GW107.out) _).trans (hHeld.2.2.2.2.2.2.2.1)))))), ((cell_far (p := ⟨gb107, _, none⟩) (blkNe_peristyleref1ByKeys hw105_0 GW107.out) _).trans (((cell_far (p := ⟨gb107, _, none⟩) (blkNe_peristyleref1ByKeys hw105_0 GW107.out) _).trans (((cell_far (p := ⟨gb107, _, none⟩) (blkNe_peristyleref1ByKeys hw105_0 GW107.out) _).trans (hHeld.2.2.2.2.2.2.2.2.1)))))), ((cell_far (p := ⟨gb107, _, none⟩) (blkNe_peristyleref1ByKeys hw105_1 GW107.out) _).trans (((cell_far (p := ⟨gb107, _, none⟩) (blkNe_peristyleref1ByKeys hw105_1 GW107.out) _).trans (((cell_far (p := ⟨gb107, _, none⟩) (blkNe_peristyleref1ByKeys hw105_1 GW107.out) _).trans (hHeld.2.2.2.2.2.2.2.2.2.1)))))), ((cell_far (p := ⟨gb107, _, none⟩) (blkNe_peristyleref1ByKeys hw105_2 GW107.out) _).trans (((cell_far (p := ⟨gb107, _, none⟩) (blkNe_peristyleref1ByKeys hw105_2 GW107.out) _).trans (((cell_far (p := ⟨gb107, _, none⟩) (blkNe_peristyleref1ByKeys hw105_2 GW107.out) _).trans (hHeld.2.2.2.2.2.2.2.2.2.2.1)))))), ((cell_far (p := ⟨gb107, _, none⟩) (blkNe_peristyleref1ByKeys hw106_0 GW107.out) _).trans (((cell_far (p := ⟨gb107, _, none⟩) (blkNe_peristyleref1ByKeys hw106_0 GW107.out) _).trans (((cell_far (p := ⟨gb107, _, none⟩) (blkNe_peristyleref1ByKeys hw106_0 GW107.out) _).trans (hHeld.2.2.2.2.2.2.2.2.2.2.2.1)))))), ((cell_far (p := ⟨gb107, _, none⟩) (blkNe_peristyleref1ByKeys hw106_1 GW107.out) _).trans (((cell_far (p := ⟨gb107, _, none⟩) (blkNe_peristyleref1ByKeys hw106_1 GW107.out) _).trans (((cell_far (p := ⟨gb107, _, none⟩) (blkNe_peristyleref1ByKeys hw106_1 GW107.out) _).trans (hHeld.2.2.2.2.2.2.2.2.2.2.2.2.1)))))), ((cell_far (p := ⟨gb107, _, none⟩) (blkNe_peristyleref1ByKeys hw106_2 GW107.out) _).trans (((cell_far (p := ⟨gb107, _, none⟩) (blkNe_peristyleref1ByKeys hw106_2 GW107.out) _).trans (((cell_far (p := ⟨gb107, _, none⟩) (blkNe_peristyleref1ByKeys hw106_2 GW107.out) _).trans (hHeld.2.2.2.2.2.2.2.2.2.2.2.2.2))))))⟩ (fun hHeld => ?_)
                  clear hK K
                  refine one_ (i := 21) (N := none) #[true, true, true, true, true, true, true, true, true, true, true, true, true, true, true, true, true, true, true, true, true, true] rfl rfl (one_of HT_.out (by kernel_rfl)) (by decide) (fun K hK => ?_)
                  have hs20 : w16.cell? ⟨gb108, 0, none⟩ = some (.int .i64 0) := (blk_cell BK108.out 0).trans rfl
                  have hfs20 := blk_frozen BK108.out 0
                  have hns20_0 := NB101_108.out
                  have hns20_1 := NB102_108.out
                  have hns20_2 := NB107_108.out
                  have hms20_0 := NB108_101.out
                  have hms20_1 := NB108_102.out
                  have hms20_2 := NB108_107.out
                  have hs21 : w16.cell? ⟨gb108, 1, none⟩ = some (.int .i64 0) := (blk_cell BK108.out 1).trans rfl
                  have hfs21 := blk_frozen BK108.out 1
                  have hns21_0 := NB101_108.out
                  have hns21_1 := NB102_108.out
                  have hns21_2 := NB107_108.out
                  have hms21_0 := NB108_101.out
                  have hms21_1 := NB108_102.out
                  have hms21_2 := NB108_107.out
                  have hs22 : w16.cell? ⟨gb108, 2, none⟩ = some (.string (⟨#[]⟩ : ByteArray)) := (blk_cell BK108.out 2).trans rfl
                  have hfs22 := blk_frozen BK108.out 2
                  have hns22_0 := NB101_108.out
                  have hns22_1 := NB102_108.out
                  have hns22_2 := NB107_108.out
                  have hms22_0 := NB108_101.out
                  have hms22_1 := NB108_102.out
                  have hms22_2 := NB108_107.out
                  refine skip_ (w1 := ?_) (by rfl) rfl ?_ ?_
                  rotate_left
                  · go_simp
                    rfl
                  refine hK.out _ _ ⟨((cell_far (p := ⟨gb108, _, none⟩) NB101_108.out _).trans (((cell_far (p := ⟨gb108, _, none⟩) NB101_108.out _).trans (((cell_far (p := ⟨gb108, _, none⟩) NB101_108.out _).trans (hHeld.1)))))), ((cell_far (p := ⟨gb108, _, none⟩) NB102_108.out _).trans (((cell_far (p := ⟨gb108, _, none⟩) NB102_108.out _).trans (((cell_far (p := ⟨gb108, _, none⟩) NB102_108.out _).trans (hHeld.2.1)))))), ((cell_far (p := ⟨gb108, _, none⟩) (blkNe_peristyleref1ByKeys hw103_0 GW108.out) _).trans (((cell_far (p := ⟨gb108, _, none⟩) (blkNe_peristyleref1ByKeys hw103_0 GW108.out) _).trans (((cell_far (p := ⟨gb108, _, none⟩) (blkNe_peristyleref1ByKeys hw103_0 GW108.out) _).trans (hHeld.2.2.1)))))), ((cell_far (p := ⟨gb108, _, none⟩) (blkNe_peristyleref1ByKeys hw103_1 GW108.out) _).trans (((cell_far (p := ⟨gb108, _, none⟩) (blkNe_peristyleref1ByKeys hw103_1 GW108.out) _).trans (((cell_far (p := ⟨gb108, _, none⟩) (blkNe_peristyleref1ByKeys hw103_1 GW108.out) _).trans (hHeld.2.2.2.1)))))), ((cell_far (p := ⟨gb108, _, none⟩) (blkNe_peristyleref1ByKeys hw103_2 GW108.out) _).trans (((cell_far (p := ⟨gb108, _, none⟩) (blkNe_peristyleref1ByKeys hw103_2 GW108.out) _).trans (((cell_far (p := ⟨gb108, _, none⟩) (blkNe_peristyleref1ByKeys hw103_2 GW108.out) _).trans (hHeld.2.2.2.2.1)))))), ((cell_far (p := ⟨gb108, _, none⟩) (blkNe_peristyleref1ByKeys hw104_0 GW108.out) _).trans (((cell_far (p := ⟨gb108, _, none⟩) (blkNe_peristyleref1ByKeys hw104_0 GW108.out) _).trans (((cell_far (p := ⟨gb108, _, none⟩) (blkNe_peristyleref1ByKeys hw104_0 GW108.out) _).trans (hHeld.2.2.2.2.2.1)))))), ((cell_far (p := ⟨gb108, _, none⟩) (blkNe_peristyleref1ByKeys hw104_1 GW108.out) _).trans (((cell_far (p := ⟨gb108, _, none⟩) (blkNe_peristyleref1ByKeys hw104_1 GW108.out) _).trans (((cell_far (p := ⟨gb108, _, none⟩) (blkNe_peristyleref1ByKeys hw104_1 GW108.out) _).trans (hHeld.2.2.2.2.2.2.1)))))), ((cell_far (p := ⟨gb108, _, none⟩) (blkNe_peristyleref1ByKeys hw104_2 GW108.out) _).trans (((cell_far (p := ⟨gb108, _, none⟩) (blkNe_peristyleref1ByKeys hw104_2 GW108.out) _).trans (((cell_far (p := ⟨gb108, _, none⟩) (blkNe_peristyleref1ByKeys hw104_2 GW108.out) _).trans (hHeld.2.2.2.2.2.2.2.1)))))), ((cell_far (p := ⟨gb108, _, none⟩) (blkNe_peristyleref1ByKeys hw105_0 GW108.out) _).trans (((cell_far (p := ⟨gb108, _, none⟩) (blkNe_peristyleref1ByKeys hw105_0 GW108.out) _).trans (((cell_far (p := ⟨gb108, _, none⟩) (blkNe_peristyleref1ByKeys hw105_0 GW108.out) _).trans (hHeld.2.2.2.2.2.2.2.2.1)))))), ((cell_far (p := ⟨gb108, _, none⟩) (blkNe_peristyleref1ByKeys hw105_1 GW108.out) _).trans (((cell_far (p := ⟨gb108, _, none⟩) (blkNe_peristyleref1ByKeys hw105_1 GW108.out) _).trans (((cell_far (p := ⟨gb108, _, none⟩) (blkNe_peristyleref1ByKeys hw105_1 GW108.out) _).trans (hHeld.2.2.2.2.2.2.2.2.2.1)))))), ((cell_far (p := ⟨gb108, _, none⟩) (blkNe_peristyleref1ByKeys hw105_2 GW108.out) _).trans (((cell_far (p := ⟨gb108, _, none⟩) (blkNe_peristyleref1ByKeys hw105_2 GW108.out) _).trans (((cell_far (p := ⟨gb108, _, none⟩) (blkNe_peristyleref1ByKeys hw105_2 GW108.out) _).trans (hHeld.2.2.2.2.2.2.2.2.2.2.1)))))), ((cell_far (p := ⟨gb108, _, none⟩) (blkNe_peristyleref1ByKeys hw106_0 GW108.out) _).trans (((cell_far (p := ⟨gb108, _, none⟩) (blkNe_peristyleref1ByKeys hw106_0 GW108.out) _).trans (((cell_far (p := ⟨gb108, _, none⟩) (blkNe_peristyleref1ByKeys hw106_0 GW108.out) _).trans (hHeld.2.2.2.2.2.2.2.2.2.2.2.1)))))), ((cell_far (p := ⟨gb108, _, none⟩) (blkNe_peristyleref1ByKeys hw106_1 GW108.out) _).trans (((cell_far (p := ⟨gb108, _, none⟩) (blkNe_peristyleref1ByKeys hw106_1 GW108.out) _).trans (((cell_far (p := ⟨gb108, _, none⟩) (blkNe_peristyleref1ByKeys hw106_1 GW108.out) _).trans (hHeld.2.2.2.2.2.2.2.2.2.2.2.2.1)))))), ((cell_far (p := ⟨gb108, _, none⟩) (blkNe_peristyleref1ByKeys hw106_2 GW108.out) _).trans (((cell_far (p := ⟨gb108, _, none⟩) (blkNe_peristyleref1ByKeys hw106_2 GW108.out) _).trans (((cell_far (p := ⟨gb108, _, none⟩) (blkNe_peristyleref1ByKeys hw106_2 GW108.out) _).trans (hHeld.2.2.2.2.2.2.2.2.2.2.2.2.2))))))⟩ (fun hHeld => ?_)
                  clear hK K
                  refine done_ (done_of HT_.out (by kernel_rfl)) ?_
                  have hnb23 := NB107_101.out
                  have hnc23 := NB101_107.out
                  have hnb24 := NB107_102.out
                  have hnc24 := NB102_107.out
                  have hnb25 := NB107_108.out
                  have hnc25 := NB108_107.out
                  have hcz26_0 : w16.cell? ⟨gb107, 0, none⟩ = some (.int .i64 0) := (blk_cell BK107.out 0).trans rfl
                  have hcz26_1 : w16.cell? ⟨gb107, 1, none⟩ = some (.int .i64 0) := (blk_cell BK107.out 1).trans rfl
                  have hcz26_2 : w16.cell? ⟨gb107, 2, none⟩ = some (.string (⟨#[]⟩ : ByteArray)) := (blk_cell BK107.out 2).trans rfl
                  have hfz26_0 := blk_frozen BK107.out 0
                  have hfz26_1 := blk_frozen BK107.out 1
                  have hfz26_2 := blk_frozen BK107.out 2
                  have hnb27 := NB108_101.out
                  have hnc27 := NB101_108.out
                  have hnb28 := NB108_102.out
                  have hnc28 := NB102_108.out
                  have hcz29_0 : w16.cell? ⟨gb108, 0, none⟩ = some (.int .i64 0) := (blk_cell BK108.out 0).trans rfl
                  have hcz29_1 : w16.cell? ⟨gb108, 1, none⟩ = some (.int .i64 0) := (blk_cell BK108.out 1).trans rfl
                  have hcz29_2 : w16.cell? ⟨gb108, 2, none⟩ = some (.string (⟨#[]⟩ : ByteArray)) := (blk_cell BK108.out 2).trans rfl
                  have hfz29_0 := blk_frozen BK108.out 0
                  have hfz29_1 := blk_frozen BK108.out 1
                  have hfz29_2 := blk_frozen BK108.out 2
                  try go_wp2_with (first | ((with_reducible refine gate_callee (f := 90) rfl ?_); refine goesL_ (some 37) rfl rfl Tryd.func90 (by kernel_rfl) rfl #[.agg #[.int .i64 ((rd_T23 l1_0 ((rd_T138 l0 x7_1).f0)).f0), .int .i64 ((rd_T23 l1_0 ((rd_T138 l0 x7_1).f0)).f1), .string ((rd_T23 l1_0 ((rd_T138 l0 x7_1).f0)).f2)], .agg #[.int .i64 ((rd_T23 l2_0 ((rd_T138 l0 x7_1).f0)).f0), .int .i64 ((rd_T23 l2_0 ((rd_T138 l0 x7_1).f0)).f1), .string ((rd_T23 l2_0 ((rd_T138 l0 x7_1).f0)).f2)]] rfl (by (try simp only [List.map_toArray, List.map_cons, List.map_nil]); first | done | rfl | (simp only [List.length_drop, List.length_take]; rfl)) ?_; (with_reducible refine (peristyleref1_Order.calls ((rd_T23 l1_0 ((rd_T138 l0 x7_1).f0)).f0) ((rd_T23 l1_0 ((rd_T138 l0 x7_1).f0)).f1) ((rd_T23 l1_0 ((rd_T138 l0 x7_1).f0)).f2) ((rd_T23 l2_0 ((rd_T138 l0 x7_1).f0)).f0) ((rd_T23 l2_0 ((rd_T138 l0 x7_1).f0)).f1) ((rd_T23 l2_0 ((rd_T138 l0 x7_1).f0)).f2) t109 _ A11.out).mono ?_); rintro e w30 ⟨rfl, hb⟩; refine ⟨_, rfl, ?_⟩; have n0_ := Aside0.mk (blk_below (g := gb101) (o := .cells #[.slice (some ad104) l1_0.length c1_0] 50 (0, 0)) (by (with_reducible repeat (first | refine blk_drewN ?_ _ | refine blk_drew ?_ | refine blk_alloc ?_ _)); refine blk_far ?_ NB101_108.out _; (with_reducible repeat (first | refine blk_drewN ?_ _ | refine blk_drew ?_ | refine blk_alloc ?_ _)); refine blk_far ?_ NB101_108.out _; (with_reducible repeat (first | refine blk_drewN ?_ _ | refine blk_drew ?_ | refine blk_alloc ?_ _)); refine blk_far ?_ NB101_108.out _; (with_reducible repeat (first | refine blk_drewN ?_ _ | refine blk_drew ?_ | refine blk_alloc ?_ _)); refine blk_far ?_ NB101_107.out _; (with_reducible repeat (first | refine blk_drewN ?_ _ | refine blk_drew ?_ | refine blk_alloc ?_ _)); refine blk_far ?_ NB101_107.out _; (with_reducible repeat (first | refine blk_drewN ?_ _ | refine blk_drew ?_ | refine blk_alloc ?_ _)); refine blk_far ?_ NB101_107.out _; (with_reducible repeat (first | refine blk_drewN ?_ _ | refine blk_drew ?_ | refine blk_alloc ?_ _)); exact BK101.out) hb); have n1_ := Aside0.mk (blk_below (g := gb102) (o := .cells #[.slice (some ad106) l2_0.length c2_0] 50 (0, 0)) (by (with_reducible repeat (first | refine blk_drewN ?_ _ | refine blk_drew ?_ | refine blk_alloc ?_ _)); refine blk_far ?_ NB102_108.out _; (with_reducible repeat (first | refine blk_drewN ?_ _ | refine blk_drew ?_ | refine blk_alloc ?_ _)); refine blk_far ?_ NB102_108.out _; (with_reducible repeat (first | refine blk_drewN ?_ _ | refine blk_drew ?_ | refine blk_alloc ?_ _)); refine blk_far ?_ NB102_108.out _; (with_reducible repeat (first | refine blk_drewN ?_ _ | refine blk_drew ?_ | refine blk_alloc ?_ _)); refine blk_far ?_ NB102_107.out _; (with_reducible repeat (first | refine blk_drewN ?_ _ | refine blk_drew ?_ | refine blk_alloc ?_ _)); refine blk_far ?_ NB102_107.out _; (with_reducible repeat (first | refine blk_drewN ?_ _ | refine blk_drew ?_ | refine blk_alloc ?_ _)); refine blk_far ?_ NB102_107.out _; (with_reducible repeat (first | refine blk_drewN ?_ _ | refine blk_drew ?_ | refine blk_alloc ?_ _)); exact BK102.out) hb); have n2_ := Aside0.mk (blk_below (g := gb107) (o := .cells #[.int .i64 ((rd_T23 l1_0 ((rd_T138 l0 x7_1).f0)).f0), .int .i64 ((rd_T23 l1_0 ((rd_T138 l0 x7_1).f0)).f1), .string ((rd_T23 l1_0 ((rd_T138 l0 x7_1).f0)).f2)] 23 (0, 0)) (by (with_reducible repeat (first | refine blk_drewN ?_ _ | refine blk_drew ?_ | refine blk_alloc ?_ _)); refine blk_far ?_ NB107_108.out _; (with_reducible repeat (first | refine blk_drewN ?_ _ | refine blk_drew ?_ | refine blk_alloc ?_ _)); refine blk_far ?_ NB107_108.out _; (with_reducible repeat (first | refine blk_drewN ?_ _ | refine blk_drew ?_ | refine blk_alloc ?_ _)); refine blk_far ?_ NB107_108.out _; (with_reducible repeat (first | refine blk_drewN ?_ _ | refine blk_drew ?_ | refine blk_alloc ?_ _)); refine blk_put (cs := #[.int .i64 ((rd_T23 l1_0 ((rd_T138 l0 x7_1).f0)).f0), .int .i64 ((rd_T23 l1_0 ((rd_T138 l0 x7_1).f0)).f1), .string (⟨#[]⟩ : ByteArray)]) ?_ 2 _ rfl; (with_reducible repeat (first | refine blk_drewN ?_ _ | refine blk_drew ?_ | refine blk_alloc ?_ _)); refine blk_put (cs := #[.int .i64 ((rd_T23 l1_0 ((rd_T138 l0 x7_1).f0)).f0), .int .i64 0, .string (⟨#[]⟩ : ByteArray)]) ?_ 1 _ rfl; (with_reducible repeat (first | refine blk_drewN ?_ _ | refine blk_drew ?_ | refine blk_alloc ?_ _)); refine blk_put (cs := #[.int .i64 0, .int .i64 0, .string (⟨#[]⟩ : ByteArray)]) ?_ 0 _ rfl; (with_reducible repeat (first | refine blk_drewN ?_ _ | refine blk_drew ?_ | refine blk_alloc ?_ _)); exact BK107.out) hb); have n3_ := Aside0.mk (blk_below (g := gb108) (o := .cells #[.int .i64 ((rd_T23 l2_0 ((rd_T138 l0 x7_1).f0)).f0), .int .i64 ((rd_T23 l2_0 ((rd_T138 l0 x7_1).f0)).f1), .string ((rd_T23 l2_0 ((rd_T138 l0 x7_1).f0)).f2)] 23 (0, 0)) (by (with_reducible repeat (first | refine blk_drewN ?_ _ | refine blk_drew ?_ | refine blk_alloc ?_ _)); refine blk_put (cs := #[.int .i64 ((rd_T23 l2_0 ((rd_T138 l0 x7_1).f0)).f0), .int .i64 ((rd_T23 l2_0 ((rd_T138 l0 x7_1).f0)).f1), .string (⟨#[]⟩ : ByteArray)]) ?_ 2 _ rfl; (with_reducible repeat (first | refine blk_drewN ?_ _ | refine blk_drew ?_ | refine blk_alloc ?_ _)); refine blk_put (cs := #[.int .i64 ((rd_T23 l2_0 ((rd_T138 l0 x7_1).f0)).f0), .int .i64 0, .string (⟨#[]⟩ : ByteArray)]) ?_ 1 _ rfl; (with_reducible repeat (first | refine blk_drewN ?_ _ | refine blk_drew ?_ | refine blk_alloc ?_ _)); refine blk_put (cs := #[.int .i64 0, .int .i64 0, .string (⟨#[]⟩ : ByteArray)]) ?_ 0 _ rfl; (with_reducible repeat (first | refine blk_drewN ?_ _ | refine blk_drew ?_ | refine blk_alloc ?_ _)); refine blk_far ?_ NB108_107.out _; (with_reducible repeat (first | refine blk_drewN ?_ _ | refine blk_drew ?_ | refine blk_alloc ?_ _)); refine blk_far ?_ NB108_107.out _; (with_reducible repeat (first | refine blk_drewN ?_ _ | refine blk_drew ?_ | refine blk_alloc ?_ _)); refine blk_far ?_ NB108_107.out _; (with_reducible repeat (first | refine blk_drewN ?_ _ | refine blk_drew ?_ | refine blk_alloc ?_ _)); exact BK108.out) hb); have n4_ := Aside0.mk (below_step (by repeat (first | (with_reducible first | exact HB.out | apply below_alloc | apply pw_below_drewN | apply below_drew1 | refine below_set ?_ GE101.out | refine below_set ?_ GE102.out | refine below_set ?_ GE107.out | refine below_set ?_ GE108.out) | exact HB.out)) hb); clear BK101; clear BK102; clear BK107; clear BK108; clear HB; have BK101 := n0_; have BK102 := n1_; have BK107 := n2_; have BK108 := n3_; have HB := n4_; clear n0_ n1_ n2_ n3_ n4_; (try clear hb); (try clear hb2); (try clear hk); (try clear hi)))
                  go_roundg k1
                  case measure => have := HK1.out; omega
                  case rel => exact ⟨(wrap64 (x7_1 + 1)), (by first | rfl | (simp; done) | (simp [*]; done) | (simp [Go.bneNilE]; done) | (simp [*, Go.bneNilE]; done)), H', ⟨by have := HK1.out; omega⟩, ⟨by (with_reducible repeat (first | refine blk_drewN ?_ _ | refine blk_drew ?_ | refine blk_alloc ?_ _)); exact BK101.out⟩, ⟨by (with_reducible repeat (first | refine blk_drewN ?_ _ | refine blk_drew ?_ | refine blk_alloc ?_ _)); exact BK102.out⟩, ⟨by repeat (first | (with_reducible first | exact HB.out | apply below_alloc | apply pw_below_drewN | apply below_drew1 | refine below_set ?_ GE101.out | refine below_set ?_ GE102.out | refine below_set ?_ GE107.out | refine below_set ?_ GE108.out) | exact HB.out)⟩⟩
                · rw [if_neg c12] at H
                  have c12b0 : (t109 == 0) = false := beq_eq_false_iff_ne.mpr c12
                  have c12b1 : (t109 != 0) = true := bne_iff_ne.mpr c12
                  have HC31 := Aside0.mk H
                  clear H
                  try go_wp2
                  have n0_ := Aside0.mk (blk_drew BK101.out)
                  have n1_ := Aside0.mk (blk_drew BK102.out)
                  have n2_ := Aside0.mk (below_drew1 HB.out)
                  clear BK101
                  clear BK102
                  clear HB
                  have BK101 := n0_
                  have BK102 := n1_
                  have HB := n2_
                  clear n0_ n1_ n2_
                  have p103 : 0 ≤ (x7_1 : Int) := of_decide_eq_true (by first | (with_reducible assumption) | assumption)
                  have q103 : x7_1 < (l0.length : Int) := of_decide_eq_true (by first | (with_reducible assumption) | assumption)
                  obtain ⟨ad103, e103, hx103_0, hx103_1, hx103_2⟩ := at_T138 HR0.out x7_1 p103 q103
                  have hw103_2 := hx103_2
                  have hw103_1 := hx103_1
                  have hw103_0 := hx103_0
                  cases e103
                  replace hx103_0 := (HB.out.cell (World.block_lt_of_cell? w _ hx103_0)).trans hx103_0
                  replace hx103_1 := (HB.out.cell (World.block_lt_of_cell? w _ hx103_1)).trans hx103_1
                  replace hx103_2 := (HB.out.cell (World.block_lt_of_cell? w _ hx103_2)).trans hx103_2
                  replace p103 := eq_true p103
                  replace q103 := eq_true q103
                  have p104 : 0 ≤ (((rd_T138 l0 x7_1).f0) : Int) := of_decide_eq_true (by first | (with_reducible assumption) | assumption)
                  have q104 : ((rd_T138 l0 x7_1).f0) < (l1_0.length : Int) := of_decide_eq_true (by first | (with_reducible assumption) | assumption)
                  obtain ⟨ad104, e104, hx104_0, hx104_1, hx104_2⟩ := at_T23 HR1_0.out ((rd_T138 l0 x7_1).f0) p104 q104
                  have hw104_2 := hx104_2
                  have hw104_1 := hx104_1
                  have hw104_0 := hx104_0
                  cases e104
                  replace hx104_0 := (HB.out.cell (World.block_lt_of_cell? w _ hx104_0)).trans hx104_0
                  replace hx104_1 := (HB.out.cell (World.block_lt_of_cell? w _ hx104_1)).trans hx104_1
                  replace hx104_2 := (HB.out.cell (World.block_lt_of_cell? w _ hx104_2)).trans hx104_2
                  replace p104 := eq_true p104
                  replace q104 := eq_true q104
                  have p105 : 0 ≤ (x7_1 : Int) := of_decide_eq_true (by first | (with_reducible assumption) | assumption)
                  have q105 : x7_1 < (l0.length : Int) := of_decide_eq_true (by first | (with_reducible assumption) | assumption)
                  obtain ⟨ad105, e105, hx105_0, hx105_1, hx105_2⟩ := at_T138 HR0.out x7_1 p105 q105
                  have hw105_2 := hx105_2
                  have hw105_1 := hx105_1
                  have hw105_0 := hx105_0
                  obtain rfl : ad103 = ad105 := (by injection e105)
                  replace hx105_0 := (HB.out.cell (World.block_lt_of_cell? w _ hx105_0)).trans hx105_0
                  replace hx105_1 := (HB.out.cell (World.block_lt_of_cell? w _ hx105_1)).trans hx105_1
                  replace hx105_2 := (HB.out.cell (World.block_lt_of_cell? w _ hx105_2)).trans hx105_2
                  replace p105 := eq_true p105
                  replace q105 := eq_true q105
                  have p106 : 0 ≤ (((rd_T138 l0 x7_1).f0) : Int) := of_decide_eq_true (by first | (with_reducible assumption) | assumption)
                  have q106 : ((rd_T138 l0 x7_1).f0) < (l2_0.length : Int) := of_decide_eq_true (by first | (with_reducible assumption) | assumption)
                  obtain ⟨ad106, e106, hx106_0, hx106_1, hx106_2⟩ := at_T23 HR2_0.out ((rd_T138 l0 x7_1).f0) p106 q106
                  have hw106_2 := hx106_2
                  have hw106_1 := hx106_1
                  have hw106_0 := hx106_0
                  cases e106
                  replace hx106_0 := (HB.out.cell (World.block_lt_of_cell? w _ hx106_0)).trans hx106_0
                  replace hx106_1 := (HB.out.cell (World.block_lt_of_cell? w _ hx106_1)).trans hx106_1
                  replace hx106_2 := (HB.out.cell (World.block_lt_of_cell? w _ hx106_2)).trans hx106_2
                  replace p106 := eq_true p106
                  replace q106 := eq_true q106
                  refine start_ (n := 22) (S := fun w' => w'.cell? ⟨gb101, 0, none⟩ = some (.slice (some ad104) l1_0.length c1_0) ∧ w'.cell? ⟨gb102, 0, none⟩ = some (.slice (some ad106) l2_0.length c2_0) ∧ w'.cell? (ad103.add ((x7_1).toNat * 3)) = some (.int .i64 ((rd_T138 l0 x7_1).f0)) ∧ w'.cell? ⟨(ad103.add ((x7_1).toNat * 3)).block, (ad103.add ((x7_1).toNat * 3)).off + 1, none⟩ = some (.bool ((rd_T138 l0 x7_1).f1)) ∧ w'.cell? ⟨(ad103.add ((x7_1).toNat * 3)).block, (ad103.add ((x7_1).toNat * 3)).off + 2, none⟩ = some (.bool ((rd_T138 l0 x7_1).f2)) ∧ w'.cell? (ad104.add ((((rd_T138 l0 x7_1).f0)).toNat * 3)) = some (.int .i64 ((rd_T23 l1_0 ((rd_T138 l0 x7_1).f0)).f0)) ∧ w'.cell? ⟨(ad104.add ((((rd_T138 l0 x7_1).f0)).toNat * 3)).block, (ad104.add ((((rd_T138 l0 x7_1).f0)).toNat * 3)).off + 1, none⟩ = some (.int .i64 ((rd_T23 l1_0 ((rd_T138 l0 x7_1).f0)).f1)) ∧ w'.cell? ⟨(ad104.add ((((rd_T138 l0 x7_1).f0)).toNat * 3)).block, (ad104.add ((((rd_T138 l0 x7_1).f0)).toNat * 3)).off + 2, none⟩ = some (.string ((rd_T23 l1_0 ((rd_T138 l0 x7_1).f0)).f2)) ∧ w'.cell? (ad103.add ((x7_1).toNat * 3)) = some (.int .i64 ((rd_T138 l0 x7_1).f0)) ∧ w'.cell? ⟨(ad103.add ((x7_1).toNat * 3)).block, (ad103.add ((x7_1).toNat * 3)).off + 1, none⟩ = some (.bool ((rd_T138 l0 x7_1).f1)) ∧ w'.cell? ⟨(ad103.add ((x7_1).toNat * 3)).block, (ad103.add ((x7_1).toNat * 3)).off + 2, none⟩ = some (.bool ((rd_T138 l0 x7_1).f2)) ∧ w'.cell? (ad106.add ((((rd_T138 l0 x7_1).f0)).toNat * 3)) = some (.int .i64 ((rd_T23 l2_0 ((rd_T138 l0 x7_1).f0)).f0)) ∧ w'.cell? ⟨(ad106.add ((((rd_T138 l0 x7_1).f0)).toNat * 3)).block, (ad106.add ((((rd_T138 l0 x7_1).f0)).toNat * 3)).off + 1, none⟩ = some (.int .i64 ((rd_T23 l2_0 ((rd_T138 l0 x7_1).f0)).f1)) ∧ w'.cell? ⟨(ad106.add ((((rd_T138 l0 x7_1).f0)).toNat * 3)).block, (ad106.add ((((rd_T138 l0 x7_1).f0)).toNat * 3)).off + 2, none⟩ = some (.string ((rd_T23 l2_0 ((rd_T138 l0 x7_1).f0)).f2))) (ds := []) #[false, false, false, false, false, false, false, false, false, false, false, false, false, false, false, false, false, false, false, false, false, false] (by kernel_rfl) rfl rfl ⟨(blk_cell BK101.out 0).trans rfl, (blk_cell BK102.out 0).trans rfl, ((HB.out.cell (World.block_lt_of_cell? w _ hw103_0)).trans hw103_0), ((HB.out.cell (World.block_lt_of_cell? w _ hw103_1)).trans hw103_1), ((HB.out.cell (World.block_lt_of_cell? w _ hw103_2)).trans hw103_2), ((HB.out.cell (World.block_lt_of_cell? w _ hw104_0)).trans hw104_0), ((HB.out.cell (World.block_lt_of_cell? w _ hw104_1)).trans hw104_1), ((HB.out.cell (World.block_lt_of_cell? w _ hw104_2)).trans hw104_2), ((HB.out.cell (World.block_lt_of_cell? w _ hw105_0)).trans hw105_0), ((HB.out.cell (World.block_lt_of_cell? w _ hw105_1)).trans hw105_1), ((HB.out.cell (World.block_lt_of_cell? w _ hw105_2)).trans hw105_2), ((HB.out.cell (World.block_lt_of_cell? w _ hw106_0)).trans hw106_0), ((HB.out.cell (World.block_lt_of_cell? w _ hw106_1)).trans hw106_1), ((HB.out.cell (World.block_lt_of_cell? w _ hw106_2)).trans hw106_2)⟩ (fun hHeld => ?_); refine with_tabW peristyleref1_ByKeys.tab4 peristyleref1_ByKeys.bits4 (fun HT_ HW_ => ?_)
                  generalize wr.drew = w32 at BK101 BK102 HB hx103_0 hx103_1 hx103_2 hx104_0 hx104_1 hx104_2 hx105_0 hx105_1 hx105_2 hx106_0 hx106_1 hx106_2 hHeld ⊢
                  refine pure_ (i := 0) (N := some 17) (v := ?_) (a' := ?_) #[true, false, false, false, false, false, false, false, false, false, false, false, false, false, false, false, false, false, false, false, false, false] rfl rfl (any_of HT_.out (by kernel_rfl)) (fun _ _ _ h => h) (Or.inl ⟨by rfl, ?_⟩) ?_ ?_
                  rotate_left
                  · intro w'
                    go_simp
                    with_reducible rfl
                  rotate_left
                  · simp only [Act.put, List.setIfInBounds_toArray, List.set_cons_zero, List.set_cons_succ, i64_w, i32_w]
                    rfl
                  refine pure_ (i := 2) (N := some 19) (v := ?_) (a' := ?_) #[true, false, true, false, false, false, false, false, false, false, false, false, false, false, false, false, false, false, false, false, false, false] rfl rfl (any_of HT_.out (by kernel_rfl)) (fun _ _ _ h => h) (Or.inl ⟨by rfl, ?_⟩) ?_ ?_
                  rotate_left
                  · intro w'
                    go_simp
                    with_reducible rfl
                  rotate_left
                  · simp only [Act.put, List.setIfInBounds_toArray, List.set_cons_zero, List.set_cons_succ, i64_w, i32_w]
                    rfl
                  refine pure_ (i := 3) (N := some 20) (v := ?_) (a' := ?_) #[true, false, true, true, false, false, false, false, false, false, false, false, false, false, false, false, false, false, false, false, false, false] rfl rfl (any_of HT_.out (by kernel_rfl)) (fun _ _ _ h => h) (Or.inl ⟨by rfl, ?_⟩) ?_ ?_
                  rotate_left
                  · intro w'
                    go_simp
                    with_reducible rfl
                  rotate_left
                  · simp only [Act.put, List.setIfInBounds_toArray, List.set_cons_zero, List.set_cons_succ, i64_w, i32_w]
                    rfl
                  refine pure_ (i := 4) (N := some 21) (v := ?_) (a' := ?_) #[true, false, true, true, true, false, false, false, false, false, false, false, false, false, false, false, false, false, false, false, false, false] rfl rfl (any_of HT_.out (by kernel_rfl)) (fun _ _ _ h => h) (Or.inl ⟨by rfl, ?_⟩) ?_ ?_
                  rotate_left
                  · intro w'
                    go_simp
                    with_reducible rfl
                  rotate_left
                  · simp only [Act.put, List.setIfInBounds_toArray, List.set_cons_zero, List.set_cons_succ, i64_w, i32_w]
                    rfl
                  refine pure_ (i := 5) (N := some 22) (v := ?_) (a' := ?_) #[true, false, true, true, true, true, false, false, false, false, false, false, false, false, false, false, false, false, false, false, false, false] rfl rfl (any_of HT_.out (by kernel_rfl)) (fun _ _ _ h => h) (Or.inl ⟨by rfl, ?_⟩) ?_ ?_
                  rotate_left
                  · intro w'
                    go_simp
                    with_reducible rfl
                  rotate_left
                  · simp only [Act.put, List.setIfInBounds_toArray, List.set_cons_zero, List.set_cons_succ, i64_w, i32_w]
                    rfl
                  refine pure_ (i := 9) (N := some 26) (v := ?_) (a' := ?_) #[true, false, true, true, true, true, false, false, false, true, false, false, false, false, false, false, false, false, false, false, false, false] rfl rfl (any_of HT_.out (by kernel_rfl)) (fun _ _ _ h => h) (Or.inl ⟨by rfl, ?_⟩) ?_ ?_
                  rotate_left
                  · intro w'
                    go_simp
                    with_reducible rfl
                  rotate_left
                  · simp only [Act.put, List.setIfInBounds_toArray, List.set_cons_zero, List.set_cons_succ, i64_w, i32_w]
                    rfl
                  refine pure_ (i := 11) (N := some 28) (v := ?_) (a' := ?_) #[true, false, true, true, true, true, false, false, false, true, false, true, false, false, false, false, false, false, false, false, false, false] rfl rfl (any_of HT_.out (by kernel_rfl)) (fun _ _ _ h => h) (Or.inl ⟨by rfl, ?_⟩) ?_ ?_
                  rotate_left
                  · intro w'
                    go_simp
                    with_reducible rfl
                  rotate_left
                  · simp only [Act.put, List.setIfInBounds_toArray, List.set_cons_zero, List.set_cons_succ, i64_w, i32_w]
                    rfl
                  refine pure_ (i := 12) (N := some 29) (v := ?_) (a' := ?_) #[true, false, true, true, true, true, false, false, false, true, false, true, true, false, false, false, false, false, false, false, false, false] rfl rfl (any_of HT_.out (by kernel_rfl)) (fun _ _ _ h => h) (Or.inl ⟨by rfl, ?_⟩) ?_ ?_
                  rotate_left
                  · intro w'
                    go_simp
                    with_reducible rfl
                  rotate_left
                  · simp only [Act.put, List.setIfInBounds_toArray, List.set_cons_zero, List.set_cons_succ, i64_w, i32_w]
                    rfl
                  refine pure_ (i := 13) (N := some 30) (v := ?_) (a' := ?_) #[true, false, true, true, true, true, false, false, false, true, false, true, true, true, false, false, false, false, false, false, false, false] rfl rfl (any_of HT_.out (by kernel_rfl)) (fun _ _ _ h => h) (Or.inl ⟨by rfl, ?_⟩) ?_ ?_
                  rotate_left
                  · intro w'
                    go_simp
                    with_reducible rfl
                  rotate_left
                  · simp only [Act.put, List.setIfInBounds_toArray, List.set_cons_zero, List.set_cons_succ, i64_w, i32_w]
                    rfl
                  refine pure_ (i := 14) (N := some 31) (v := ?_) (a' := ?_) #[true, false, true, true, true, true, false, false, false, true, false, true, true, true, true, false, false, false, false, false, false, false] rfl rfl (any_of HT_.out (by kernel_rfl)) (fun _ _ _ h => h) (Or.inl ⟨by rfl, ?_⟩) ?_ ?_
                  rotate_left
                  · intro w'
                    go_simp
                    with_reducible rfl
                  rotate_left
                  · simp only [Act.put, List.setIfInBounds_toArray, List.set_cons_zero, List.set_cons_succ, i64_w, i32_w]
                    rfl
                  refine take_ (i := 1) (N := some 18) (v := ?_) (a' := ?_) #[true, true, true, true, true, true, false, false, false, true, false, true, true, true, true, false, false, false, false, false, false, false] rfl rfl (take_ofW HT_.out HW_.out (by kernel_rfl)) (fun _ _ _ h => h) (Or.inl ⟨by rfl, ?_⟩) hHeld ?_ ?_
                  rotate_left
                  · rintro w' ⟨s0, s1, s2, s3, s4, s5, s6, s7, s8, s9, s10, s11, s12, s13⟩
                    go_simp
                    with_reducible rfl
                  rotate_left
                  · simp only [Act.put, List.setIfInBounds_toArray, List.set_cons_zero, List.set_cons_succ, i64_w, i32_w]
                    rfl
                  refine take_ (i := 6) (N := some 23) (v := ?_) (a' := ?_) #[true, true, true, true, true, true, true, false, false, true, false, true, true, true, true, false, false, false, false, false, false, false] rfl rfl (take_ofW HT_.out HW_.out (by kernel_rfl)) (fun _ _ _ h => h) (Or.inl ⟨by rfl, ?_⟩) hHeld ?_ ?_
                  rotate_left
                  · rintro w' ⟨s0, s1, s2, s3, s4, s5, s6, s7, s8, s9, s10, s11, s12, s13⟩
                    go_simp
                    with_reducible rfl
                  rotate_left
                  · simp only [Act.put, List.setIfInBounds_toArray, List.set_cons_zero, List.set_cons_succ, i64_w, i32_w]
                    rfl
                  refine pure_ (i := 7) (N := some 24) (v := ?_) (a' := ?_) #[true, true, true, true, true, true, true, true, false, true, false, true, true, true, true, false, false, false, false, false, false, false] rfl rfl (any_of HT_.out (by kernel_rfl)) (fun _ _ _ h => h) (Or.inl ⟨by rfl, ?_⟩) ?_ ?_
                  rotate_left
                  · intro w'
                    go_simp
                    with_reducible rfl
                  rotate_left
                  · simp only [Act.put, List.setIfInBounds_toArray, List.set_cons_zero, List.set_cons_succ, i64_w, i32_w]
                    rfl
                  refine take_ (i := 8) (N := some 25) (v := ?_) (a' := ?_) #[true, true, true, true, true, true, true, true, true, true, false, true, true, true, true, false, false, false, false, false, false, false] rfl rfl (take_ofW HT_.out HW_.out (by kernel_rfl)) (fun _ _ _ h => h) (Or.inl ⟨by rfl, ?_⟩) hHeld ?_ ?_
                  rotate_left
                  · rintro w' ⟨s0, s1, s2, s3, s4, s5, s6, s7, s8, s9, s10, s11, s12, s13⟩
                    go_simp
                    with_reducible rfl
                  rotate_left
                  · simp only [Act.put, List.setIfInBounds_toArray, List.set_cons_zero, List.set_cons_succ, i64_w, i32_w]
                    rfl
                  refine take_ (i := 10) (N := some 27) (v := ?_) (a' := ?_) #[true, true, true, true, true, true, true, true, true, true, true, true, true, true, true, false, false, false, false, false, false, false] rfl rfl (take_ofW HT_.out HW_.out (by kernel_rfl)) (fun _ _ _ h => h) (Or.inl ⟨by rfl, ?_⟩) hHeld ?_ ?_
                  rotate_left
                  · rintro w' ⟨s0, s1, s2, s3, s4, s5, s6, s7, s8, s9, s10, s11, s12, s13⟩
                    go_simp
                    with_reducible rfl
                  rotate_left
                  · simp only [Act.put, List.setIfInBounds_toArray, List.set_cons_zero, List.set_cons_succ, i64_w, i32_w]
                    rfl
                  refine take_ (i := 15) (N := some 32) (v := ?_) (a' := ?_) #[true, true, true, true, true, true, true, true, true, true, true, true, true, true, true, true, false, false, false, false, false, false] rfl rfl (take_ofW HT_.out HW_.out (by kernel_rfl)) (fun _ _ _ h => h) (Or.inl ⟨by rfl, ?_⟩) hHeld ?_ ?_
                  rotate_left
                  · rintro w' ⟨s0, s1, s2, s3, s4, s5, s6, s7, s8, s9, s10, s11, s12, s13⟩
                    go_simp
                    with_reducible rfl
                  rotate_left
                  · simp only [Act.put, List.setIfInBounds_toArray, List.set_cons_zero, List.set_cons_succ, i64_w, i32_w]
                    rfl
                  refine pure_ (i := 16) (N := some 33) (v := ?_) (a' := ?_) #[true, true, true, true, true, true, true, true, true, true, true, true, true, true, true, true, true, false, false, false, false, false] rfl rfl (any_of HT_.out (by kernel_rfl)) (fun _ _ _ h => h) (Or.inl ⟨by rfl, ?_⟩) ?_ ?_
                  rotate_left
                  · intro w'
                    go_simp
                    with_reducible rfl
                  rotate_left
                  · simp only [Act.put, List.setIfInBounds_toArray, List.set_cons_zero, List.set_cons_succ, i64_w, i32_w]
                    rfl
                  refine take_ (i := 17) (N := some 34) (v := ?_) (a' := ?_) #[true, true, true, true, true, true, true, true, true, true, true, true, true, true, true, true, true, true, false, false, false, false] rfl rfl (take_ofW HT_.out HW_.out (by kernel_rfl)) (fun _ _ _ h => h) (Or.inl ⟨by rfl, ?_⟩) hHeld ?_ ?_
                  rotate_left
                  · rintro w' ⟨s0, s1, s2, s3, s4, s5, s6, s7, s8, s9, s10, s11, s12, s13⟩
                    go_simp
                    with_reducible rfl
                  rotate_left
                  · simp only [Act.put, List.setIfInBounds_toArray, List.set_cons_zero, List.set_cons_succ, i64_w, i32_w]
                    rfl
                  refine join_ (σ := Nat × Nat) 2 #[true, true, true, true, true, true, true, true, true, true, true, true, true, true, true, true, true, true, true, true, false, false] (fun s_ => [(8, .pointer (some ⟨s_.1, 0, none⟩)), (9, .pointer (some ⟨s_.2, 0, none⟩))]) (fun s_ w' => (w'.cell? ⟨gb101, 0, none⟩ = some (.slice (some ad104) l1_0.length c1_0) ∧ w'.cell? ⟨gb102, 0, none⟩ = some (.slice (some ad106) l2_0.length c2_0) ∧ w'.cell? (ad103.add ((x7_1).toNat * 3)) = some (.int .i64 ((rd_T138 l0 x7_1).f0)) ∧ w'.cell? ⟨(ad103.add ((x7_1).toNat * 3)).block, (ad103.add ((x7_1).toNat * 3)).off + 1, none⟩ = some (.bool ((rd_T138 l0 x7_1).f1)) ∧ w'.cell? ⟨(ad103.add ((x7_1).toNat * 3)).block, (ad103.add ((x7_1).toNat * 3)).off + 2, none⟩ = some (.bool ((rd_T138 l0 x7_1).f2)) ∧ w'.cell? (ad104.add ((((rd_T138 l0 x7_1).f0)).toNat * 3)) = some (.int .i64 ((rd_T23 l1_0 ((rd_T138 l0 x7_1).f0)).f0)) ∧ w'.cell? ⟨(ad104.add ((((rd_T138 l0 x7_1).f0)).toNat * 3)).block, (ad104.add ((((rd_T138 l0 x7_1).f0)).toNat * 3)).off + 1, none⟩ = some (.int .i64 ((rd_T23 l1_0 ((rd_T138 l0 x7_1).f0)).f1)) ∧ w'.cell? ⟨(ad104.add ((((rd_T138 l0 x7_1).f0)).toNat * 3)).block, (ad104.add ((((rd_T138 l0 x7_1).f0)).toNat * 3)).off + 2, none⟩ = some (.string ((rd_T23 l1_0 ((rd_T138 l0 x7_1).f0)).f2)) ∧ w'.cell? (ad103.add ((x7_1).toNat * 3)) = some (.int .i64 ((rd_T138 l0 x7_1).f0)) ∧ w'.cell? ⟨(ad103.add ((x7_1).toNat * 3)).block, (ad103.add ((x7_1).toNat * 3)).off + 1, none⟩ = some (.bool ((rd_T138 l0 x7_1).f1)) ∧ w'.cell? ⟨(ad103.add ((x7_1).toNat * 3)).block, (ad103.add ((x7_1).toNat * 3)).off + 2, none⟩ = some (.bool ((rd_T138 l0 x7_1).f2)) ∧ w'.cell? (ad106.add ((((rd_T138 l0 x7_1).f0)).toNat * 3)) = some (.int .i64 ((rd_T23 l2_0 ((rd_T138 l0 x7_1).f0)).f0)) ∧ w'.cell? ⟨(ad106.add ((((rd_T138 l0 x7_1).f0)).toNat * 3)).block, (ad106.add ((((rd_T138 l0 x7_1).f0)).toNat * 3)).off + 1, none⟩ = some (.int .i64 ((rd_T23 l2_0 ((rd_T138 l0 x7_1).f0)).f1)) ∧ w'.cell? ⟨(ad106.add ((((rd_T138 l0 x7_1).f0)).toNat * 3)).block, (ad106.add ((((rd_T138 l0 x7_1).f0)).toNat * 3)).off + 2, none⟩ = some (.string ((rd_T23 l2_0 ((rd_T138 l0 x7_1).f0)).f2))) ∧ (w'.heap[gb101]? = some (.cells #[.slice (some ad104) l1_0.length c1_0] 50 (0, 0))) ∧ (w'.heap[gb102]? = some (.cells #[.slice (some ad106) l2_0.length c2_0] 50 (0, 0))) ∧ (w'.heap[s_.1]? = some (.cells #[.int .i64 0, .int .i64 0, .string (⟨#[]⟩ : ByteArray)] 23 (0, 0))) ∧ (w'.heap[s_.2]? = some (.cells #[.int .i64 0, .int .i64 0, .string (⟨#[]⟩ : ByteArray)] 23 (0, 0))) ∧ (w.heap.size ≤ s_.1) ∧ (w.heap.size ≤ s_.1) ∧ (gb101 ≠ s_.1) ∧ (s_.1 ≠ gb101) ∧ (gb102 ≠ s_.1) ∧ (s_.1 ≠ gb102) ∧ (s_.2 ≠ s_.1) ∧ (s_.1 ≠ s_.2) ∧ (w.heap.size ≤ s_.2) ∧ (w.heap.size ≤ s_.2) ∧ (gb101 ≠ s_.2) ∧ (s_.2 ≠ gb101) ∧ (gb102 ≠ s_.2) ∧ (s_.2 ≠ gb102) ∧ (Below w.heap.size w w')) ?_ ?_
                  rotate_left
                  · intro hCont
                    refine two_ (i := 18) (j := 19) (Ni := some 8) (Nj := some 9) #[true, true, true, true, true, true, true, true, true, true, true, true, true, true, true, true, true, true, true, false, false, false] #[true, true, true, true, true, true, true, true, true, true, true, true, true, true, true, true, true, true, false, true, false, false] rfl rfl rfl rfl (two_of HT_.out (by kernel_rfl)) (by decide) (by decide) (fun K hK => ?_) (fun K hK => ?_)
                    · skip
                      refine box_step ?hg (N := 8) ?hd (cs := #[.int .i64 0, .int .i64 0, .string (⟨#[]⟩ : ByteArray)]) (t := 23) ?hr ?_; (case hd => rfl); (case hg => rfl); (case hr => first | (go_simp; done) | (go_simp; rfl))
                      intro gb107 hg w33 hbox hb
                      have n0_ := Aside0.mk (blk_below (g := gb101) (o := .cells #[.slice (some ad104) l1_0.length c1_0] 50 (0, 0)) (by (with_reducible repeat (first | refine blk_drewN ?_ _ | refine blk_drew ?_ | refine blk_alloc ?_ _)); exact BK101.out) hb)
                      have n1_ := Aside0.mk (blk_below (g := gb102) (o := .cells #[.slice (some ad106) l2_0.length c2_0] 50 (0, 0)) (by (with_reducible repeat (first | refine blk_drewN ?_ _ | refine blk_drew ?_ | refine blk_alloc ?_ _)); exact BK102.out) hb)
                      have n2_ := Aside0.mk (below_step (by repeat (first | (with_reducible first | exact HB.out | apply below_alloc | apply pw_below_drewN | apply below_drew1 | refine below_set ?_ GE101.out | refine below_set ?_ GE102.out) | exact HB.out)) hb)
                      have n3_ := Aside0.mk (hbox)
                      have n4_ := Aside0.mk ((by rw [hg]; exact (below_size (by repeat (first | (with_reducible first | exact HB.out | apply below_alloc | apply pw_below_drewN | apply below_drew1 | refine below_set ?_ GE101.out | refine below_set ?_ GE102.out) | exact HB.out))) : w.heap.size ≤ gb107))
                      have n5_ := Aside0.mk ((by rw [hg]; exact (below_size (by repeat (first | (with_reducible first | exact HB.out | apply below_alloc | apply pw_below_drewN | apply below_drew1 | refine below_set ?_ GE101.out | refine below_set ?_ GE102.out) | exact HB.out))) : w.heap.size ≤ gb107))
                      have n6_ := Aside0.mk ((by rw [hg]; exact Nat.ne_of_lt (blk_lt (g := gb101) (o := .cells #[.slice (some ad104) l1_0.length c1_0] 50 (0, 0)) (by (with_reducible repeat (first | refine blk_drewN ?_ _ | refine blk_drew ?_ | refine blk_alloc ?_ _)); exact BK101.out)) : gb101 ≠ gb107))
                      have n7_ := Aside0.mk ((by rw [hg]; exact Nat.ne_of_gt (blk_lt (g := gb101) (o := .cells #[.slice (some ad104) l1_0.length c1_0] 50 (0, 0)) (by (with_reducible repeat (first | refine blk_drewN ?_ _ | refine blk_drew ?_ | refine blk_alloc ?_ _)); exact BK101.out)) : gb107 ≠ gb101))
                      have n8_ := Aside0.mk ((by rw [hg]; exact Nat.ne_of_lt (blk_lt (g := gb102) (o := .cells #[.slice (some ad106) l2_0.length c2_0] 50 (0, 0)) (by (with_reducible repeat (first | refine blk_drewN ?_ _ | refine blk_drew ?_ | refine blk_alloc ?_ _)); exact BK102.out)) : gb102 ≠ gb107))
                      have n9_ := Aside0.mk ((by rw [hg]; exact Nat.ne_of_gt (blk_lt (g := gb102) (o := .cells #[.slice (some ad106) l2_0.length c2_0] 50 (0, 0)) (by (with_reducible repeat (first | refine blk_drewN ?_ _ | refine blk_drew ?_ | refine blk_alloc ?_ _)); exact BK102.out)) : gb107 ≠ gb102))
                      clear BK101
                      clear BK102
                      clear HB
                      have BK101 := n0_
                      have BK102 := n1_
                      have HB := n2_
                      have BK107 := n3_
                      have GW107 := n4_
                      have GE107 := n5_
                      have NB101_107 := n6_
                      have NB107_101 := n7_
                      have NB102_107 := n8_
                      have NB107_102 := n9_
                      clear n0_ n1_ n2_ n3_ n4_ n5_ n6_ n7_ n8_ n9_
                      clear hb hbox hg
                      refine hK.out _ _ ⟨(blk_cell BK101.out 0).trans rfl, (blk_cell BK102.out 0).trans rfl, ((HB.out.cell (World.block_lt_of_cell? w _ hw103_0)).trans hw103_0), ((HB.out.cell (World.block_lt_of_cell? w _ hw103_1)).trans hw103_1), ((HB.out.cell (World.block_lt_of_cell? w _ hw103_2)).trans hw103_2), ((HB.out.cell (World.block_lt_of_cell? w _ hw104_0)).trans hw104_0), ((HB.out.cell (World.block_lt_of_cell? w _ hw104_1)).trans hw104_1), ((HB.out.cell (World.block_lt_of_cell? w _ hw104_2)).trans hw104_2), ((HB.out.cell (World.block_lt_of_cell? w _ hw105_0)).trans hw105_0), ((HB.out.cell (World.block_lt_of_cell? w _ hw105_1)).trans hw105_1), ((HB.out.cell (World.block_lt_of_cell? w _ hw105_2)).trans hw105_2), ((HB.out.cell (World.block_lt_of_cell? w _ hw106_0)).trans hw106_0), ((HB.out.cell (World.block_lt_of_cell? w _ hw106_1)).trans hw106_1), ((HB.out.cell (World.block_lt_of_cell? w _ hw106_2)).trans hw106_2)⟩ (fun hHeld => ?_)
                      clear hK K
                      refine norm_ (a' := ?_) ?_ ?_
                      rotate_left
                      · show Act.put _ (some 8) _ = _
                        simp only [Act.put, List.setIfInBounds_toArray, List.set_cons_zero, List.set_cons_succ, i64_w, i32_w]
                        rfl
                      refine one_ (i := 19) (N := some 9) #[true, true, true, true, true, true, true, true, true, true, true, true, true, true, true, true, true, true, true, true, false, false] rfl rfl (one_of HT_.out (by kernel_rfl)) (by decide) (fun K hK => ?_)
                      refine box_step ?hg (N := 9) ?hd (cs := #[.int .i64 0, .int .i64 0, .string (⟨#[]⟩ : ByteArray)]) (t := 23) ?hr ?_; (case hd => rfl); (case hg => rfl); (case hr => first | (go_simp; done) | (go_simp; rfl))
                      intro gb108 hg w34 hbox hb
                      have n0_ := Aside0.mk (blk_below (g := gb101) (o := .cells #[.slice (some ad104) l1_0.length c1_0] 50 (0, 0)) (by (with_reducible repeat (first | refine blk_drewN ?_ _ | refine blk_drew ?_ | refine blk_alloc ?_ _)); exact BK101.out) hb)
                      have n1_ := Aside0.mk (blk_below (g := gb102) (o := .cells #[.slice (some ad106) l2_0.length c2_0] 50 (0, 0)) (by (with_reducible repeat (first | refine blk_drewN ?_ _ | refine blk_drew ?_ | refine blk_alloc ?_ _)); exact BK102.out) hb)
                      have n2_ := Aside0.mk (blk_below (g := gb107) (o := .cells #[.int .i64 0, .int .i64 0, .string (⟨#[]⟩ : ByteArray)] 23 (0, 0)) (by (with_reducible repeat (first | refine blk_drewN ?_ _ | refine blk_drew ?_ | refine blk_alloc ?_ _)); exact BK107.out) hb)
                      have n3_ := Aside0.mk (below_step (by repeat (first | (with_reducible first | exact HB.out | apply below_alloc | apply pw_below_drewN | apply below_drew1 | refine below_set ?_ GE101.out | refine below_set ?_ GE102.out | refine below_set ?_ GE107.out) | exact HB.out)) hb)
                      have n4_ := Aside0.mk (hbox)
                      have n5_ := Aside0.mk ((by rw [hg]; exact (below_size (by repeat (first | (with_reducible first | exact HB.out | apply below_alloc | apply pw_below_drewN | apply below_drew1 | refine below_set ?_ GE101.out | refine below_set ?_ GE102.out | refine below_set ?_ GE107.out) | exact HB.out))) : w.heap.size ≤ gb108))
                      have n6_ := Aside0.mk ((by rw [hg]; exact (below_size (by repeat (first | (with_reducible first | exact HB.out | apply below_alloc | apply pw_below_drewN | apply below_drew1 | refine below_set ?_ GE101.out | refine below_set ?_ GE102.out | refine below_set ?_ GE107.out) | exact HB.out))) : w.heap.size ≤ gb108))
                      have n7_ := Aside0.mk ((by rw [hg]; exact Nat.ne_of_lt (blk_lt (g := gb101) (o := .cells #[.slice (some ad104) l1_0.length c1_0] 50 (0, 0)) (by (with_reducible repeat (first | refine blk_drewN ?_ _ | refine blk_drew ?_ | refine blk_alloc ?_ _)); exact BK101.out)) : gb101 ≠ gb108))
                      have n8_ := Aside0.mk ((by rw [hg]; exact Nat.ne_of_gt (blk_lt (g := gb101) (o := .cells #[.slice (some ad104) l1_0.length c1_0] 50 (0, 0)) (by (with_reducible repeat (first | refine blk_drewN ?_ _ | refine blk_drew ?_ | refine blk_alloc ?_ _)); exact BK101.out)) : gb108 ≠ gb101))
                      have n9_ := Aside0.mk ((by rw [hg]; exact Nat.ne_of_lt (blk_lt (g := gb102) (o := .cells #[.slice (some ad106) l2_0.length c2_0] 50 (0, 0)) (by (with_reducible repeat (first | refine blk_drewN ?_ _ | refine blk_drew ?_ | refine blk_alloc ?_ _)); exact BK102.out)) : gb102 ≠ gb108))
                      have n10_ := Aside0.mk ((by rw [hg]; exact Nat.ne_of_gt (blk_lt (g := gb102) (o := .cells #[.slice (some ad106) l2_0.length c2_0] 50 (0, 0)) (by (with_reducible repeat (first | refine blk_drewN ?_ _ | refine blk_drew ?_ | refine blk_alloc ?_ _)); exact BK102.out)) : gb108 ≠ gb102))
                      have n11_ := Aside0.mk ((by rw [hg]; exact Nat.ne_of_lt (blk_lt (g := gb107) (o := .cells #[.int .i64 0, .int .i64 0, .string (⟨#[]⟩ : ByteArray)] 23 (0, 0)) (by (with_reducible repeat (first | refine blk_drewN ?_ _ | refine blk_drew ?_ | refine blk_alloc ?_ _)); exact BK107.out)) : gb107 ≠ gb108))
                      have n12_ := Aside0.mk ((by rw [hg]; exact Nat.ne_of_gt (blk_lt (g := gb107) (o := .cells #[.int .i64 0, .int .i64 0, .string (⟨#[]⟩ : ByteArray)] 23 (0, 0)) (by (with_reducible repeat (first | refine blk_drewN ?_ _ | refine blk_drew ?_ | refine blk_alloc ?_ _)); exact BK107.out)) : gb108 ≠ gb107))
                      clear BK101
                      clear BK102
                      clear BK107
                      clear HB
                      have BK101 := n0_
                      have BK102 := n1_
                      have BK107 := n2_
                      have HB := n3_
                      have BK108 := n4_
                      have GW108 := n5_
                      have GE108 := n6_
                      have NB101_108 := n7_
                      have NB108_101 := n8_
                      have NB102_108 := n9_
                      have NB108_102 := n10_
                      have NB107_108 := n11_
                      have NB108_107 := n12_
                      clear n0_ n1_ n2_ n3_ n4_ n5_ n6_ n7_ n8_ n9_ n10_ n11_ n12_
                      clear hb hbox hg
                      refine hK.out _ _ ⟨(blk_cell BK101.out 0).trans rfl, (blk_cell BK102.out 0).trans rfl, ((HB.out.cell (World.block_lt_of_cell? w _ hw103_0)).trans hw103_0), ((HB.out.cell (World.block_lt_of_cell? w _ hw103_1)).trans hw103_1), ((HB.out.cell (World.block_lt_of_cell? w _ hw103_2)).trans hw103_2), ((HB.out.cell (World.block_lt_of_cell? w _ hw104_0)).trans hw104_0), ((HB.out.cell (World.block_lt_of_cell? w _ hw104_1)).trans hw104_1), ((HB.out.cell (World.block_lt_of_cell? w _ hw104_2)).trans hw104_2), ((HB.out.cell (World.block_lt_of_cell? w _ hw105_0)).trans hw105_0), ((HB.out.cell (World.block_lt_of_cell? w _ hw105_1)).trans hw105_1), ((HB.out.cell (World.block_lt_of_cell? w _ hw105_2)).trans hw105_2), ((HB.out.cell (World.block_lt_of_cell? w _ hw106_0)).trans hw106_0), ((HB.out.cell (World.block_lt_of_cell? w _ hw106_1)).trans hw106_1), ((HB.out.cell (World.block_lt_of_cell? w _ hw106_2)).trans hw106_2)⟩ (fun hHeld => ?_)
                      clear hK K
                      refine norm_ (a' := ?_) ?_ ?_
                      rotate_left
                      · show Act.put _ (some 9) _ = _
                        simp only [Act.put, List.setIfInBounds_toArray, List.set_cons_zero, List.set_cons_succ, i64_w, i32_w]
                        rfl
                      exact norm_ (by simp only [putAll, Act.put, List.setIfInBounds_toArray, List.set_cons_zero, List.set_cons_succ]) (hCont (gb107, gb108) _ ⟨hHeld, (by (with_reducible repeat (first | refine blk_drewN ?_ _ | refine blk_drew ?_ | refine blk_alloc ?_ _)); exact BK101.out), (by (with_reducible repeat (first | refine blk_drewN ?_ _ | refine blk_drew ?_ | refine blk_alloc ?_ _)); exact BK102.out), (by (with_reducible repeat (first | refine blk_drewN ?_ _ | refine blk_drew ?_ | refine blk_alloc ?_ _)); exact BK107.out), (by (with_reducible repeat (first | refine blk_drewN ?_ _ | refine blk_drew ?_ | refine blk_alloc ?_ _)); exact BK108.out), GW107.out, GE107.out, NB101_107.out, NB107_101.out, NB102_107.out, NB107_102.out, NB108_107.out, NB107_108.out, GW108.out, GE108.out, NB101_108.out, NB108_101.out, NB102_108.out, NB108_102.out, (by repeat (first | (with_reducible first | exact HB.out | apply below_alloc | apply pw_below_drewN | apply below_drew1 | refine below_set ?_ GE101.out | refine below_set ?_ GE102.out | refine below_set ?_ GE107.out | refine below_set ?_ GE108.out) | exact HB.out))⟩)
                    · skip
                      refine box_step ?hg (N := 9) ?hd (cs := #[.int .i64 0, .int .i64 0, .string (⟨#[]⟩ : ByteArray)]) (t := 23) ?hr ?_; (case hd => rfl); (case hg => rfl); (case hr => first | (go_simp; done) | (go_simp; rfl))
                      intro gb108 hg w33 hbox hb
                      have n0_ := Aside0.mk (blk_below (g := gb101) (o := .cells #[.slice (some ad104) l1_0.length c1_0] 50 (0, 0)) (by (with_reducible repeat (first | refine blk_drewN ?_ _ | refine blk_drew ?_ | refine blk_alloc ?_ _)); exact BK101.out) hb)
                      have n1_ := Aside0.mk (blk_below (g := gb102) (o := .cells #[.slice (some ad106) l2_0.length c2_0] 50 (0, 0)) (by (with_reducible repeat (first | refine blk_drewN ?_ _ | refine blk_drew ?_ | refine blk_alloc ?_ _)); exact BK102.out) hb)
                      have n2_ := Aside0.mk (below_step (by repeat (first | (with_reducible first | exact HB.out | apply below_alloc | apply pw_below_drewN | apply below_drew1 | refine below_set ?_ GE101.out | refine below_set ?_ GE102.out) | exact HB.out)) hb)
                      have n3_ := Aside0.mk (hbox)
                      have n4_ := Aside0.mk ((by rw [hg]; exact (below_size (by repeat (first | (with_reducible first | exact HB.out | apply below_alloc | apply pw_below_drewN | apply below_drew1 | refine below_set ?_ GE101.out | refine below_set ?_ GE102.out) | exact HB.out))) : w.heap.size ≤ gb108))
                      have n5_ := Aside0.mk ((by rw [hg]; exact (below_size (by repeat (first | (with_reducible first | exact HB.out | apply below_alloc | apply pw_below_drewN | apply below_drew1 | refine below_set ?_ GE101.out | refine below_set ?_ GE102.out) | exact HB.out))) : w.heap.size ≤ gb108))
                      have n6_ := Aside0.mk ((by rw [hg]; exact Nat.ne_of_lt (blk_lt (g := gb101) (o := .cells #[.slice (some ad104) l1_0.length c1_0] 50 (0, 0)) (by (with_reducible repeat (first | refine blk_drewN ?_ _ | refine blk_drew ?_ | refine blk_alloc ?_ _)); exact BK101.out)) : gb101 ≠ gb108))
                      have n7_ := Aside0.mk ((by rw [hg]; exact Nat.ne_of_gt (blk_lt (g := gb101) (o := .cells #[.slice (some ad104) l1_0.length c1_0] 50 (0, 0)) (by (with_reducible repeat (first | refine blk_drewN ?_ _ | refine blk_drew ?_ | refine blk_alloc ?_ _)); exact BK101.out)) : gb108 ≠ gb101))
                      have n8_ := Aside0.mk ((by rw [hg]; exact Nat.ne_of_lt (blk_lt (g := gb102) (o := .cells #[.slice (some ad106) l2_0.length c2_0] 50 (0, 0)) (by (with_reducible repeat (first | refine blk_drewN ?_ _ | refine blk_drew ?_ | refine blk_alloc ?_ _)); exact BK102.out)) : gb102 ≠ gb108))
                      have n9_ := Aside0.mk ((by rw [hg]; exact Nat.ne_of_gt (blk_lt (g := gb102) (o := .cells #[.slice (some ad106) l2_0.length c2_0] 50 (0, 0)) (by (with_reducible repeat (first | refine blk_drewN ?_ _ | refine blk_drew ?_ | refine blk_alloc ?_ _)); exact BK102.out)) : gb108 ≠ gb102))
                      clear BK101
                      clear BK102
                      clear HB
                      have BK101 := n0_
                      have BK102 := n1_
                      have HB := n2_
                      have BK108 := n3_
                      have GW108 := n4_
                      have GE108 := n5_
                      have NB101_108 := n6_
                      have NB108_101 := n7_
                      have NB102_108 := n8_
                      have NB108_102 := n9_
                      clear n0_ n1_ n2_ n3_ n4_ n5_ n6_ n7_ n8_ n9_
                      clear hb hbox hg
                      refine hK.out _ _ ⟨(blk_cell BK101.out 0).trans rfl, (blk_cell BK102.out 0).trans rfl, ((HB.out.cell (World.block_lt_of_cell? w _ hw103_0)).trans hw103_0), ((HB.out.cell (World.block_lt_of_cell? w _ hw103_1)).trans hw103_1), ((HB.out.cell (World.block_lt_of_cell? w _ hw103_2)).trans hw103_2), ((HB.out.cell (World.block_lt_of_cell? w _ hw104_0)).trans hw104_0), ((HB.out.cell (World.block_lt_of_cell? w _ hw104_1)).trans hw104_1), ((HB.out.cell (World.block_lt_of_cell? w _ hw104_2)).trans hw104_2), ((HB.out.cell (World.block_lt_of_cell? w _ hw105_0)).trans hw105_0), ((HB.out.cell (World.block_lt_of_cell? w _ hw105_1)).trans hw105_1), ((HB.out.cell (World.block_lt_of_cell? w _ hw105_2)).trans hw105_2), ((HB.out.cell (World.block_lt_of_cell? w _ hw106_0)).trans hw106_0), ((HB.out.cell (World.block_lt_of_cell? w _ hw106_1)).trans hw106_1), ((HB.out.cell (World.block_lt_of_cell? w _ hw106_2)).trans hw106_2)⟩ (fun hHeld => ?_)
                      clear hK K
                      refine norm_ (a' := ?_) ?_ ?_
                      rotate_left
                      · show Act.put _ (some 9) _ = _
                        simp only [Act.put, List.setIfInBounds_toArray, List.set_cons_zero, List.set_cons_succ, i64_w, i32_w]
                        rfl
                      refine one_ (i := 18) (N := some 8) #[true, true, true, true, true, true, true, true, true, true, true, true, true, true, true, true, true, true, true, true, false, false] rfl rfl (one_of HT_.out (by kernel_rfl)) (by decide) (fun K hK => ?_)
                      refine box_step ?hg (N := 8) ?hd (cs := #[.int .i64 0, .int .i64 0, .string (⟨#[]⟩ : ByteArray)]) (t := 23) ?hr ?_; (case hd => rfl); (case hg => rfl); (case hr => first | (go_simp; done) | (go_simp; rfl))
                      intro gb107 hg w34 hbox hb
                      have n0_ := Aside0.mk (blk_below (g := gb101) (o := .cells #[.slice (some ad104) l1_0.length c1_0] 50 (0, 0)) (by (with_reducible repeat (first | refine blk_drewN ?_ _ | refine blk_drew ?_ | refine blk_alloc ?_ _)); exact BK101.out) hb)
                      have n1_ := Aside0.mk (blk_below (g := gb102) (o := .cells #[.slice (some ad106) l2_0.length c2_0] 50 (0, 0)) (by (with_reducible repeat (first | refine blk_drewN ?_ _ | refine blk_drew ?_ | refine blk_alloc ?_ _)); exact BK102.out) hb)
                      have n2_ := Aside0.mk (blk_below (g := gb108) (o := .cells #[.int .i64 0, .int .i64 0, .string (⟨#[]⟩ : ByteArray)] 23 (0, 0)) (by (with_reducible repeat (first | refine blk_drewN ?_ _ | refine blk_drew ?_ | refine blk_alloc ?_ _)); exact BK108.out) hb)
                      have n3_ := Aside0.mk (below_step (by repeat (first | (with_reducible first | exact HB.out | apply below_alloc | apply pw_below_drewN | apply below_drew1 | refine below_set ?_ GE101.out | refine below_set ?_ GE102.out | refine below_set ?_ GE108.out) | exact HB.out)) hb)
                      have n4_ := Aside0.mk (hbox)
                      have n5_ := Aside0.mk ((by rw [hg]; exact (below_size (by repeat (first | (with_reducible first | exact HB.out | apply below_alloc | apply pw_below_drewN | apply below_drew1 | refine below_set ?_ GE101.out | refine below_set ?_ GE102.out | refine below_set ?_ GE108.out) | exact HB.out))) : w.heap.size ≤ gb107))
                      have n6_ := Aside0.mk ((by rw [hg]; exact (below_size (by repeat (first | (with_reducible first | exact HB.out | apply below_alloc | apply pw_below_drewN | apply below_drew1 | refine below_set ?_ GE101.out | refine below_set ?_ GE102.out | refine below_set ?_ GE108.out) | exact HB.out))) : w.heap.size ≤ gb107))
                      have n7_ := Aside0.mk ((by rw [hg]; exact Nat.ne_of_lt (blk_lt (g := gb101) (o := .cells #[.slice (some ad104) l1_0.length c1_0] 50 (0, 0)) (by (with_reducible repeat (first | refine blk_drewN ?_ _ | refine blk_drew ?_ | refine blk_alloc ?_ _)); exact BK101.out)) : gb101 ≠ gb107))
                      have n8_ := Aside0.mk ((by rw [hg]; exact Nat.ne_of_gt (blk_lt (g := gb101) (o := .cells #[.slice (some ad104) l1_0.length c1_0] 50 (0, 0)) (by (with_reducible repeat (first | refine blk_drewN ?_ _ | refine blk_drew ?_ | refine blk_alloc ?_ _)); exact BK101.out)) : gb107 ≠ gb101))
                      have n9_ := Aside0.mk ((by rw [hg]; exact Nat.ne_of_lt (blk_lt (g := gb102) (o := .cells #[.slice (some ad106) l2_0.length c2_0] 50 (0, 0)) (by (with_reducible repeat (first | refine blk_drewN ?_ _ | refine blk_drew ?_ | refine blk_alloc ?_ _)); exact BK102.out)) : gb102 ≠ gb107))
                      have n10_ := Aside0.mk ((by rw [hg]; exact Nat.ne_of_gt (blk_lt (g := gb102) (o := .cells #[.slice (some ad106) l2_0.length c2_0] 50 (0, 0)) (by (with_reducible repeat (first | refine blk_drewN ?_ _ | refine blk_drew ?_ | refine blk_alloc ?_ _)); exact BK102.out)) : gb107 ≠ gb102))
                      have n11_ := Aside0.mk ((by rw [hg]; exact Nat.ne_of_lt (blk_lt (g := gb108) (o := .cells #[.int .i64 0, .int .i64 0, .string (⟨#[]⟩ : ByteArray)] 23 (0, 0)) (by (with_reducible repeat (first | refine blk_drewN ?_ _ | refine blk_drew ?_ | refine blk_alloc ?_ _)); exact BK108.out)) : gb108 ≠ gb107))
                      have n12_ := Aside0.mk ((by rw [hg]; exact Nat.ne_of_gt (blk_lt (g := gb108) (o := .cells #[.int .i64 0, .int .i64 0, .string (⟨#[]⟩ : ByteArray)] 23 (0, 0)) (by (with_reducible repeat (first | refine blk_drewN ?_ _ | refine blk_drew ?_ | refine blk_alloc ?_ _)); exact BK108.out)) : gb107 ≠ gb108))
                      clear BK101
                      clear BK102
                      clear BK108
                      clear HB
                      have BK101 := n0_
                      have BK102 := n1_
                      have BK108 := n2_
                      have HB := n3_
                      have BK107 := n4_
                      have GW107 := n5_
                      have GE107 := n6_
                      have NB101_107 := n7_
                      have NB107_101 := n8_
                      have NB102_107 := n9_
                      have NB107_102 := n10_
                      have NB108_107 := n11_
                      have NB107_108 := n12_
                      clear n0_ n1_ n2_ n3_ n4_ n5_ n6_ n7_ n8_ n9_ n10_ n11_ n12_
                      clear hb hbox hg
                      refine hK.out _ _ ⟨(blk_cell BK101.out 0).trans rfl, (blk_cell BK102.out 0).trans rfl, ((HB.out.cell (World.block_lt_of_cell? w _ hw103_0)).trans hw103_0), ((HB.out.cell (World.block_lt_of_cell? w _ hw103_1)).trans hw103_1), ((HB.out.cell (World.block_lt_of_cell? w _ hw103_2)).trans hw103_2), ((HB.out.cell (World.block_lt_of_cell? w _ hw104_0)).trans hw104_0), ((HB.out.cell (World.block_lt_of_cell? w _ hw104_1)).trans hw104_1), ((HB.out.cell (World.block_lt_of_cell? w _ hw104_2)).trans hw104_2), ((HB.out.cell (World.block_lt_of_cell? w _ hw105_0)).trans hw105_0), ((HB.out.cell (World.block_lt_of_cell? w _ hw105_1)).trans hw105_1), ((HB.out.cell (World.block_lt_of_cell? w _ hw105_2)).trans hw105_2), ((HB.out.cell (World.block_lt_of_cell? w _ hw106_0)).trans hw106_0), ((HB.out.cell (World.block_lt_of_cell? w _ hw106_1)).trans hw106_1), ((HB.out.cell (World.block_lt_of_cell? w _ hw106_2)).trans hw106_2)⟩ (fun hHeld => ?_)
                      clear hK K
                      refine norm_ (a' := ?_) ?_ ?_
                      rotate_left
                      · show Act.put _ (some 8) _ = _
                        simp only [Act.put, List.setIfInBounds_toArray, List.set_cons_zero, List.set_cons_succ, i64_w, i32_w]
                        rfl
                      exact norm_ (by simp only [putAll, Act.put, List.setIfInBounds_toArray, List.set_cons_zero, List.set_cons_succ]) (hCont (gb107, gb108) _ ⟨hHeld, (by (with_reducible repeat (first | refine blk_drewN ?_ _ | refine blk_drew ?_ | refine blk_alloc ?_ _)); exact BK101.out), (by (with_reducible repeat (first | refine blk_drewN ?_ _ | refine blk_drew ?_ | refine blk_alloc ?_ _)); exact BK102.out), (by (with_reducible repeat (first | refine blk_drewN ?_ _ | refine blk_drew ?_ | refine blk_alloc ?_ _)); exact BK107.out), (by (with_reducible repeat (first | refine blk_drewN ?_ _ | refine blk_drew ?_ | refine blk_alloc ?_ _)); exact BK108.out), GW107.out, GE107.out, NB101_107.out, NB107_101.out, NB102_107.out, NB107_102.out, NB108_107.out, NB107_108.out, GW108.out, GE108.out, NB101_108.out, NB108_101.out, NB102_108.out, NB108_102.out, (by repeat (first | (with_reducible first | exact HB.out | apply below_alloc | apply pw_below_drewN | apply below_drew1 | refine below_set ?_ GE101.out | refine below_set ?_ GE102.out | refine below_set ?_ GE108.out | refine below_set ?_ GE107.out) | exact HB.out))⟩)
                  rintro ⟨gb107, gb108⟩ w35 ⟨hS_, h0_, h1_, h2_, h3_, h4_, h5_, h6_, h7_, h8_, h9_, h10_, h11_, h12_, h13_, h14_, h15_, h16_, h17_, h18_⟩
                  have n0_ : Aside0 (w35.heap[gb101]? = some (.cells #[.slice (some ad104) l1_0.length c1_0] 50 (0, 0))) := ⟨h0_⟩
                  have n1_ : Aside0 (w35.heap[gb102]? = some (.cells #[.slice (some ad106) l2_0.length c2_0] 50 (0, 0))) := ⟨h1_⟩
                  have n2_ : Aside0 (w35.heap[gb107]? = some (.cells #[.int .i64 0, .int .i64 0, .string (⟨#[]⟩ : ByteArray)] 23 (0, 0))) := ⟨h2_⟩
                  have n3_ : Aside0 (w35.heap[gb108]? = some (.cells #[.int .i64 0, .int .i64 0, .string (⟨#[]⟩ : ByteArray)] 23 (0, 0))) := ⟨h3_⟩
                  have n4_ : Aside0 (w.heap.size ≤ gb107) := ⟨h4_⟩
                  have n5_ : Aside0 (w.heap.size ≤ gb107) := ⟨h5_⟩
                  have n6_ : Aside0 (gb101 ≠ gb107) := ⟨h6_⟩
                  have n7_ : Aside0 (gb107 ≠ gb101) := ⟨h7_⟩
                  have n8_ : Aside0 (gb102 ≠ gb107) := ⟨h8_⟩
                  have n9_ : Aside0 (gb107 ≠ gb102) := ⟨h9_⟩
                  have n10_ : Aside0 (gb108 ≠ gb107) := ⟨h10_⟩
                  have n11_ : Aside0 (gb107 ≠ gb108) := ⟨h11_⟩
                  have n12_ : Aside0 (w.heap.size ≤ gb108) := ⟨h12_⟩
                  have n13_ : Aside0 (w.heap.size ≤ gb108) := ⟨h13_⟩
                  have n14_ : Aside0 (gb101 ≠ gb108) := ⟨h14_⟩
                  have n15_ : Aside0 (gb108 ≠ gb101) := ⟨h15_⟩
                  have n16_ : Aside0 (gb102 ≠ gb108) := ⟨h16_⟩
                  have n17_ : Aside0 (gb108 ≠ gb102) := ⟨h17_⟩
                  have n18_ : Aside0 (Below w.heap.size w w35) := ⟨h18_⟩
                  clear BK101
                  clear BK102
                  clear HB
                  clear h0_ h1_ h2_ h3_ h4_ h5_ h6_ h7_ h8_ h9_ h10_ h11_ h12_ h13_ h14_ h15_ h16_ h17_ h18_
                  have BK101 := n0_
                  have BK102 := n1_
                  have BK107 := n2_
                  have BK108 := n3_
                  have GW107 := n4_
                  have GE107 := n5_
                  have NB101_107 := n6_
                  have NB107_101 := n7_
                  have NB102_107 := n8_
                  have NB107_102 := n9_
                  have NB108_107 := n10_
                  have NB107_108 := n11_
                  have GW108 := n12_
                  have GE108 := n13_
                  have NB101_108 := n14_
                  have NB108_101 := n15_
                  have NB102_108 := n16_
                  have NB108_102 := n17_
                  have HB := n18_
                  clear n0_ n1_ n2_ n3_ n4_ n5_ n6_ n7_ n8_ n9_ n10_ n11_ n12_ n13_ n14_ n15_ n16_ n17_ n18_
                  have hHeld : w35.cell? ⟨gb101, 0, none⟩ = some (.slice (some ad104) l1_0.length c1_0) ∧ w35.cell? ⟨gb102, 0, none⟩ = some (.slice (some ad106) l2_0.length c2_0) ∧ w35.cell? (ad103.add ((x7_1).toNat * 3)) = some (.int .i64 ((rd_T138 l0 x7_1).f0)) ∧ w35.cell? ⟨(ad103.add ((x7_1).toNat * 3)).block, (ad103.add ((x7_1).toNat * 3)).off + 1, none⟩ = some (.bool ((rd_T138 l0 x7_1).f1)) ∧ w35.cell? ⟨(ad103.add ((x7_1).toNat * 3)).block, (ad103.add ((x7_1).toNat * 3)).off + 2, none⟩ = some (.bool ((rd_T138 l0 x7_1).f2)) ∧ w35.cell? (ad104.add ((((rd_T138 l0 x7_1).f0)).toNat * 3)) = some (.int .i64 ((rd_T23 l1_0 ((rd_T138 l0 x7_1).f0)).f0)) ∧ w35.cell? ⟨(ad104.add ((((rd_T138 l0 x7_1).f0)).toNat * 3)).block, (ad104.add ((((rd_T138 l0 x7_1).f0)).toNat * 3)).off + 1, none⟩ = some (.int .i64 ((rd_T23 l1_0 ((rd_T138 l0 x7_1).f0)).f1)) ∧ w35.cell? ⟨(ad104.add ((((rd_T138 l0 x7_1).f0)).toNat * 3)).block, (ad104.add ((((rd_T138 l0 x7_1).f0)).toNat * 3)).off + 2, none⟩ = some (.string ((rd_T23 l1_0 ((rd_T138 l0 x7_1).f0)).f2)) ∧ w35.cell? (ad103.add ((x7_1).toNat * 3)) = some (.int .i64 ((rd_T138 l0 x7_1).f0)) ∧ w35.cell? ⟨(ad103.add ((x7_1).toNat * 3)).block, (ad103.add ((x7_1).toNat * 3)).off + 1, none⟩ = some (.bool ((rd_T138 l0 x7_1).f1)) ∧ w35.cell? ⟨(ad103.add ((x7_1).toNat * 3)).block, (ad103.add ((x7_1).toNat * 3)).off + 2, none⟩ = some (.bool ((rd_T138 l0 x7_1).f2)) ∧ w35.cell? (ad106.add ((((rd_T138 l0 x7_1).f0)).toNat * 3)) = some (.int .i64 ((rd_T23 l2_0 ((rd_T138 l0 x7_1).f0)).f0)) ∧ w35.cell? ⟨(ad106.add ((((rd_T138 l0 x7_1).f0)).toNat * 3)).block, (ad106.add ((((rd_T138 l0 x7_1).f0)).toNat * 3)).off + 1, none⟩ = some (.int .i64 ((rd_T23 l2_0 ((rd_T138 l0 x7_1).f0)).f1)) ∧ w35.cell? ⟨(ad106.add ((((rd_T138 l0 x7_1).f0)).toNat * 3)).block, (ad106.add ((((rd_T138 l0 x7_1).f0)).toNat * 3)).off + 2, none⟩ = some (.string ((rd_T23 l2_0 ((rd_T138 l0 x7_1).f0)).f2)) := hS_
                  refine norm_ (a' := ?_) ?_ ?_
                  rotate_left
                  · simp only [putAll, Act.put, List.setIfInBounds_toArray, List.set_cons_zero, List.set_cons_succ]
                    rfl
                  refine one_ (i := 20) (N := none) #[true, true, true, true, true, true, true, true, true, true, true, true, true, true, true, true, true, true, true, true, true, false] rfl rfl (one_of HT_.out (by kernel_rfl)) (by decide) (fun K hK => ?_)
                  have hs36 : w35.cell? ⟨gb107, 0, none⟩ = some (.int .i64 0) := (blk_cell BK107.out 0).trans rfl
                  have hfs36 := blk_frozen BK107.out 0
                  have hns36_0 := NB101_107.out
                  have hns36_1 := NB102_107.out
                  have hns36_3 := NB108_107.out
                  have hms36_0 := NB107_101.out
                  have hms36_1 := NB107_102.out
                  have hms36_3 := NB107_108.out
                  have hs37 : w35.cell? ⟨gb107, 1, none⟩ = some (.int .i64 0) := (blk_cell BK107.out 1).trans rfl
                  have hfs37 := blk_frozen BK107.out 1
                  have hns37_0 := NB101_107.out
                  have hns37_1 := NB102_107.out
                  have hns37_3 := NB108_107.out
                  have hms37_0 := NB107_101.out
                  have hms37_1 := NB107_102.out
                  have hms37_3 := NB107_108.out
                  have hs38 : w35.cell? ⟨gb107, 2, none⟩ = some (.string (⟨#[]⟩ : ByteArray)) := (blk_cell BK107.out 2).trans rfl
                  have hfs38 := blk_frozen BK107.out 2
                  have hns38_0 := NB101_107.out
                  have hns38_1 := NB102_107.out
                  have hns38_3 := NB108_107.out
                  have hms38_0 := NB107_101.out
                  have hms38_1 := NB107_102.out
                  have hms38_3 := NB107_108.out
                  refine skip_ (w1 := ?_) (by rfl) rfl ?_ ?_
                  rotate_left
                  · go_simp
                    rfl
                  refine hK.out _ _ ⟨((cell_far (p := ⟨gb107, _, none⟩) NB101_107.out _).trans (((cell_far (p := ⟨gb107, _, none⟩) NB101_107.out _).trans (((cell_far (p := ⟨gb107, _, none⟩) NB101_107.out _).trans (hHeld.1)))))), ((cell_far (p := ⟨gb107, _, none⟩) NB102_107.out _).trans (((cell_far (p := ⟨gb107, _, none⟩) NB102_107.out _).trans (((cell_far (p := ⟨gb107, _, none⟩) NB102_107.out _).trans (hHeld.2.1)))))), ((cell_far (p := ⟨gb107, _, none⟩) (blkNe_peristyleref1ByKeys hw103_0 GW107.out) _).trans (((cell_far (p := ⟨gb107, _, none⟩) (blkNe_peristyleref1ByKeys hw103_0 GW107.out) _).trans (((cell_far (p := ⟨gb107, _, none⟩) (blkNe_peristyleref1ByKeys hw103_0 GW107.out) _).trans (hHeld.2.2.1)))))), ((cell_far (p := ⟨gb107, _, none⟩) (blkNe_peristyleref1ByKeys hw103_1 GW107.out) _).trans (((cell_far (p := ⟨gb107, _, none⟩) (blkNe_peristyleref1ByKeys hw103_1 GW107.out) _).trans (((cell_far (p := ⟨gb107, _, none⟩) (blkNe_peristyleref1ByKeys hw103_1 GW107.out) _).trans (hHeld.2.2.2.1)))))), ((cell_far (p := ⟨gb107, _, none⟩) (blkNe_peristyleref1ByKeys hw103_2 GW107.out) _).trans (((cell_far (p := ⟨gb107, _, none⟩) (blkNe_peristyleref1ByKeys hw103_2 GW107.out) _).trans (((cell_far (p := ⟨gb107, _, none⟩) (blkNe_peristyleref1ByKeys hw103_2 GW107.out) _).trans (hHeld.2.2.2.2.1)))))), ((cell_far (p := ⟨gb107, _, none⟩) (blkNe_peristyleref1ByKeys hw104_0 GW107.out) _).trans (((cell_far (p := ⟨gb107, _, none⟩) (blkNe_peristyleref1ByKeys hw104_0 GW107.out) _).trans (((cell_far (p := ⟨gb107, _, none⟩) (blkNe_peristyleref1ByKeys hw104_0 GW107.out) _).trans (hHeld.2.2.2.2.2.1)))))), ((cell_far (p := ⟨gb107, _, none⟩) (blkNe_peristyleref1ByKeys hw104_1 GW107.out) _).trans (((cell_far (p := ⟨gb107, _, none⟩) (blkNe_peristyleref1ByKeys hw104_1 GW107.out) _).trans (((cell_far (p := ⟨gb107, _, none⟩) (blkNe_peristyleref1ByKeys hw104_1 GW107.out) _).trans (hHeld.2.2.2.2.2.2.1)))))), ((cell_far (p := ⟨gb107, _, none⟩) (blkNe_peristyleref1ByKeys hw104_2 GW107.out) _).trans (((cell_far (p := ⟨gb107, _, none⟩) (blkNe_peristyleref1ByKeys hw104_2 GW107.out) _).trans (((cell_far (p := ⟨gb107, _, none⟩) (blkNe_peristyleref1ByKeys hw104_2 GW107.out) _).trans (hHeld.2.2.2.2.2.2.2.1)))))), ((cell_far (p := ⟨gb107, _, none⟩) (blkNe_peristyleref1ByKeys hw105_0 GW107.out) _).trans (((cell_far (p := ⟨gb107, _, none⟩) (blkNe_peristyleref1ByKeys hw105_0 GW107.out) _).trans (((cell_far (p := ⟨gb107, _, none⟩) (blkNe_peristyleref1ByKeys hw105_0 GW107.out) _).trans (hHeld.2.2.2.2.2.2.2.2.1)))))), ((cell_far (p := ⟨gb107, _, none⟩) (blkNe_peristyleref1ByKeys hw105_1 GW107.out) _).trans (((cell_far (p := ⟨gb107, _, none⟩) (blkNe_peristyleref1ByKeys hw105_1 GW107.out) _).trans (((cell_far (p := ⟨gb107, _, none⟩) (blkNe_peristyleref1ByKeys hw105_1 GW107.out) _).trans (hHeld.2.2.2.2.2.2.2.2.2.1)))))), ((cell_far (p := ⟨gb107, _, none⟩) (blkNe_peristyleref1ByKeys hw105_2 GW107.out) _).trans (((cell_far (p := ⟨gb107, _, none⟩) (blkNe_peristyleref1ByKeys hw105_2 GW107.out) _).trans (((cell_far (p := ⟨gb107, _, none⟩) (blkNe_peristyleref1ByKeys hw105_2 GW107.out) _).trans (hHeld.2.2.2.2.2.2.2.2.2.2.1)))))), ((cell_far (p := ⟨gb107, _, none⟩) (blkNe_peristyleref1ByKeys hw106_0 GW107.out) _).trans (((cell_far (p := ⟨gb107, _, none⟩) (blkNe_peristyleref1ByKeys hw106_0 GW107.out) _).trans (((cell_far (p := ⟨gb107, _, none⟩) (blkNe_peristyleref1ByKeys hw106_0 GW107.out) _).trans (hHeld.2.2.2.2.2.2.2.2.2.2.2.1)))))), ((cell_far (p := ⟨gb107, _, none⟩) (blkNe_peristyleref1ByKeys hw106_1 GW107.out) _).trans (((cell_far (p := ⟨gb107, _, none⟩) (blkNe_peristyleref1ByKeys hw106_1 GW107.out) _).trans (((cell_far (p := ⟨gb107, _, none⟩) (blkNe_peristyleref1ByKeys hw106_1 GW107.out) _).trans (hHeld.2.2.2.2.2.2.2.2.2.2.2.2.1)))))), ((cell_far (p := ⟨gb107, _, none⟩) (blkNe_peristyleref1ByKeys hw106_2 GW107.out) _).trans (((cell_far (p := ⟨gb107, _, none⟩) (blkNe_peristyleref1ByKeys hw106_2 GW107.out) _).trans (((cell_far (p := ⟨gb107, _, none⟩) (blkNe_peristyleref1ByKeys hw106_2 GW107.out) _).trans (hHeld.2.2.2.2.2.2.2.2.2.2.2.2.2))))))⟩ (fun hHeld => ?_)
                  clear hK K
                  refine one_ (i := 21) (N := none) #[true, true, true, true, true, true, true, true, true, true, true, true, true, true, true, true, true, true, true, true, true, true] rfl rfl (one_of HT_.out (by kernel_rfl)) (by decide) (fun K hK => ?_)
                  have hs39 : w35.cell? ⟨gb108, 0, none⟩ = some (.int .i64 0) := (blk_cell BK108.out 0).trans rfl
                  have hfs39 := blk_frozen BK108.out 0
                  have hns39_0 := NB101_108.out
                  have hns39_1 := NB102_108.out
                  have hns39_2 := NB107_108.out
                  have hms39_0 := NB108_101.out
                  have hms39_1 := NB108_102.out
                  have hms39_2 := NB108_107.out
                  have hs40 : w35.cell? ⟨gb108, 1, none⟩ = some (.int .i64 0) := (blk_cell BK108.out 1).trans rfl
                  have hfs40 := blk_frozen BK108.out 1
                  have hns40_0 := NB101_108.out
                  have hns40_1 := NB102_108.out
                  have hns40_2 := NB107_108.out
                  have hms40_0 := NB108_101.out
                  have hms40_1 := NB108_102.out
                  have hms40_2 := NB108_107.out
                  have hs41 : w35.cell? ⟨gb108, 2, none⟩ = some (.string (⟨#[]⟩ : ByteArray)) := (blk_cell BK108.out 2).trans rfl
                  have hfs41 := blk_frozen BK108.out 2
                  have hns41_0 := NB101_108.out
                  have hns41_1 := NB102_108.out
                  have hns41_2 := NB107_108.out
                  have hms41_0 := NB108_101.out
                  have hms41_1 := NB108_102.out
                  have hms41_2 := NB108_107.out
                  refine skip_ (w1 := ?_) (by rfl) rfl ?_ ?_
                  rotate_left
                  · go_simp
                    rfl
                  refine hK.out _ _ ⟨((cell_far (p := ⟨gb108, _, none⟩) NB101_108.out _).trans (((cell_far (p := ⟨gb108, _, none⟩) NB101_108.out _).trans (((cell_far (p := ⟨gb108, _, none⟩) NB101_108.out _).trans (hHeld.1)))))), ((cell_far (p := ⟨gb108, _, none⟩) NB102_108.out _).trans (((cell_far (p := ⟨gb108, _, none⟩) NB102_108.out _).trans (((cell_far (p := ⟨gb108, _, none⟩) NB102_108.out _).trans (hHeld.2.1)))))), ((cell_far (p := ⟨gb108, _, none⟩) (blkNe_peristyleref1ByKeys hw103_0 GW108.out) _).trans (((cell_far (p := ⟨gb108, _, none⟩) (blkNe_peristyleref1ByKeys hw103_0 GW108.out) _).trans (((cell_far (p := ⟨gb108, _, none⟩) (blkNe_peristyleref1ByKeys hw103_0 GW108.out) _).trans (hHeld.2.2.1)))))), ((cell_far (p := ⟨gb108, _, none⟩) (blkNe_peristyleref1ByKeys hw103_1 GW108.out) _).trans (((cell_far (p := ⟨gb108, _, none⟩) (blkNe_peristyleref1ByKeys hw103_1 GW108.out) _).trans (((cell_far (p := ⟨gb108, _, none⟩) (blkNe_peristyleref1ByKeys hw103_1 GW108.out) _).trans (hHeld.2.2.2.1)))))), ((cell_far (p := ⟨gb108, _, none⟩) (blkNe_peristyleref1ByKeys hw103_2 GW108.out) _).trans (((cell_far (p := ⟨gb108, _, none⟩) (blkNe_peristyleref1ByKeys hw103_2 GW108.out) _).trans (((cell_far (p := ⟨gb108, _, none⟩) (blkNe_peristyleref1ByKeys hw103_2 GW108.out) _).trans (hHeld.2.2.2.2.1)))))), ((cell_far (p := ⟨gb108, _, none⟩) (blkNe_peristyleref1ByKeys hw104_0 GW108.out) _).trans (((cell_far (p := ⟨gb108, _, none⟩) (blkNe_peristyleref1ByKeys hw104_0 GW108.out) _).trans (((cell_far (p := ⟨gb108, _, none⟩) (blkNe_peristyleref1ByKeys hw104_0 GW108.out) _).trans (hHeld.2.2.2.2.2.1)))))), ((cell_far (p := ⟨gb108, _, none⟩) (blkNe_peristyleref1ByKeys hw104_1 GW108.out) _).trans (((cell_far (p := ⟨gb108, _, none⟩) (blkNe_peristyleref1ByKeys hw104_1 GW108.out) _).trans (((cell_far (p := ⟨gb108, _, none⟩) (blkNe_peristyleref1ByKeys hw104_1 GW108.out) _).trans (hHeld.2.2.2.2.2.2.1)))))), ((cell_far (p := ⟨gb108, _, none⟩) (blkNe_peristyleref1ByKeys hw104_2 GW108.out) _).trans (((cell_far (p := ⟨gb108, _, none⟩) (blkNe_peristyleref1ByKeys hw104_2 GW108.out) _).trans (((cell_far (p := ⟨gb108, _, none⟩) (blkNe_peristyleref1ByKeys hw104_2 GW108.out) _).trans (hHeld.2.2.2.2.2.2.2.1)))))), ((cell_far (p := ⟨gb108, _, none⟩) (blkNe_peristyleref1ByKeys hw105_0 GW108.out) _).trans (((cell_far (p := ⟨gb108, _, none⟩) (blkNe_peristyleref1ByKeys hw105_0 GW108.out) _).trans (((cell_far (p := ⟨gb108, _, none⟩) (blkNe_peristyleref1ByKeys hw105_0 GW108.out) _).trans (hHeld.2.2.2.2.2.2.2.2.1)))))), ((cell_far (p := ⟨gb108, _, none⟩) (blkNe_peristyleref1ByKeys hw105_1 GW108.out) _).trans (((cell_far (p := ⟨gb108, _, none⟩) (blkNe_peristyleref1ByKeys hw105_1 GW108.out) _).trans (((cell_far (p := ⟨gb108, _, none⟩) (blkNe_peristyleref1ByKeys hw105_1 GW108.out) _).trans (hHeld.2.2.2.2.2.2.2.2.2.1)))))), ((cell_far (p := ⟨gb108, _, none⟩) (blkNe_peristyleref1ByKeys hw105_2 GW108.out) _).trans (((cell_far (p := ⟨gb108, _, none⟩) (blkNe_peristyleref1ByKeys hw105_2 GW108.out) _).trans (((cell_far (p := ⟨gb108, _, none⟩) (blkNe_peristyleref1ByKeys hw105_2 GW108.out) _).trans (hHeld.2.2.2.2.2.2.2.2.2.2.1)))))), ((cell_far (p := ⟨gb108, _, none⟩) (blkNe_peristyleref1ByKeys hw106_0 GW108.out) _).trans (((cell_far (p := ⟨gb108, _, none⟩) (blkNe_peristyleref1ByKeys hw106_0 GW108.out) _).trans (((cell_far (p := ⟨gb108, _, none⟩) (blkNe_peristyleref1ByKeys hw106_0 GW108.out) _).trans (hHeld.2.2.2.2.2.2.2.2.2.2.2.1)))))), ((cell_far (p := ⟨gb108, _, none⟩) (blkNe_peristyleref1ByKeys hw106_1 GW108.out) _).trans (((cell_far (p := ⟨gb108, _, none⟩) (blkNe_peristyleref1ByKeys hw106_1 GW108.out) _).trans (((cell_far (p := ⟨gb108, _, none⟩) (blkNe_peristyleref1ByKeys hw106_1 GW108.out) _).trans (hHeld.2.2.2.2.2.2.2.2.2.2.2.2.1)))))), ((cell_far (p := ⟨gb108, _, none⟩) (blkNe_peristyleref1ByKeys hw106_2 GW108.out) _).trans (((cell_far (p := ⟨gb108, _, none⟩) (blkNe_peristyleref1ByKeys hw106_2 GW108.out) _).trans (((cell_far (p := ⟨gb108, _, none⟩) (blkNe_peristyleref1ByKeys hw106_2 GW108.out) _).trans (hHeld.2.2.2.2.2.2.2.2.2.2.2.2.2))))))⟩ (fun hHeld => ?_)
                  clear hK K
                  refine done_ (done_of HT_.out (by kernel_rfl)) ?_
                  have hnb42 := NB107_101.out
                  have hnc42 := NB101_107.out
                  have hnb43 := NB107_102.out
                  have hnc43 := NB102_107.out
                  have hnb44 := NB107_108.out
                  have hnc44 := NB108_107.out
                  have hcz45_0 : w35.cell? ⟨gb107, 0, none⟩ = some (.int .i64 0) := (blk_cell BK107.out 0).trans rfl
                  have hcz45_1 : w35.cell? ⟨gb107, 1, none⟩ = some (.int .i64 0) := (blk_cell BK107.out 1).trans rfl
                  have hcz45_2 : w35.cell? ⟨gb107, 2, none⟩ = some (.string (⟨#[]⟩ : ByteArray)) := (blk_cell BK107.out 2).trans rfl
                  have hfz45_0 := blk_frozen BK107.out 0
                  have hfz45_1 := blk_frozen BK107.out 1
                  have hfz45_2 := blk_frozen BK107.out 2
                  have hnb46 := NB108_101.out
                  have hnc46 := NB101_108.out
                  have hnb47 := NB108_102.out
                  have hnc47 := NB102_108.out
                  have hcz48_0 : w35.cell? ⟨gb108, 0, none⟩ = some (.int .i64 0) := (blk_cell BK108.out 0).trans rfl
                  have hcz48_1 : w35.cell? ⟨gb108, 1, none⟩ = some (.int .i64 0) := (blk_cell BK108.out 1).trans rfl
                  have hcz48_2 : w35.cell? ⟨gb108, 2, none⟩ = some (.string (⟨#[]⟩ : ByteArray)) := (blk_cell BK108.out 2).trans rfl
                  have hfz48_0 := blk_frozen BK108.out 0
                  have hfz48_1 := blk_frozen BK108.out 1
                  have hfz48_2 := blk_frozen BK108.out 2
                  go_upto_region 7 with (first | ((with_reducible refine gate_callee (f := 90) rfl ?_); refine goesL_ (some 37) rfl rfl Tryd.func90 (by kernel_rfl) rfl #[.agg #[.int .i64 ((rd_T23 l1_0 ((rd_T138 l0 x7_1).f0)).f0), .int .i64 ((rd_T23 l1_0 ((rd_T138 l0 x7_1).f0)).f1), .string ((rd_T23 l1_0 ((rd_T138 l0 x7_1).f0)).f2)], .agg #[.int .i64 ((rd_T23 l2_0 ((rd_T138 l0 x7_1).f0)).f0), .int .i64 ((rd_T23 l2_0 ((rd_T138 l0 x7_1).f0)).f1), .string ((rd_T23 l2_0 ((rd_T138 l0 x7_1).f0)).f2)]] rfl (by (try simp only [List.map_toArray, List.map_cons, List.map_nil]); first | done | rfl | (simp only [List.length_drop, List.length_take]; rfl)) ?_; (with_reducible refine (peristyleref1_Order.calls ((rd_T23 l1_0 ((rd_T138 l0 x7_1).f0)).f0) ((rd_T23 l1_0 ((rd_T138 l0 x7_1).f0)).f1) ((rd_T23 l1_0 ((rd_T138 l0 x7_1).f0)).f2) ((rd_T23 l2_0 ((rd_T138 l0 x7_1).f0)).f0) ((rd_T23 l2_0 ((rd_T138 l0 x7_1).f0)).f1) ((rd_T23 l2_0 ((rd_T138 l0 x7_1).f0)).f2) t109 _ A11.out).mono ?_); rintro e w49 ⟨rfl, hb⟩; refine ⟨_, rfl, ?_⟩; have n0_ := Aside0.mk (blk_below (g := gb101) (o := .cells #[.slice (some ad104) l1_0.length c1_0] 50 (0, 0)) (by (with_reducible repeat (first | refine blk_drewN ?_ _ | refine blk_drew ?_ | refine blk_alloc ?_ _)); refine blk_far ?_ NB101_108.out _; (with_reducible repeat (first | refine blk_drewN ?_ _ | refine blk_drew ?_ | refine blk_alloc ?_ _)); refine blk_far ?_ NB101_108.out _; (with_reducible repeat (first | refine blk_drewN ?_ _ | refine blk_drew ?_ | refine blk_alloc ?_ _)); refine blk_far ?_ NB101_108.out _; (with_reducible repeat (first | refine blk_drewN ?_ _ | refine blk_drew ?_ | refine blk_alloc ?_ _)); refine blk_far ?_ NB101_107.out _; (with_reducible repeat (first | refine blk_drewN ?_ _ | refine blk_drew ?_ | refine blk_alloc ?_ _)); refine blk_far ?_ NB101_107.out _; (with_reducible repeat (first | refine blk_drewN ?_ _ | refine blk_drew ?_ | refine blk_alloc ?_ _)); refine blk_far ?_ NB101_107.out _; (with_reducible repeat (first | refine blk_drewN ?_ _ | refine blk_drew ?_ | refine blk_alloc ?_ _)); exact BK101.out) hb); have n1_ := Aside0.mk (blk_below (g := gb102) (o := .cells #[.slice (some ad106) l2_0.length c2_0] 50 (0, 0)) (by (with_reducible repeat (first | refine blk_drewN ?_ _ | refine blk_drew ?_ | refine blk_alloc ?_ _)); refine blk_far ?_ NB102_108.out _; (with_reducible repeat (first | refine blk_drewN ?_ _ | refine blk_drew ?_ | refine blk_alloc ?_ _)); refine blk_far ?_ NB102_108.out _; (with_reducible repeat (first | refine blk_drewN ?_ _ | refine blk_drew ?_ | refine blk_alloc ?_ _)); refine blk_far ?_ NB102_108.out _; (with_reducible repeat (first | refine blk_drewN ?_ _ | refine blk_drew ?_ | refine blk_alloc ?_ _)); refine blk_far ?_ NB102_107.out _; (with_reducible repeat (first | refine blk_drewN ?_ _ | refine blk_drew ?_ | refine blk_alloc ?_ _)); refine blk_far ?_ NB102_107.out _; (with_reducible repeat (first | refine blk_drewN ?_ _ | refine blk_drew ?_ | refine blk_alloc ?_ _)); refine blk_far ?_ NB102_107.out _; (with_reducible repeat (first | refine blk_drewN ?_ _ | refine blk_drew ?_ | refine blk_alloc ?_ _)); exact BK102.out) hb); have n2_ := Aside0.mk (blk_below (g := gb107) (o := .cells #[.int .i64 ((rd_T23 l1_0 ((rd_T138 l0 x7_1).f0)).f0), .int .i64 ((rd_T23 l1_0 ((rd_T138 l0 x7_1).f0)).f1), .string ((rd_T23 l1_0 ((rd_T138 l0 x7_1).f0)).f2)] 23 (0, 0)) (by (with_reducible repeat (first | refine blk_drewN ?_ _ | refine blk_drew ?_ | refine blk_alloc ?_ _)); refine blk_far ?_ NB107_108.out _; (with_reducible repeat (first | refine blk_drewN ?_ _ | refine blk_drew ?_ | refine blk_alloc ?_ _)); refine blk_far ?_ NB107_108.out _; (with_reducible repeat (first | refine blk_drewN ?_ _ | refine blk_drew ?_ | refine blk_alloc ?_ _)); refine blk_far ?_ NB107_108.out _; (with_reducible repeat (first | refine blk_drewN ?_ _ | refine blk_drew ?_ | refine blk_alloc ?_ _)); refine blk_put (cs := #[.int .i64 ((rd_T23 l1_0 ((rd_T138 l0 x7_1).f0)).f0), .int .i64 ((rd_T23 l1_0 ((rd_T138 l0 x7_1).f0)).f1), .string (⟨#[]⟩ : ByteArray)]) ?_ 2 _ rfl; (with_reducible repeat (first | refine blk_drewN ?_ _ | refine blk_drew ?_ | refine blk_alloc ?_ _)); refine blk_put (cs := #[.int .i64 ((rd_T23 l1_0 ((rd_T138 l0 x7_1).f0)).f0), .int .i64 0, .string (⟨#[]⟩ : ByteArray)]) ?_ 1 _ rfl; (with_reducible repeat (first | refine blk_drewN ?_ _ | refine blk_drew ?_ | refine blk_alloc ?_ _)); refine blk_put (cs := #[.int .i64 0, .int .i64 0, .string (⟨#[]⟩ : ByteArray)]) ?_ 0 _ rfl; (with_reducible repeat (first | refine blk_drewN ?_ _ | refine blk_drew ?_ | refine blk_alloc ?_ _)); exact BK107.out) hb); have n3_ := Aside0.mk (blk_below (g := gb108) (o := .cells #[.int .i64 ((rd_T23 l2_0 ((rd_T138 l0 x7_1).f0)).f0), .int .i64 ((rd_T23 l2_0 ((rd_T138 l0 x7_1).f0)).f1), .string ((rd_T23 l2_0 ((rd_T138 l0 x7_1).f0)).f2)] 23 (0, 0)) (by (with_reducible repeat (first | refine blk_drewN ?_ _ | refine blk_drew ?_ | refine blk_alloc ?_ _)); refine blk_put (cs := #[.int .i64 ((rd_T23 l2_0 ((rd_T138 l0 x7_1).f0)).f0), .int .i64 ((rd_T23 l2_0 ((rd_T138 l0 x7_1).f0)).f1), .string (⟨#[]⟩ : ByteArray)]) ?_ 2 _ rfl; (with_reducible repeat (first | refine blk_drewN ?_ _ | refine blk_drew ?_ | refine blk_alloc ?_ _)); refine blk_put (cs := #[.int .i64 ((rd_T23 l2_0 ((rd_T138 l0 x7_1).f0)).f0), .int .i64 0, .string (⟨#[]⟩ : ByteArray)]) ?_ 1 _ rfl; (with_reducible repeat (first | refine blk_drewN ?_ _ | refine blk_drew ?_ | refine blk_alloc ?_ _)); refine blk_put (cs := #[.int .i64 0, .int .i64 0, .string (⟨#[]⟩ : ByteArray)]) ?_ 0 _ rfl; (with_reducible repeat (first | refine blk_drewN ?_ _ | refine blk_drew ?_ | refine blk_alloc ?_ _)); refine blk_far ?_ NB108_107.out _; (with_reducible repeat (first | refine blk_drewN ?_ _ | refine blk_drew ?_ | refine blk_alloc ?_ _)); refine blk_far ?_ NB108_107.out _; (with_reducible repeat (first | refine blk_drewN ?_ _ | refine blk_drew ?_ | refine blk_alloc ?_ _)); refine blk_far ?_ NB108_107.out _; (with_reducible repeat (first | refine blk_drewN ?_ _ | refine blk_drew ?_ | refine blk_alloc ?_ _)); exact BK108.out) hb); have n4_ := Aside0.mk (below_step (by repeat (first | (with_reducible first | exact HB.out | apply below_alloc | apply pw_below_drewN | apply below_drew1 | refine below_set ?_ GE101.out | refine below_set ?_ GE102.out | refine below_set ?_ GE107.out | refine below_set ?_ GE108.out) | exact HB.out)) hb); clear BK101; clear BK102; clear BK107; clear BK108; clear HB; have BK101 := n0_; have BK102 := n1_; have BK107 := n2_; have BK108 := n3_; have HB := n4_; clear n0_ n1_ n2_ n3_ n4_; (try clear hb); (try clear hb2); (try clear hk); (try clear hi)))
                  (try simp only [Act.put, List.setIfInBounds_toArray, List.set_cons_zero, List.set_cons_succ])
                  go_cut [47] (fun v47 wc => ∃ (kq : Nat) (x47_30 : Bool), v47 = .bool x47_30 ∧ Aside0 (peristyleref1_ByKeys.j1 kq l0 x7_1 t109 x47_30 = some r) ∧ Aside0 (kq ≤ k1) ∧ Aside0 (wc.heap[gb101]? = some (.cells #[(.slice (some ad104) l1_0.length c1_0)] 50 (0, 0))) ∧ Aside0 (wc.heap[gb102]? = some (.cells #[(.slice (some ad106) l2_0.length c2_0)] 50 (0, 0))) ∧ Aside0 (wc.heap[gb107]? = some (.cells #[.int .i64 ((rd_T23 l1_0 ((rd_T138 l0 x7_1).f0)).f0), .int .i64 ((rd_T23 l1_0 ((rd_T138 l0 x7_1).f0)).f1), .string ((rd_T23 l1_0 ((rd_T138 l0 x7_1).f0)).f2)] 23 (0, 0))) ∧ Aside0 (wc.heap[gb108]? = some (.cells #[.int .i64 ((rd_T23 l2_0 ((rd_T138 l0 x7_1).f0)).f0), .int .i64 ((rd_T23 l2_0 ((rd_T138 l0 x7_1).f0)).f1), .string ((rd_T23 l2_0 ((rd_T138 l0 x7_1).f0)).f2)] 23 (0, 0))) ∧ Aside0 (Below w.heap.size w wc))
                  case first =>
                    have H := HC31.out
                    clear HC31
                    by_cases c50 : ((rd_T23 l1_0 ((rd_T138 l0 x7_1).f0)).f0) = 0
                    · rw [if_pos c50] at H
                      have c50b0 : (((rd_T23 l1_0 ((rd_T138 l0 x7_1).f0)).f0) == 0) = true := beq_iff_eq.mpr c50
                      have c50b1 : (((rd_T23 l1_0 ((rd_T138 l0 x7_1).f0)).f0) != 0) = false := bne_eq_false_iff_eq.mpr c50
                      clear c50
                      (first | rw [c50b0] | (simp only [i64_w, i32_w]; rw [c50b0]) | skip)
                      have H' := Aside0.mk H
                      clear H
                      have hnb51 := NB107_101.out
                      have hnc51 := NB101_107.out
                      have hnb52 := NB107_102.out
                      have hnc52 := NB102_107.out
                      have hnb53 := NB107_108.out
                      have hnc53 := NB108_107.out
                      have hcz54_0 : w49.cell? ⟨gb107, 0, none⟩ = some (.int .i64 ((rd_T23 l1_0 ((rd_T138 l0 x7_1).f0)).f0)) := (blk_cell BK107.out 0).trans rfl
                      have hcz54_1 : w49.cell? ⟨gb107, 1, none⟩ = some (.int .i64 ((rd_T23 l1_0 ((rd_T138 l0 x7_1).f0)).f1)) := (blk_cell BK107.out 1).trans rfl
                      have hcz54_2 : w49.cell? ⟨gb107, 2, none⟩ = some (.string ((rd_T23 l1_0 ((rd_T138 l0 x7_1).f0)).f2)) := (blk_cell BK107.out 2).trans rfl
                      have hfz54_0 := blk_frozen BK107.out 0
                      have hfz54_1 := blk_frozen BK107.out 1
                      have hfz54_2 := blk_frozen BK107.out 2
                      go_wp2
                      go_meet
                      case rel => exact ⟨_, (true), (by first | rfl | (simp; done) | (simp [*]; done) | (simp [Go.bneNilE]; done) | (simp [*, Go.bneNilE]; done)), H', ⟨by have := HK1.out; first | omega | exact Nat.le_refl _⟩, ⟨by (with_reducible repeat (first | refine blk_drewN ?_ _ | refine blk_drew ?_ | refine blk_alloc ?_ _)); exact BK101.out⟩, ⟨by (with_reducible repeat (first | refine blk_drewN ?_ _ | refine blk_drew ?_ | refine blk_alloc ?_ _)); exact BK102.out⟩, ⟨by (with_reducible repeat (first | refine blk_drewN ?_ _ | refine blk_drew ?_ | refine blk_alloc ?_ _)); exact BK107.out⟩, ⟨by (with_reducible repeat (first | refine blk_drewN ?_ _ | refine blk_drew ?_ | refine blk_alloc ?_ _)); exact BK108.out⟩, ⟨by repeat (first | (with_reducible first | exact HB.out | apply below_alloc | apply pw_below_drewN | apply below_drew1 | refine below_set ?_ GE101.out | refine below_set ?_ GE102.out | refine below_set ?_ GE107.out | refine below_set ?_ GE108.out) | exact HB.out)⟩⟩
                    · rw [if_neg c50] at H
                      have c50b0 : (((rd_T23 l1_0 ((rd_T138 l0 x7_1).f0)).f0) == 0) = false := beq_eq_false_iff_ne.mpr c50
                      have c50b1 : (((rd_T23 l1_0 ((rd_T138 l0 x7_1).f0)).f0) != 0) = true := bne_iff_ne.mpr c50
                      (first | rw [c50b0] | (simp only [i64_w, i32_w]; rw [c50b0]) | skip)
                      have H' := Aside0.mk H
                      clear H
                      have hnb55 := NB107_101.out
                      have hnc55 := NB101_107.out
                      have hnb56 := NB107_102.out
                      have hnc56 := NB102_107.out
                      have hnb57 := NB107_108.out
                      have hnc57 := NB108_107.out
                      have hcz58_0 : w49.cell? ⟨gb107, 0, none⟩ = some (.int .i64 ((rd_T23 l1_0 ((rd_T138 l0 x7_1).f0)).f0)) := (blk_cell BK107.out 0).trans rfl
                      have hcz58_1 : w49.cell? ⟨gb107, 1, none⟩ = some (.int .i64 ((rd_T23 l1_0 ((rd_T138 l0 x7_1).f0)).f1)) := (blk_cell BK107.out 1).trans rfl
                      have hcz58_2 : w49.cell? ⟨gb107, 2, none⟩ = some (.string ((rd_T23 l1_0 ((rd_T138 l0 x7_1).f0)).f2)) := (blk_cell BK107.out 2).trans rfl
                      have hfz58_0 := blk_frozen BK107.out 0
                      have hfz58_1 := blk_frozen BK107.out 1
                      have hfz58_2 := blk_frozen BK107.out 2
                      have hnb59 := NB108_101.out
                      have hnc59 := NB101_108.out
                      have hnb60 := NB108_102.out
                      have hnc60 := NB102_108.out
                      have hcz61_0 : w49.cell? ⟨gb108, 0, none⟩ = some (.int .i64 ((rd_T23 l2_0 ((rd_T138 l0 x7_1).f0)).f0)) := (blk_cell BK108.out 0).trans rfl
                      have hcz61_1 : w49.cell? ⟨gb108, 1, none⟩ = some (.int .i64 ((rd_T23 l2_0 ((rd_T138 l0 x7_1).f0)).f1)) := (blk_cell BK108.out 1).trans rfl
                      have hcz61_2 : w49.cell? ⟨gb108, 2, none⟩ = some (.string ((rd_T23 l2_0 ((rd_T138 l0 x7_1).f0)).f2)) := (blk_cell BK108.out 2).trans rfl
                      have hfz61_0 := blk_frozen BK108.out 0
                      have hfz61_1 := blk_frozen BK108.out 1
                      have hfz61_2 := blk_frozen BK108.out 2
                      go_wp2
                      go_meet
                      case rel => exact ⟨_, ((((rd_T23 l2_0 ((rd_T138 l0 x7_1).f0)).f0) == 0)), (by first | rfl | (simp; done) | (simp [*]; done) | (simp [Go.bneNilE]; done) | (simp [*, Go.bneNilE]; done)), H', ⟨by have := HK1.out; first | omega | exact Nat.le_refl _⟩, ⟨by (with_reducible repeat (first | refine blk_drewN ?_ _ | refine blk_drew ?_ | refine blk_alloc ?_ _)); exact BK101.out⟩, ⟨by (with_reducible repeat (first | refine blk_drewN ?_ _ | refine blk_drew ?_ | refine blk_alloc ?_ _)); exact BK102.out⟩, ⟨by (with_reducible repeat (first | refine blk_drewN ?_ _ | refine blk_drew ?_ | refine blk_alloc ?_ _)); exact BK107.out⟩, ⟨by (with_reducible repeat (first | refine blk_drewN ?_ _ | refine blk_drew ?_ | refine blk_alloc ?_ _)); exact BK108.out⟩, ⟨by repeat (first | (with_reducible first | exact HB.out | apply below_alloc | apply pw_below_drewN | apply below_drew1 | refine below_set ?_ GE101.out | refine below_set ?_ GE102.out | refine below_set ?_ GE107.out | refine below_set ?_ GE108.out) | exact HB.out)⟩⟩
                  case rest =>
                    clear HC31
                    try clear c1
                    try clear p1
                    try clear q1
                    try clear hx1
                    try clear c2
                    try clear p2
                    try clear c4
                    try clear c5
                    try clear c6
                    try clear p6
                    try clear c9
                    try clear p10
                    try clear q10
                    try clear hx10
                    try clear c12
                    try clear c12b0
                    try clear c12b1
                    try clear c23
                    try clear c24
                    try clear c25
                    try clear c27
                    try clear c28
                    try clear c42
                    try clear c43
                    try clear c44
                    try clear c46
                    try clear c47
                    try clear c50
                    try clear c50b0
                    try clear c50b1
                    try clear c51
                    try clear c52
                    try clear c53
                    try clear c55
                    try clear c56
                    try clear c57
                    try clear c59
                    try clear c60
                    try clear hcz26_0
                    try clear hcz26_1
                    try clear hcz26_2
                    try clear hcz29_0
                    try clear hcz29_1
                    try clear hcz29_2
                    try clear hcz45_0
                    try clear hcz45_1
                    try clear hcz45_2
                    try clear hcz48_0
                    try clear hcz48_1
                    try clear hcz48_2
                    try clear hcz54_0
                    try clear hcz54_1
                    try clear hcz54_2
                    try clear hcz58_0
                    try clear hcz58_1
                    try clear hcz58_2
                    try clear hcz61_0
                    try clear hcz61_1
                    try clear hcz61_2
                    try clear hfz26_0
                    try clear hfz26_1
                    try clear hfz26_2
                    try clear hfz29_0
                    try clear hfz29_1
                    try clear hfz29_2
                    try clear hfz45_0
                    try clear hfz45_1
                    try clear hfz45_2
                    try clear hfz48_0
                    try clear hfz48_1
                    try clear hfz48_2
                    try clear hfz54_0
                    try clear hfz54_1
                    try clear hfz54_2
                    try clear hfz58_0
                    try clear hfz58_1
                    try clear hfz58_2
                    try clear hfz61_0
                    try clear hfz61_1
                    try clear hfz61_2
                    try clear hx103_0
                    try clear hx103_1
                    try clear hx103_2
                    try clear hx104_0
                    try clear hx104_1
                    try clear hx104_2
                    try clear hx105_0
                    try clear hx105_1
                    try clear hx105_2
                    try clear hx106_0
                    try clear hx106_1
                    try clear hx106_2
                    try clear p103
                    try clear p104
                    try clear p105
                    try clear p106
                    try clear q103
                    try clear q104
                    try clear q105
                    try clear q106
                    obtain ⟨kq, x47_30, rfl, HA, HJ30, BK101, BK102, BK107, BK108, HB⟩ := hcut
                    cases kq with
                    | zero => exact absurd HA.out (by simp [peristyleref1_ByKeys.j1])
                    | succ kj30 =>
                      have H := HA.out
                      clear HA
                      simp only [peristyleref1_ByKeys.j1] at H
                      by_cases c62 : x47_30 = true
                      · subst c62
                        have H1 : (if 0 ≤ x7_1 then (if x7_1 < (l0.length : Int) then (if (rd_T138 l0 x7_1).f2 = true then (some t109) else (some (wrap64 (-t109)))) else (none)) else (none)) = some r := by rw [if_pos rfl] at H; exact H
                        clear H
                        have H := H1
                        clear H1
                        by_cases c63 : 0 ≤ x7_1
                        · rw [if_pos c63] at H
                          have c63b0 : decide (0 ≤ x7_1) = true := decide_eq_true c63
                          clear c63
                          by_cases c64 : x7_1 < (l0.length : Int)
                          · rw [if_pos c64] at H
                            have c64b0 : decide (x7_1 < (l0.length : Int)) = true := decide_eq_true c64
                            clear c64
                            obtain ⟨bq65, hbq65⟩ : ∃ b_ : Bool, b_ = ((rd_T138 l0 x7_1).f2) := ⟨_, rfl⟩
                            replace H : (if bq65 = true then (some t109) else (some (wrap64 (-t109)))) = some r := by rw [← hbq65] at H; exact H
                            have Nbq65 := Aside0.mk hbq65
                            clear hbq65
                            by_cases c66 : bq65 = true
                            · subst c66
                              have H1 : (some t109) = some r := by rw [if_pos rfl] at H; exact H
                              clear H
                              have H := H1
                              clear H1
                              obtain rfl := Option.some.inj H
                              have p110 : 0 ≤ (x7_1 : Int) := of_decide_eq_true (by first | (with_reducible assumption) | assumption)
                              have q110 : x7_1 < (l0.length : Int) := of_decide_eq_true (by first | (with_reducible assumption) | assumption)
                              obtain ⟨ad110, e110, hx110_0, hx110_1, hx110_2⟩ := at_T138 HR0.out x7_1 p110 q110
                              (try rw [← Nbq65.out] at hx110_1)
                              (try rw [← Nbq65.out] at hx110_2)
                              obtain rfl : ad103 = ad110 := (by injection e110)
                              replace hx110_0 := (HB.out.cell (World.block_lt_of_cell? w _ hx110_0)).trans hx110_0
                              replace hx110_1 := (HB.out.cell (World.block_lt_of_cell? w _ hx110_1)).trans hx110_1
                              replace hx110_2 := (HB.out.cell (World.block_lt_of_cell? w _ hx110_2)).trans hx110_2
                              replace p110 := eq_true p110
                              replace q110 := eq_true q110
                              go_wp2
                              go_ret
                              exact ⟨by first | rfl | (simp [errW_none, errW_some] <;> rfl) | (simp [*, errW_none, errW_some] <;> rfl), by repeat (first | (with_reducible first | exact HB.out | apply below_alloc | apply pw_below_drewN | apply below_drew1 | refine below_set ?_ GE101.out | refine below_set ?_ GE102.out | refine below_set ?_ GE107.out | refine below_set ?_ GE108.out) | exact HB.out)⟩
                            · replace c66 := Bool.eq_false_iff.mpr c66
                              subst c66
                              have H1 : (some (wrap64 (-t109))) = some r := by rw [if_neg (show ¬ (false = true) by decide)] at H; exact H
                              clear H
                              have H := H1
                              clear H1
                              obtain rfl := Option.some.inj H
                              have p110 : 0 ≤ (x7_1 : Int) := of_decide_eq_true (by first | (with_reducible assumption) | assumption)
                              have q110 : x7_1 < (l0.length : Int) := of_decide_eq_true (by first | (with_reducible assumption) | assumption)
                              obtain ⟨ad110, e110, hx110_0, hx110_1, hx110_2⟩ := at_T138 HR0.out x7_1 p110 q110
                              (try rw [← Nbq65.out] at hx110_1)
                              (try rw [← Nbq65.out] at hx110_2)
                              obtain rfl : ad103 = ad110 := (by injection e110)
                              replace hx110_0 := (HB.out.cell (World.block_lt_of_cell? w _ hx110_0)).trans hx110_0
                              replace hx110_1 := (HB.out.cell (World.block_lt_of_cell? w _ hx110_1)).trans hx110_1
                              replace hx110_2 := (HB.out.cell (World.block_lt_of_cell? w _ hx110_2)).trans hx110_2
                              replace p110 := eq_true p110
                              replace q110 := eq_true q110
                              go_wp2
                              go_ret
                              exact ⟨by first | rfl | (simp [errW_none, errW_some] <;> rfl) | (simp [*, errW_none, errW_some] <;> rfl), by repeat (first | (with_reducible first | exact HB.out | apply below_alloc | apply pw_below_drewN | apply below_drew1 | refine below_set ?_ GE101.out | refine below_set ?_ GE102.out | refine below_set ?_ GE107.out | refine below_set ?_ GE108.out) | exact HB.out)⟩
                          · rw [if_neg c64] at H
                            exact absurd H (by simp)
                        · rw [if_neg c63] at H
                          exact absurd H (by simp)
                      · replace c62 := Bool.eq_false_iff.mpr c62
                        subst c62
                        have H1 : (if 0 ≤ x7_1 then (if x7_1 < (l0.length : Int) then (if (rd_T138 l0 x7_1).f1 = true then (some (wrap64 (-t109))) else (some t109)) else (none)) else (none)) = some r := by rw [if_neg (show ¬ (false = true) by decide)] at H; exact H
                        clear H
                        have H := H1
                        clear H1
                        by_cases c67 : 0 ≤ x7_1
                        · rw [if_pos c67] at H
                          have c67b0 : decide (0 ≤ x7_1) = true := decide_eq_true c67
                          clear c67
                          by_cases c68 : x7_1 < (l0.length : Int)
                          · rw [if_pos c68] at H
                            have c68b0 : decide (x7_1 < (l0.length : Int)) = true := decide_eq_true c68
                            clear c68
                            obtain ⟨bq69, hbq69⟩ : ∃ b_ : Bool, b_ = ((rd_T138 l0 x7_1).f1) := ⟨_, rfl⟩
                            replace H : (if bq69 = true then (some (wrap64 (-t109))) else (some t109)) = some r := by rw [← hbq69] at H; exact H
                            have Nbq69 := Aside0.mk hbq69
                            clear hbq69
                            by_cases c70 : bq69 = true
                            · subst c70
                              have H1 : (some (wrap64 (-t109))) = some r := by rw [if_pos rfl] at H; exact H
                              clear H
                              have H := H1
                              clear H1
                              obtain rfl := Option.some.inj H
                              have p111 : 0 ≤ (x7_1 : Int) := of_decide_eq_true (by first | (with_reducible assumption) | assumption)
                              have q111 : x7_1 < (l0.length : Int) := of_decide_eq_true (by first | (with_reducible assumption) | assumption)
                              obtain ⟨ad111, e111, hx111_0, hx111_1, hx111_2⟩ := at_T138 HR0.out x7_1 p111 q111
                              (try rw [← Nbq69.out] at hx111_1)
                              (try rw [← Nbq69.out] at hx111_2)
                              obtain rfl : ad103 = ad111 := (by injection e111)
                              replace hx111_0 := (HB.out.cell (World.block_lt_of_cell? w _ hx111_0)).trans hx111_0
                              replace hx111_1 := (HB.out.cell (World.block_lt_of_cell? w _ hx111_1)).trans hx111_1
                              replace hx111_2 := (HB.out.cell (World.block_lt_of_cell? w _ hx111_2)).trans hx111_2
                              replace p111 := eq_true p111
                              replace q111 := eq_true q111
                              go_wp2
                              go_ret
                              exact ⟨by first | rfl | (simp [errW_none, errW_some] <;> rfl) | (simp [*, errW_none, errW_some] <;> rfl), by repeat (first | (with_reducible first | exact HB.out | apply below_alloc | apply pw_below_drewN | apply below_drew1 | refine below_set ?_ GE101.out | refine below_set ?_ GE102.out | refine below_set ?_ GE107.out | refine below_set ?_ GE108.out) | exact HB.out)⟩
                            · replace c70 := Bool.eq_false_iff.mpr c70
                              subst c70
                              have H1 : (some t109) = some r := by rw [if_neg (show ¬ (false = true) by decide)] at H; exact H
                              clear H
                              have H := H1
                              clear H1
                              obtain rfl := Option.some.inj H
                              have p111 : 0 ≤ (x7_1 : Int) := of_decide_eq_true (by first | (with_reducible assumption) | assumption)
                              have q111 : x7_1 < (l0.length : Int) := of_decide_eq_true (by first | (with_reducible assumption) | assumption)
                              obtain ⟨ad111, e111, hx111_0, hx111_1, hx111_2⟩ := at_T138 HR0.out x7_1 p111 q111
                              (try rw [← Nbq69.out] at hx111_1)
                              (try rw [← Nbq69.out] at hx111_2)
                              obtain rfl : ad103 = ad111 := (by injection e111)
                              replace hx111_0 := (HB.out.cell (World.block_lt_of_cell? w _ hx111_0)).trans hx111_0
                              replace hx111_1 := (HB.out.cell (World.block_lt_of_cell? w _ hx111_1)).trans hx111_1
                              replace hx111_2 := (HB.out.cell (World.block_lt_of_cell? w _ hx111_2)).trans hx111_2
                              replace p111 := eq_true p111
                              replace q111 := eq_true q111
                              go_wp2
                              go_ret
                              exact ⟨by first | rfl | (simp [errW_none, errW_some] <;> rfl) | (simp [*, errW_none, errW_some] <;> rfl), by repeat (first | (with_reducible first | exact HB.out | apply below_alloc | apply pw_below_drewN | apply below_drew1 | refine below_set ?_ GE101.out | refine below_set ?_ GE102.out | refine below_set ?_ GE107.out | refine below_set ?_ GE108.out) | exact HB.out)⟩
                          · rw [if_neg c68] at H
                            exact absurd H (by simp)
                        · rw [if_neg c67] at H
                          exact absurd H (by simp)
              · rw [if_neg c10] at H
                exact absurd H (by simp)
            · rw [if_neg c9] at H
              exact absurd H (by simp)
          · rw [if_neg c8] at H
            exact absurd H (by simp)
        · rw [if_neg c7] at H
          exact absurd H (by simp)
      · rw [if_neg c6] at H
        have c6b0 : decide (x7_1 < (l0.length : Int)) = false := decide_eq_false c6
        clear c6
        obtain rfl := Option.some.inj H
        go_wp2
        go_ret
        exact ⟨by first | rfl | (simp [errW_none, errW_some] <;> rfl) | (simp [*, errW_none, errW_some] <;> rfl), by repeat (first | (with_reducible first | exact HB.out | apply below_alloc | apply pw_below_drewN | apply below_drew1 | refine below_set ?_ GE101.out | refine below_set ?_ GE102.out) | exact HB.out)⟩

end Go.Proofs.YtokphfhihhdfpaaDoor.Q
