/- The comparison that value.Distinct hands to the sort: of two places, the rows there; what it says in whatever world the sort passes through. -/
import Derived.Test.YtokphfhihhdfpaaDoorSoI
import Derived.Test.YtokphfhihhdfpaaDoorQxDrows
namespace Go.Proofs.YtokphfhihhdfpaaDoor.ClD
open Go.Shelf Go.RowKit Go.Lib Go.Sort Go.Proofs Go.Proofs.YtokphfhihhdfpaaDoor.Q Go.Proofs.YtokphfhihhdfpaaDoor.D Go.Proofs.YtokphfhihhdfpaaDoorW.PrintWords
set_option linter.unusedVariables false
set_option maxHeartbeats 2000000 in
set_option maxRecDepth 100000 in
theorem closure (W : World) (bt : Nat) (B : Option Addr) (d : Nat) (rows : List S50) (i j : Int) (hi0 : 0 ≤ i) (hj0 : 0 ≤ j) (hi : i < rows.length) (hj : j < rows.length) (hl : rows.length ≤ 9223372036854775807) (hc : W.cell? ⟨bt, 1, none⟩ = some (.slice B rows.length d))
    (hC : Kd.C k50 W B rows.length rows) (k : Nat) (r : Int) (h : kit_CompareRows.f k (rd_T50 rows i).f0 (rd_T50 rows j).f0 = some r) :
    Calls Tryd.prog 102 #[.int .i64 i, .int .i64 j, .pointer (some ⟨bt, 0, none⟩)] W fun e w' => e = .returned (.int .i64 r) ∧ ∃ q os', w' = grow (W.drewN q) os' := by
  obtain ⟨ad, A0, c0, e0, h0, l0, g0⟩ := at_T50 hC i hi0 hi
  obtain ⟨ad', A1, c1, e1, h1, l1, g1⟩ := at_T50 hC j hj0 hj
  subst e0
  obtain rfl : ad = ad' := by injection e1
  clear e1
  have hcl : ∀ n os, Calls Tryd.prog 103 #[.agg #[.slice A0 (rd_T50 rows i).f0.length c0], .agg #[.slice A1 (rd_T50 rows j).f0.length c1]] (grow (W.drewN n) os) fun e w' => e = .returned (.int .i64 r) ∧ ∃ q os', w' = grow ((grow (W.drewN n) os).drewN q) os' := fun n os =>
    (kit_CompareRows.callsD k A0 c0 _ A1 c1 _ r _ (Kd.C_below g0 (grow_below W n os).toBelow) l0 (Kd.C_below g1 (grow_below W n os).toBelow) l1 h).mono fun e w' ⟨he, hb⟩ => ⟨he, hb.grown⟩
  have lc := fun n os => cell_grown (World.block_lt_of_cell? W _ hc) hc n os
  have li := fun n os => cell_grown (World.block_lt_of_cell? W _ h0) h0 n os
  have lj := fun n os => cell_grown (World.block_lt_of_cell? W _ h1) h1 n os
  generalize (rd_T50 rows i).f0.length = n0 at li hcl
  generalize (rd_T50 rows j).f0.length = n1 at lj hcl
  clear hC g0 g1 l0 l1 h h0 h1 hc
  have mixed : Tryd.prog.follows .mixedOrders = true := by kernel_rfl
  go_enter Tryd.func102, Tryd.ntmps102
  go_wp2_with fail
  go_quiet_grown (first | (go_at_call 103; refine Calls.grown_of (hcl _ _)))
  go_wp2
  go_ret
  exact ⟨rfl, nq, osq, rfl⟩
/-- A world of the sort's, over an elder world that does not hold the row's block. -/
theorem below_sort {α : Type} [Inhabited α] (enc : α → Value) {we w : World} (HB : Below we.heap.size we w) {blk : Nat} (off m : Nat) (dk : Array α) (os : Array Obj) (hblk : we.heap.size ≤ blk) : Below we.heap.size we (sortWorld enc w blk off m dk os) := by
  refine ⟨HB.os, HB.tape, HB.output, ?_, fun k hk => ?_⟩
  · unfold sortWorld
    rw [Go.Sort.size_grow, size_putRow]
    exact Nat.le_trans HB.size (Nat.le_add_right _ _)
  · have hk2 : k < (putRow enc (Sort.ahead w m) blk off dk).heap.size := by rw [size_putRow]; exact Nat.lt_of_lt_of_le hk HB.size
    unfold sortWorld
    rw [heap_grow_old _ _ hk2]
    have e : (putRow enc (Sort.ahead w m) blk off dk).heap[k]? = (Sort.ahead w m).heap[k]? := by
      unfold putRow mapBlock
      show (Array.modify _ _ _)[k]? = _
      rw [Array.getElem?_modify, if_neg (by omega)]
    rw [e]
    exact HB.block k hk
theorem cell_sort {α : Type} [Inhabited α] (enc : α → Value) {w : World} {blk : Nat} (off m : Nat) (dk : Array α) (os : Array Obj) {b o : Nat} {v : Value} (hb : b ≠ blk) (h : w.cell? ⟨b, o, none⟩ = some v) : (sortWorld enc w blk off m dk os).cell? ⟨b, o, none⟩ = some v := by
  have hlt : b < w.heap.size := World.block_lt_of_cell? w _ h
  unfold sortWorld
  rw [cell?_grow _ _ _ (by rw [size_putRow]; exact hlt), cell?_putRow_other enc _ blk off _ _ (Or.inl hb)]
  exact h
theorem cmpLays {m : Nat} (we w : World) (HB : Below we.heap.size we w) (blk off bt : Nat) (B : Option Addr) (d : Nat) (rows : List S50) (hn : rows.length = m + 1) (hl : rows.length ≤ 9223372036854775807) (hblk : we.heap.size ≤ blk) (hbt : bt ≠ blk)
    (hc : w.cell? ⟨bt, 1, none⟩ = some (.slice B rows.length d)) (hC : Kd.C k50 we B rows.length rows) (cf : Fin (m + 1) → Fin (m + 1) → Int)
    (hcf : ∀ i j : Fin (m + 1), ∃ k, kit_CompareRows.f k (rd_T50 rows (i.val : Int)).f0 (rd_T50 rows (j.val : Int)).f0 = some (cf i j)) :
    CmpLays1 Tryd.prog 102 #[.pointer (some ⟨bt, 0, none⟩)] SoI.encI cf blk off (m + 1) w := by
  intro n os dk hs x y
  obtain ⟨k, hk⟩ := hcf x y
  exact closure (sortWorld SoI.encI w blk off n dk os) bt B d rows (x.val : Int) (y.val : Int) (by omega) (by omega) (by have := x.isLt; omega) (by have := y.isLt; omega) hl (cell_sort _ _ _ _ _ hbt hc) (Kd.C_below hC (below_sort _ HB off n dk os hblk)) k (cf x y) hk
end Go.Proofs.YtokphfhihhdfpaaDoor.ClD
