/- The sort of value.Distinct: the slice of the places 0 to n - 1, sorted by the rows that stand there: it holds the one order, in memory that was the call's own; all else is as it was. -/
import Derived.Test.YtokphfhihhdfpaaDoorClD
namespace Go.Proofs.YtokphfhihhdfpaaDoor.SoP
open Go.Shelf Go.RowKit Go.Lib Go.Sort Go.Proofs Go.Proofs.YtokphfhihhdfpaaDoor.Q Go.Proofs.YtokphfhihhdfpaaDoor.D Go.Proofs.YtokphfhihhdfpaaDoor.Stab Go.Proofs.YtokphfhihhdfpaaDoor.SoI Go.Proofs.YtokphfhihhdfpaaDoorW.PrintWords
set_option linter.unusedVariables false
/-- How the rows at two places compare. -/
def cmpAt (l : List S50) (m : Nat) (x y : Fin (m + 1)) : Int := (kit_CompareRows.f 100 (rd_T50 l (x.val : Int)).f0 (rd_T50 l (y.val : Int)).f0).getD 0
def cmpOk (l : List S50) (m : Nat) : Bool := decide (∀ x y : Fin (m + 1), (kit_CompareRows.f 100 (rd_T50 l (x.val : Int)).f0 (rd_T50 l (y.val : Int)).f0).isSome = true)
/-- The places in the order of the rows there. -/
def sortPlaces (l : List S50) (xs : List Int) : Option (List Int) :=
  match l.length with
  | 0 => if xs = [] then some [] else none
  | m + 1 => if xs = (List.range (m + 1)).map Int.ofNat ∧ m + 1 < 1000000 ∧ cmpOk l m = true then some ((stable (ltOf (cmpAt l m)) (d0 m)).toList.map fun x => (x.val : Int)) else none
section
variable {α : Type} [Inhabited α] (enc : α → Value)
/-- The sorted block. -/
theorem sorted_block {w : World} {g : Nat} (m : Nat) (D : Array α) (os : Array Obj) {cur : Array Value} {e : TypeId} {fr : Nat × Nat} (hg : w.heap[g]? = some (.cells cur e fr)) : (sortWorld enc w g 0 m D os).heap[g]? = some (.cells (putCells enc 0 D cur) e fr) := by
  have hlt : g < w.heap.size := (Array.getElem?_eq_some_iff.1 hg).1
  unfold sortWorld
  rw [Go.Sort.heap_grow_old _ _ (by rw [size_putRow]; exact hlt)]
  unfold putRow mapBlock
  show (Array.modify _ _ _)[g]? = _
  rw [Array.getElem?_modify, if_pos rfl]
  show Option.map _ (w.heap[g]?) = _
  rw [hg]
  rfl
/-- All other blocks. -/
theorem other_block {w : World} {g : Nat} (m : Nat) (D : Array α) (os : Array Obj) (k : Nat) (hk : k < w.heap.size) (hne : k ≠ g) : (sortWorld enc w g 0 m D os).heap[k]? = w.heap[k]? := by
  unfold sortWorld
  rw [Go.Sort.heap_grow_old _ _ (by rw [size_putRow]; exact hk)]
  unfold putRow mapBlock
  show (Array.modify _ _ _)[k]? = _
  rw [Array.getElem?_modify, if_neg (fun e => hne e.symm)]
  rfl
theorem putCells_take (D : Array α) (cur : Array Value) (h : D.size ≤ cur.size) : (putCells enc 0 D cur).toList.take D.size = D.toList.map enc := by
  apply List.ext_getElem?
  intro i
  rw [List.getElem?_take, List.getElem?_map]
  by_cases hi : i < D.size
  · rw [if_pos hi]
    unfold putCells
    simp [hi, show i < cur.size by omega]
  · rw [if_neg hi, List.getElem?_eq_none (by simp; omega)]
    rfl
theorem putCells_size (D : Array α) (cur : Array Value) : (putCells enc 0 D cur).size = cur.size := by simp [putCells]
/-- An own row, sorted: the call's own still. -/
theorem owns_sorted {w : World} {base g n cap : Nat} {e : TypeId} {inner : List Value} (m : Nat) (D : Array α) (os : Array Obj) (h : w.ownsRow base e 1 (.slice (some ⟨g, 0, none⟩) n cap) n inner) (hD : D.size = n) :
    (sortWorld enc w g 0 m D os).ownsRow base e 1 (.slice (some ⟨g, 0, none⟩) n cap) n (D.toList.map enc) := by
  refine ⟨by simp [hD], ?_⟩
  rcases h.2 with ⟨hn, _⟩ | ⟨g', cap', cur, he, hb, hh, h1, h2, h3, h4⟩
  · injection hn with x; cases x
  · injection he with e1 _ e3
    injection e1 with e1
    injection e1 with e1
    subst e1 e3
    refine .inr ⟨g, cap, putCells enc 0 D cur, rfl, hb, sorted_block enc m D os hh, h1, h2, by rw [putCells_size]; exact h3, ?_⟩
    rw [Nat.mul_one, ← hD]
    exact putCells_take enc D cur (by rw [h3, Nat.mul_one]; omega)
end
/-- No place: nothing is compared. -/
theorem ins_none (A : Option Addr) (c g : Nat) (cb : Array Value) (W : World) : Calls Tryd.prog 145 #[.slice A 0 c, .int .i64 0, .int .i64 0, .func (.func g) #[] cb] W fun e w' => e = .returned (.tuple #[]) ∧ w' = W := by
  go_enter Tryd.func145, Tryd.ntmps145
  go_wp2
  refine wp_loop_rounds 1 ?_
  rw [rounds_succ]
  go_wp2
  go_end0
  exact ⟨rfl, rfl⟩
theorem sort_none (A : Option Addr) (c g : Nat) (cb : Array Value) (W : World) : Calls Tryd.prog 101 #[.slice A 0 c, .func (.func g) #[] cb] W fun e w' => e = .returned (.tuple #[]) ∧ w' = W := by
  have hs : Calls Tryd.prog 130 #[.slice A 0 c, .int .i64 0, .func (.func g) #[] cb] W fun e w' => e = .returned (.tuple #[]) ∧ w' = W := by
    go_enter Tryd.func130, Tryd.ntmps130
    go_wp2
    refine wp_loop_rounds 1 ?_
    rw [rounds_succ]
    go_wp2_with (go_at_call 145; refine (ins_none A c g cb _).mono ?_; rintro e w' ⟨rfl, rfl⟩)
    refine wp_loop_rounds 1 ?_
    rw [rounds_succ]
    go_wp2
    go_end0
    exact ⟨rfl, rfl⟩
  go_enter Tryd.func101, Tryd.ntmps101
  go_wp2_with (go_at_call 130; refine hs.mono ?_; rintro e w' ⟨rfl, rfl⟩)
  go_end0
  exact ⟨rfl, rfl⟩
theorem sortOrd (w W : World) (bt : Nat) (A B : Option Addr) (c d : Nat) (xs r : List Int) (l : List S50) (HO : Kd.R (Kd.int .i64) 3 W w.heap.size (fun _ => True) (.slice A xs.length c) xs) (HB : Below w.heap.size w W)
    (hbt : ∀ k, (Value.slice A xs.length c).ownBlock = some k → bt ≠ k) (hc : W.cell? ⟨bt, 1, none⟩ = some (.slice B l.length d)) (hC : Kd.C k50 w B l.length l) (h : sortPlaces l xs = some r) :
    Calls Tryd.prog 101 #[.slice A xs.length c, .func (.func 102) #[] #[.pointer (some ⟨bt, 0, none⟩)]] W fun e w' => e = .returned (.tuple #[]) ∧ xs.length = r.length ∧
      Kd.R (Kd.int .i64) 3 w' w.heap.size (fun _ => True) (.slice A r.length c) r ∧ Below w.heap.size w w' ∧ ∀ k, k < W.heap.size → (∀ b, (Value.slice A xs.length c).ownBlock = some b → k ≠ b) → w'.heap[k]? = W.heap[k]? := by
  unfold sortPlaces at h
  split at h
  · rename_i h0
    split at h
    · rename_i hx
      subst hx
      obtain rfl := Option.some.inj h
      refine (sort_none A c _ _ W).mono fun e w' ⟨he, hw⟩ => ?_
      subst hw
      exact ⟨he, rfl, HO, HB, fun k _ _ => rfl⟩
    · cases h
  · rename_i m hm
    split at h
    · rename_i hx
      obtain ⟨hx, hlt, hok⟩ := hx
      obtain rfl := Option.some.inj h
      have hlen : xs.length = m + 1 := by rw [hx]; simp
      obtain ⟨g, cap, he, hb, hg, cells, hcell⟩ := Kd.R_form HO (by omega)
      injection he with e1 _ e3
      subst e1 e3
      have hne : bt ≠ g := hbt g rfl
      have hHd : Holds SoI.encI W g 0 (d0 m) := fun j hj => by
        rw [d0_size] at hj
        have := Kd.R_cell (0 : Int) HO (j : Int) (by omega) (by omega)
        rw [d0_get j hj, Nat.zero_add]
        have e2 : rdOf (0 : Int) xs (j : Int) = (j : Int) := by
          unfold rdOf
          rw [hx]
          simp [List.getD_eq_getElem?_getD, show j < m + 1 from hj]
        rw [e2, Int.toNat_natCast] at this
        exact this
      have hcf : ∀ i j : Fin (m + 1), ∃ k, kit_CompareRows.f k (rd_T50 l (i.val : Int)).f0 (rd_T50 l (j.val : Int)).f0 = some (cmpAt l m i j) := fun i j => by
        have := of_decide_eq_true hok i j
        obtain ⟨v, hv⟩ := Option.isSome_iff_exists.1 this
        exact ⟨100, by unfold cmpAt; rw [hv]; rfl⟩
      have hcm := ClD.cmpLays w W HB g 0 bt B d l hm (by omega) hb hne hc hC (cmpAt l m) hcf
      have hs := SoI.sortStable (m := m) (cmpAt l m) 102 _ g 0 c W (enters_of Tryd.func102 (by kernel_rfl) rfl) hcm hHd hg hlt
      rw [hlen]
      refine hs.mono fun e w' ⟨he, n, os, hw⟩ => ?_
      have hD : (stable (ltOf (cmpAt l m)) (d0 m)).size = m + 1 := by
        have hsz : ∀ lt : Fin (m + 1) → Fin (m + 1) → Bool, (stable lt (d0 m)).size = m + 1 := stab_size
        exact hsz _
      generalize stable (ltOf (cmpAt l m)) (d0 m) = D at hw hD
      have hr : (D.toList.map fun x : Fin (m + 1) => (x.val : Int)).length = m + 1 := by simp [hD]
      have how := owns_sorted SoI.encI n D os (by have := Kd.own_of_R HO; rw [hlen] at this; exact this) hD
      rw [← hw] at how
      refine ⟨he, hr.symm, ?_, ?_, fun k hk hk2 => ?_⟩
      · rw [hr]
        refine Kd.R_of_own (h1 := fun _ => rfl) ?_ (fun _ _ => trivial)
        have e2 : encs (Value.int .i64) (D.toList.map fun x : Fin (m + 1) => (x.val : Int)) = D.toList.map SoI.encI := by simp [encs, SoI.encI, List.map_map, Function.comp_def]
        rw [e2, hr]
        exact how
      · rw [hw]
        exact ClD.below_sort SoI.encI HB 0 n D os hb
      · rw [hw]
        exact other_block SoI.encI n D os k hk (hk2 g rfl)
    · cases h
end Go.Proofs.YtokphfhihhdfpaaDoor.SoP
