/- slices.SortStableFunc at a slice of the places 0 to m: they stand in the one order in which they ascend by the comparison, equals by their places. -/
import Derived.Test.YtokphfhihhdfpaaDoorStS1
import Derived.Test.YtokphfhihhdfpaaDoorStabD
import Derived.Test.YtokphfhihhdfpaaDoorSrtI
namespace Go.Proofs.YtokphfhihhdfpaaDoor.SoI
open Go.Shelf Go.RowKit Go.Lib Go.Sort Go.Proofs Go.Proofs.YtokphfhihhdfpaaDoor.Stab
set_option linter.unusedVariables false
theorem b1 : StW1.B1 Tryd.prog where
  mixed := by kernel_rfl
  fswa := Tryd.func197
  frot := Tryd.func175
  fsym := Tryd.func146
  fsta := Tryd.func130
  t0 := Tryd.underlying0
  a0 := Tryd.isAgg0
  z0 := Tryd.sizeOf0
  v0 := Tryd.zeroValue0
  t3 := Tryd.underlying3
  a3 := Tryd.isAgg3
  z3 := Tryd.sizeOf3
  v3 := Tryd.zeroValue3
  t4 := Tryd.underlying4
  a4 := Tryd.isAgg4
  z4 := Tryd.sizeOf4
  v4 := Tryd.zeroValue4
  tU := Tryd.underlying149
  aU := Tryd.isAgg149
  zU := Tryd.sizeOf149
  vU := Tryd.zeroValue149
  tS := Tryd.underlying101
  aS := Tryd.isAgg101
  zS := Tryd.sizeOf101
  vS := Tryd.zeroValue101
  tF := Tryd.underlying90
  aF := Tryd.isAgg90
  zF := Tryd.sizeOf90
  vF := Tryd.zeroValue90
variable {m : Nat}
/-- A place, as an int. -/
def encI (x : Fin (m + 1)) : Value := .int .i64 (x.val : Int)
theorem oneI : OneCell (encI (m := m)) := fun _ => rfl
set_option maxHeartbeats 2000000 in
set_option maxRecDepth 100000 in
theorem entry (Q : World → Prop) (g : Nat) (cb : Array Value) (p : Option Addr) (n cap : Nat) (w : World) (hn : n < 1000000)
    (hc : Calls Tryd.prog 130 #[.slice p n cap, .int .i64 n, .func (.func g) #[] cb] w fun e w' => e = .returned (.tuple #[]) ∧ Q w') :
    Calls Tryd.prog 101 #[.slice p n cap, .func (.func g) #[] cb] w fun e w' => e = .returned (.tuple #[]) ∧ Q w' := by
  go_enter Tryd.func101, Tryd.ntmps101
  go_wp2_with (go_at_call 130; refine hc.mono ?_; rintro e w' ⟨rfl, S⟩)
  go_end0
  exact ⟨rfl, S⟩
theorem sortStable (cf : Fin (m + 1) → Fin (m + 1) → Int) (g : Nat) (cb : Array Value) (blk off cap : Nat) (w : World) (eg : ∀ args w, (callFunc g args).run Tryd.prog w = .ok (.enter g args) w)
    (hcmp : CmpLays1 Tryd.prog g cb encI cf blk off (m + 1) w) (hH : Holds encI w blk off (d0 m)) (hblk : blk < w.heap.size) (hm : m + 1 < 1000000) :
    Calls Tryd.prog 101 #[.slice (some ⟨blk, off, none⟩) (m + 1) cap, .func (.func g) #[] cb] w fun e w' => e = .returned (.tuple #[]) ∧ SW encI w blk off (stable (ltOf cf) (d0 m)) w' := by
  have hz : (d0 m).size = m + 1 := d0_size
  have R : Row1 encI w blk off (d0 m) := ⟨oneI, hH, hblk⟩
  have hc := StW1.stableC b1 encI cf g cb blk off cap (d0 m) w eg (enters_of Tryd.func145 (by kernel_rfl) rfl) (by rw [hz]; exact hcmp) R (by rw [hz]; exact hm)
    (fun a b d W hs S hab hb => by
      have := Any.insertionSortCmpFunc_s Tryd.insI encI cf g cb blk off cap a b (d0 m) d w W eg (by rw [hz]; exact hcmp) R hs.symm S hab (by omega) (by omega)
      rw [hs] at this
      exact this) w (SW.start hH)
  rw [hz] at hc
  exact entry _ g cb _ (m + 1) cap w hm hc
end Go.Proofs.YtokphfhihhdfpaaDoor.SoI
