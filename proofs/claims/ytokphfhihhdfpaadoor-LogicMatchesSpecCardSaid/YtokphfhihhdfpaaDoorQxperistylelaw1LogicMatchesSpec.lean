-- Written by a program of this claim (after the kit's printer) out of the translation. Not trusted: Lean checks it.
import Derived.Test.YtokphfhihhdfpaaDoorQx0
import Derived.Test.YtokphfhihhdfpaaDoorQxAndOrNot
import Derived.Test.YtokphfhihhdfpaaDoorQxCoreC
import Derived.Test.YtokphfhihhdfpaaDoorQxEq0
import Derived.Test.YtokphfhihhdfpaaDoorQxEqualLess
import Derived.Test.YtokphfhihhdfpaaDoorQxRefAndOrNot
import Derived.Test.YtokphfhihhdfpaaDoorQxRefEqualLess
namespace Go.Proofs.YtokphfhihhdfpaaDoor.Q
open Go.RowKit Go.Proofs.YtokphfhihhdfpaaDoorW.PrintWords Go.Proofs.YtokphfhihhdfpaaDoorW.PrintLast Go.Proofs.YtokphfhihhdfpaaDoorW.PrintMore
open Go.Proofs.YtokphfhihhdfpaaDoor.Ext
attribute [local go_sem] max2_int min2_int max_two min_two max_three min_three max_four min_four   -- for this text's walks alone
set_option linter.unusedVariables false
set_option linter.unusedSimpArgs false

attribute [local go_sem high] eqA23
/-! ### peristylelaw1_LogicMatchesSpec: function 10 -/
mutual
def peristylelaw1_LogicMatchesSpec.j0 : Nat → Bool → Int → Int → ByteArray → Int → Int → ByteArray → Option (Bool)
  | 0, _, _, _, _, _, _, _ => none
  | k + 1, x28, x102000, x102001, x102002, x103000, x103001, x103002 => if x28 = true then (none) else ((value_Or.f k x102000 x102001 x102002 x103000 x103001 x103002).bind fun bt113 => ((peristyleref1_Or.f k x102000 x102001 x102002 x103000 x103001 x103002).bind fun bt117 => (if (!(bt113.1 == bt117.1) || (!(bt113.2.1 == bt117.2.1) || (!(bt113.2.2.1.toList == bt117.2.2.1.toList)))) = true then (peristylelaw1_LogicMatchesSpec.j1 k true x102000 x102001 x102002 x103000 x103001 x103002) else (peristylelaw1_LogicMatchesSpec.j1 k (bt113.2.2.2 != bt117.2.2.2) x102000 x102001 x102002 x103000 x103001 x103002))))
def peristylelaw1_LogicMatchesSpec.j1 : Nat → Bool → Int → Int → ByteArray → Int → Int → ByteArray → Option (Bool)
  | 0, _, _, _, _, _, _, _ => none
  | k + 1, x48, x102000, x102001, x102002, x103000, x103001, x103002 => if x48 = true then (none) else ((value_Not.f k x102000 x102001 x102002).bind fun bt121 => ((peristyleref1_Not.f k x102000 x102001 x102002).bind fun bt125 => (if (!(bt121.1 == bt125.1) || (!(bt121.2.1 == bt125.2.1) || (!(bt121.2.2.1.toList == bt125.2.2.1.toList)))) = true then (peristylelaw1_LogicMatchesSpec.j2 k true x102000 x102001 x102002 x103000 x103001 x103002) else (peristylelaw1_LogicMatchesSpec.j2 k (bt121.2.2.2 != bt125.2.2.2) x102000 x102001 x102002 x103000 x103001 x103002))))
def peristylelaw1_LogicMatchesSpec.j2 : Nat → Bool → Int → Int → ByteArray → Int → Int → ByteArray → Option (Bool)
  | 0, _, _, _, _, _, _, _ => none
  | k + 1, x66, x102000, x102001, x102002, x103000, x103001, x103002 => if x66 = true then (none) else ((value_Equal.f k x102000 x102001 x102002 x103000 x103001 x103002).bind fun bt129 => ((peristyleref1_Equal.f k x102000 x102001 x102002 x103000 x103001 x103002).bind fun bt133 => (if (!(bt129.1 == bt133.1) || (!(bt129.2.1 == bt133.2.1) || (!(bt129.2.2.1.toList == bt133.2.2.1.toList)))) = true then (peristylelaw1_LogicMatchesSpec.j3 k true x102000 x102001 x102002 x103000 x103001 x103002) else (peristylelaw1_LogicMatchesSpec.j3 k (bt129.2.2.2 != bt133.2.2.2) x102000 x102001 x102002 x103000 x103001 x103002))))
def peristylelaw1_LogicMatchesSpec.j3 : Nat → Bool → Int → Int → ByteArray → Int → Int → ByteArray → Option (Bool)
  | 0, _, _, _, _, _, _, _ => none
  | k + 1, x86, x102000, x102001, x102002, x103000, x103001, x103002 => if x86 = true then (none) else ((value_Less.f k x102000 x102001 x102002 x103000 x103001 x103002).bind fun bt137 => ((peristyleref1_Less.f k x102000 x102001 x102002 x103000 x103001 x103002).bind fun bt141 => (if (bt137.1 == bt141.1 && (bt137.2.1 == bt141.2.1 && (bt137.2.2.1.toList == bt141.2.2.1.toList))) = true then (if bt137.2.2.2 = bt141.2.2.2 then ((peristylelaw1_awake.f k).bind fun t145 => (some t145)) else (none)) else (none))))
end
def peristylelaw1_LogicMatchesSpec.f (k : Nat) (a0_0 : Int) (a0_1 : Int) (a0_2 : ByteArray) (a1_0 : Int) (a1_1 : Int) (a1_2 : ByteArray) : Option (Bool) := (value_And.f k a0_0 a0_1 a0_2 a1_0 a1_1 a1_2).bind fun bt103 => ((peristyleref1_And.f k a0_0 a0_1 a0_2 a1_0 a1_1 a1_2).bind fun bt108 => (if (!(bt103.1 == bt108.1) || (!(bt103.2.1 == bt108.2.1) || (!(bt103.2.2.1.toList == bt108.2.2.1.toList)))) = true then (peristylelaw1_LogicMatchesSpec.j0 k true a0_0 a0_1 a0_2 a1_0 a1_1 a1_2) else (peristylelaw1_LogicMatchesSpec.j0 k (bt103.2.2.2 != bt108.2.2.2) a0_0 a0_1 a0_2 a1_0 a1_1 a1_2)))
theorem peristylelaw1_LogicMatchesSpec.mono_l : ∀ k, (∀ y0 y1 y2 y3 y4 y5 y6, LeO (peristylelaw1_LogicMatchesSpec.j0 k y0 y1 y2 y3 y4 y5 y6) (peristylelaw1_LogicMatchesSpec.j0 (k + 1) y0 y1 y2 y3 y4 y5 y6)) ∧ (∀ y0 y1 y2 y3 y4 y5 y6, LeO (peristylelaw1_LogicMatchesSpec.j1 k y0 y1 y2 y3 y4 y5 y6) (peristylelaw1_LogicMatchesSpec.j1 (k + 1) y0 y1 y2 y3 y4 y5 y6)) ∧ (∀ y0 y1 y2 y3 y4 y5 y6, LeO (peristylelaw1_LogicMatchesSpec.j2 k y0 y1 y2 y3 y4 y5 y6) (peristylelaw1_LogicMatchesSpec.j2 (k + 1) y0 y1 y2 y3 y4 y5 y6)) ∧ (∀ y0 y1 y2 y3 y4 y5 y6, LeO (peristylelaw1_LogicMatchesSpec.j3 k y0 y1 y2 y3 y4 y5 y6) (peristylelaw1_LogicMatchesSpec.j3 (k + 1) y0 y1 y2 y3 y4 y5 y6))
  | 0 => ⟨fun _ _ _ _ _ _ _ r h => by simp [peristylelaw1_LogicMatchesSpec.j0] at h, fun _ _ _ _ _ _ _ r h => by simp [peristylelaw1_LogicMatchesSpec.j1] at h, fun _ _ _ _ _ _ _ r h => by simp [peristylelaw1_LogicMatchesSpec.j2] at h, fun _ _ _ _ _ _ _ r h => by simp [peristylelaw1_LogicMatchesSpec.j3] at h⟩
  | k + 1 => by
    obtain ⟨ih0, ih1, ih2, ih3⟩ := peristylelaw1_LogicMatchesSpec.mono_l k
    refine ⟨?_, ?_, ?_, ?_⟩
    · intro y0 y1 y2 y3 y4 y5 y6
      unfold peristylelaw1_LogicMatchesSpec.j0
      repeat' first
      | (with_reducible exact ih0 _ _ _ _ _ _ _)
      | (with_reducible exact ih1 _ _ _ _ _ _ _)
      | (with_reducible exact ih2 _ _ _ _ _ _ _)
      | (with_reducible exact ih3 _ _ _ _ _ _ _)
      | (with_reducible exact peristylelaw1_awake.mono _)
      | (with_reducible exact peristyleref1_And.mono _ _ _ _ _ _ _)
      | (with_reducible exact peristyleref1_Equal.mono _ _ _ _ _ _ _)
      | (with_reducible exact peristyleref1_Less.mono _ _ _ _ _ _ _)
      | (with_reducible exact peristyleref1_Not.mono _ _ _ _)
      | (with_reducible exact peristyleref1_Or.mono _ _ _ _ _ _ _)
      | (with_reducible exact value_And.mono _ _ _ _ _ _ _)
      | (with_reducible exact value_Equal.mono _ _ _ _ _ _ _)
      | (with_reducible exact value_Less.mono _ _ _ _ _ _ _)
      | (with_reducible exact value_Not.mono _ _ _ _)
      | (with_reducible exact value_Or.mono _ _ _ _ _ _ _)
      | (with_reducible exact LeO.refl _)
      | (with_reducible exact LeO.none _)
      | (with_reducible refine LeO.ite ?_ ?_)
      | (with_reducible refine LeO.bind ?_ (fun _ => ?_))
      | exact ih0 _ _ _ _ _ _ _
      | exact ih1 _ _ _ _ _ _ _
      | exact ih2 _ _ _ _ _ _ _
      | exact ih3 _ _ _ _ _ _ _
      | exact peristylelaw1_awake.mono _
      | exact peristyleref1_And.mono _ _ _ _ _ _ _
      | exact peristyleref1_Equal.mono _ _ _ _ _ _ _
      | exact peristyleref1_Less.mono _ _ _ _ _ _ _
      | exact peristyleref1_Not.mono _ _ _ _
      | exact peristyleref1_Or.mono _ _ _ _ _ _ _
      | exact value_And.mono _ _ _ _ _ _ _
      | exact value_Equal.mono _ _ _ _ _ _ _
      | exact value_Less.mono _ _ _ _ _ _ _
      | exact value_Not.mono _ _ _ _
      | exact value_Or.mono _ _ _ _ _ _ _
      | exact LeO.none _
      | refine LeO.ite ?_ ?_
      | refine LeO.bind ?_ (fun _ => ?_)
    · intro y0 y1 y2 y3 y4 y5 y6
      unfold peristylelaw1_LogicMatchesSpec.j1
      repeat' first
      | (with_reducible exact ih0 _ _ _ _ _ _ _)
      | (with_reducible exact ih1 _ _ _ _ _ _ _)
      | (with_reducible exact ih2 _ _ _ _ _ _ _)
      | (with_reducible exact ih3 _ _ _ _ _ _ _)
      | (with_reducible exact peristylelaw1_awake.mono _)
      | (with_reducible exact peristyleref1_And.mono _ _ _ _ _ _ _)
      | (with_reducible exact peristyleref1_Equal.mono _ _ _ _ _ _ _)
      | (with_reducible exact peristyleref1_Less.mono _ _ _ _ _ _ _)
      | (with_reducible exact peristyleref1_Not.mono _ _ _ _)
      | (with_reducible exact peristyleref1_Or.mono _ _ _ _ _ _ _)
      | (with_reducible exact value_And.mono _ _ _ _ _ _ _)
      | (with_reducible exact value_Equal.mono _ _ _ _ _ _ _)
      | (with_reducible exact value_Less.mono _ _ _ _ _ _ _)
      | (with_reducible exact value_Not.mono _ _ _ _)
      | (with_reducible exact value_Or.mono _ _ _ _ _ _ _)
      | (with_reducible exact LeO.refl _)
      | (with_reducible exact LeO.none _)
      | (with_reducible refine LeO.ite ?_ ?_)
      | (with_reducible refine LeO.bind ?_ (fun _ => ?_))
      | exact ih0 _ _ _ _ _ _ _
      | exact ih1 _ _ _ _ _ _ _
      | exact ih2 _ _ _ _ _ _ _
      | exact ih3 _ _ _ _ _ _ _
      | exact peristylelaw1_awake.mono _
      | exact peristyleref1_And.mono _ _ _ _ _ _ _
      | exact peristyleref1_Equal.mono _ _ _ _ _ _ _
      | exact peristyleref1_Less.mono _ _ _ _ _ _ _
      | exact peristyleref1_Not.mono _ _ _ _
      | exact peristyleref1_Or.mono _ _ _ _ _ _ _
      | exact value_And.mono _ _ _ _ _ _ _
      | exact value_Equal.mono _ _ _ _ _ _ _
      | exact value_Less.mono _ _ _ _ _ _ _
      | exact value_Not.mono _ _ _ _
      | exact value_Or.mono _ _ _ _ _ _ _
      | exact LeO.none _
      | refine LeO.ite ?_ ?_
      | refine LeO.bind ?_ (fun _ => ?_)
    · intro y0 y1 y2 y3 y4 y5 y6
      unfold peristylelaw1_LogicMatchesSpec.j2
      repeat' first
      | (with_reducible exact ih0 _ _ _ _ _ _ _)
      | (with_reducible exact ih1 _ _ _ _ _ _ _)
      | (with_reducible exact ih2 _ _ _ _ _ _ _)
      | (with_reducible exact ih3 _ _ _ _ _ _ _)
      | (with_reducible exact peristylelaw1_awake.mono _)
      | (with_reducible exact peristyleref1_And.mono _ _ _ _ _ _ _)
      | (with_reducible exact peristyleref1_Equal.mono _ _ _ _ _ _ _)
      | (with_reducible exact peristyleref1_Less.mono _ _ _ _ _ _ _)
      | (with_reducible exact peristyleref1_Not.mono _ _ _ _)
      | (with_reducible exact peristyleref1_Or.mono _ _ _ _ _ _ _)
      | (with_reducible exact value_And.mono _ _ _ _ _ _ _)
      | (with_reducible exact value_Equal.mono _ _ _ _ _ _ _)
      | (with_reducible exact value_Less.mono _ _ _ _ _ _ _)
      | (with_reducible exact value_Not.mono _ _ _ _)
      | (with_reducible exact value_Or.mono _ _ _ _ _ _ _)
      | (with_reducible exact LeO.refl _)
      | (with_reducible exact LeO.none _)
      | (with_reducible refine LeO.ite ?_ ?_)
      | (with_reducible refine LeO.bind ?_ (fun _ => ?_))
      | exact ih0 _ _ _ _ _ _ _
      | exact ih1 _ _ _ _ _ _ _
      | exact ih2 _ _ _ _ _ _ _
      | exact ih3 _ _ _ _ _ _ _
      | exact peristylelaw1_awake.mono _
      | exact peristyleref1_And.mono _ _ _ _ _ _ _
      | exact peristyleref1_Equal.mono _ _ _ _ _ _ _
      | exact peristyleref1_Less.mono _ _ _ _ _ _ _
      | exact peristyleref1_Not.mono _ _ _ _
      | exact peristyleref1_Or.mono _ _ _ _ _ _ _
      | exact value_And.mono _ _ _ _ _ _ _
      | exact value_Equal.mono _ _ _ _ _ _ _
      | exact value_Less.mono _ _ _ _ _ _ _
      | exact value_Not.mono _ _ _ _
      | exact value_Or.mono _ _ _ _ _ _ _
      | exact LeO.none _
      | refine LeO.ite ?_ ?_
      | refine LeO.bind ?_ (fun _ => ?_)
    · intro y0 y1 y2 y3 y4 y5 y6
      unfold peristylelaw1_LogicMatchesSpec.j3
      repeat' first
      | (with_reducible exact ih0 _ _ _ _ _ _ _)
      | (with_reducible exact ih1 _ _ _ _ _ _ _)
      | (with_reducible exact ih2 _ _ _ _ _ _ _)
      | (with_reducible exact ih3 _ _ _ _ _ _ _)
      | (with_reducible exact peristylelaw1_awake.mono _)
      | (with_reducible exact peristyleref1_And.mono _ _ _ _ _ _ _)
      | (with_reducible exact peristyleref1_Equal.mono _ _ _ _ _ _ _)
      | (with_reducible exact peristyleref1_Less.mono _ _ _ _ _ _ _)
      | (with_reducible exact peristyleref1_Not.mono _ _ _ _)
      | (with_reducible exact peristyleref1_Or.mono _ _ _ _ _ _ _)
      | (with_reducible exact value_And.mono _ _ _ _ _ _ _)
      | (with_reducible exact value_Equal.mono _ _ _ _ _ _ _)
      | (with_reducible exact value_Less.mono _ _ _ _ _ _ _)
      | (with_reducible exact value_Not.mono _ _ _ _)
      | (with_reducible exact value_Or.mono _ _ _ _ _ _ _)
      | (with_reducible exact LeO.refl _)
      | (with_reducible exact LeO.none _)
      | (with_reducible refine LeO.ite ?_ ?_)
      | (with_reducible refine LeO.bind ?_ (fun _ => ?_))
      | exact ih0 _ _ _ _ _ _ _
      | exact ih1 _ _ _ _ _ _ _
      | exact ih2 _ _ _ _ _ _ _
      | exact ih3 _ _ _ _ _ _ _
      | exact peristylelaw1_awake.mono _
      | exact peristyleref1_And.mono _ _ _ _ _ _ _
      | exact peristyleref1_Equal.mono _ _ _ _ _ _ _
      | exact peristyleref1_Less.mono _ _ _ _ _ _ _
      | exact peristyleref1_Not.mono _ _ _ _
      | exact peristyleref1_Or.mono _ _ _ _ _ _ _
      | exact value_And.mono _ _ _ _ _ _ _
      | exact value_Equal.mono _ _ _ _ _ _ _
      | exact value_Less.mono _ _ _ _ _ _ _
      | exact value_Not.mono _ _ _ _
      | exact value_Or.mono _ _ _ _ _ _ _
      | exact LeO.none _
      | refine LeO.ite ?_ ?_
      | refine LeO.bind ?_ (fun _ => ?_)
theorem peristylelaw1_LogicMatchesSpec.mono : ∀ a0 a1 a2 a3 a4 a5 k, LeO (peristylelaw1_LogicMatchesSpec.f k a0 a1 a2 a3 a4 a5) (peristylelaw1_LogicMatchesSpec.f (k + 1) a0 a1 a2 a3 a4 a5) := by
  intro a0 a1 a2 a3 a4 a5 k
  obtain ⟨ih0, ih1, ih2, ih3⟩ := peristylelaw1_LogicMatchesSpec.mono_l k
  unfold peristylelaw1_LogicMatchesSpec.f
  repeat' first
      | (with_reducible exact ih0 _ _ _ _ _ _ _)
      | (with_reducible exact ih1 _ _ _ _ _ _ _)
      | (with_reducible exact ih2 _ _ _ _ _ _ _)
      | (with_reducible exact ih3 _ _ _ _ _ _ _)
      | (with_reducible exact peristylelaw1_awake.mono _)
      | (with_reducible exact peristyleref1_And.mono _ _ _ _ _ _ _)
      | (with_reducible exact peristyleref1_Equal.mono _ _ _ _ _ _ _)
      | (with_reducible exact peristyleref1_Less.mono _ _ _ _ _ _ _)
      | (with_reducible exact peristyleref1_Not.mono _ _ _ _)
      | (with_reducible exact peristyleref1_Or.mono _ _ _ _ _ _ _)
      | (with_reducible exact value_And.mono _ _ _ _ _ _ _)
      | (with_reducible exact value_Equal.mono _ _ _ _ _ _ _)
      | (with_reducible exact value_Less.mono _ _ _ _ _ _ _)
      | (with_reducible exact value_Not.mono _ _ _ _)
      | (with_reducible exact value_Or.mono _ _ _ _ _ _ _)
      | (with_reducible exact LeO.refl _)
      | (with_reducible exact LeO.none _)
      | (with_reducible refine LeO.ite ?_ ?_)
      | (with_reducible refine LeO.bind ?_ (fun _ => ?_))
      | exact ih0 _ _ _ _ _ _ _
      | exact ih1 _ _ _ _ _ _ _
      | exact ih2 _ _ _ _ _ _ _
      | exact ih3 _ _ _ _ _ _ _
      | exact peristylelaw1_awake.mono _
      | exact peristyleref1_And.mono _ _ _ _ _ _ _
      | exact peristyleref1_Equal.mono _ _ _ _ _ _ _
      | exact peristyleref1_Less.mono _ _ _ _ _ _ _
      | exact peristyleref1_Not.mono _ _ _ _
      | exact peristyleref1_Or.mono _ _ _ _ _ _ _
      | exact value_And.mono _ _ _ _ _ _ _
      | exact value_Equal.mono _ _ _ _ _ _ _
      | exact value_Less.mono _ _ _ _ _ _ _
      | exact value_Not.mono _ _ _ _
      | exact value_Or.mono _ _ _ _ _ _ _
      | exact LeO.none _
      | refine LeO.ite ?_ ?_
      | refine LeO.bind ?_ (fun _ => ?_)
set_option maxHeartbeats 8000000 in
set_option maxRecDepth 100000 in
theorem peristylelaw1_LogicMatchesSpec.calls (k : Nat) (a0_0 : Int) (a0_1 : Int) (a0_2 : ByteArray) (a1_0 : Int) (a1_1 : Int) (a1_2 : ByteArray) (r : Bool) (w : World) (h : peristylelaw1_LogicMatchesSpec.f k a0_0 a0_1 a0_2 a1_0 a1_1 a1_2 = some r) :
    Calls Tryd.prog 10 #[.agg #[.int .i64 a0_0, .int .i64 a0_1, .string a0_2], .agg #[.int .i64 a1_0, .int .i64 a1_1, .string a1_2]] w fun e w' => e = .returned (.bool r) ∧ Below w.heap.size w w' := by
  have hu23 := Tryd.underlying23
  have HB := Aside0.mk (Below.refl w.heap.size w)
  have H : ((value_And.f k a0_0 a0_1 a0_2 a1_0 a1_1 a1_2).bind fun bt103 => ((peristyleref1_And.f k a0_0 a0_1 a0_2 a1_0 a1_1 a1_2).bind fun bt108 => (if (!(bt103.1 == bt108.1) || (!(bt103.2.1 == bt108.2.1) || (!(bt103.2.2.1.toList == bt108.2.2.1.toList)))) = true then (peristylelaw1_LogicMatchesSpec.j0 k true a0_0 a0_1 a0_2 a1_0 a1_1 a1_2) else (peristylelaw1_LogicMatchesSpec.j0 k (bt103.2.2.2 != bt108.2.2.2) a0_0 a0_1 a0_2 a1_0 a1_1 a1_2)))) = some r := h
  clear h
  replace H := Option.bind_eq_some_iff.mp H
  obtain ⟨⟨t103, t104, t105, t106⟩, A30, H⟩ := H
  replace H : ((peristyleref1_And.f k a0_0 a0_1 a0_2 a1_0 a1_1 a1_2).bind fun bt108 => (if (!(t103 == bt108.1) || (!(t104 == bt108.2.1) || (!(t105.toList == bt108.2.2.1.toList)))) = true then (peristylelaw1_LogicMatchesSpec.j0 k true a0_0 a0_1 a0_2 a1_0 a1_1 a1_2) else (peristylelaw1_LogicMatchesSpec.j0 k (t106 != bt108.2.2.2) a0_0 a0_1 a0_2 a1_0 a1_1 a1_2))) = some r := H
  have A3 := Aside0.mk A30
  clear A30
  replace H := Option.bind_eq_some_iff.mp H
  obtain ⟨⟨t108, t109, t110, t111⟩, A40, H⟩ := H
  replace H : (if (!(t103 == t108) || (!(t104 == t109) || (!(t105.toList == t110.toList)))) = true then (peristylelaw1_LogicMatchesSpec.j0 k true a0_0 a0_1 a0_2 a1_0 a1_1 a1_2) else (peristylelaw1_LogicMatchesSpec.j0 k (t106 != t111) a0_0 a0_1 a0_2 a1_0 a1_1 a1_2)) = some r := H
  have A4 := Aside0.mk A40
  clear A40
  have HC5 := Aside0.mk H
  clear H
  go_enter Tryd.func10, Tryd.ntmps10
  go_upto_region 3 with (first | ((with_reducible refine gate_dst (N := 2) rfl ?_); refine box_event ?hg (N := 2) ?hd (cs := #[.int .i64 a0_0, .int .i64 a0_1, .string a0_2]) (t := 23) ?hr ?_; (case hd => rfl); (case hg => rfl); (case hr => first | (go_simp; done) | (go_simp; rfl)); intro gb101 hg w6 hbox hb; have n0_ := Aside0.mk (below_step (by repeat (first | (with_reducible first | exact HB.out | apply below_alloc | apply pw_below_drewN | apply below_drew1) | exact HB.out)) hb); have n1_ := Aside0.mk (hbox); have n2_ := Aside0.mk ((by rw [hg]; exact (below_size (by repeat (first | (with_reducible first | exact HB.out | apply below_alloc | apply pw_below_drewN | apply below_drew1) | exact HB.out))) : w.heap.size ≤ gb101)); have n3_ := n2_; clear HB; have HB := n0_; have BK101 := n1_; have GW101 := n2_; have GE101 := n3_; clear n0_ n1_ n2_ n3_; clear hb hbox hg) | ((with_reducible refine gate_dst (N := 3) rfl ?_); refine box_event ?hg (N := 3) ?hd (cs := #[.int .i64 a1_0, .int .i64 a1_1, .string a1_2]) (t := 23) ?hr ?_; (case hd => rfl); (case hg => rfl); (case hr => first | (go_simp; done) | (go_simp; rfl)); intro gb102 hg w7 hbox hb; have n0_ := Aside0.mk (blk_below (g := gb101) (o := .cells #[.int .i64 a0_0, .int .i64 a0_1, .string a0_2] 23 (0, 0)) (by (with_reducible repeat (first | refine blk_drewN ?_ _ | refine blk_drew ?_ | refine blk_alloc ?_ _)); exact BK101.out) hb); have n1_ := Aside0.mk (below_step (by repeat (first | (with_reducible first | exact HB.out | apply below_alloc | apply pw_below_drewN | apply below_drew1 | refine below_set ?_ GE101.out) | exact HB.out)) hb); have n2_ := Aside0.mk (hbox); have n3_ := Aside0.mk ((by rw [hg]; exact (below_size (by repeat (first | (with_reducible first | exact HB.out | apply below_alloc | apply pw_below_drewN | apply below_drew1 | refine below_set ?_ GE101.out) | exact HB.out))) : w.heap.size ≤ gb102)); have n4_ := n3_; have n5_ := Aside0.mk ((by rw [hg]; exact Nat.ne_of_lt (blk_lt (g := gb101) (o := .cells #[.int .i64 a0_0, .int .i64 a0_1, .string a0_2] 23 (0, 0)) (by (with_reducible repeat (first | refine blk_drewN ?_ _ | refine blk_drew ?_ | refine blk_alloc ?_ _)); exact BK101.out)) : gb101 ≠ gb102)); have n6_ := Aside0.mk ((by rw [hg]; exact Nat.ne_of_gt (blk_lt (g := gb101) (o := .cells #[.int .i64 a0_0, .int .i64 a0_1, .string a0_2] 23 (0, 0)) (by (with_reducible repeat (first | refine blk_drewN ?_ _ | refine blk_drew ?_ | refine blk_alloc ?_ _)); exact BK101.out)) : gb102 ≠ gb101)); clear BK101; clear HB; have BK101 := n0_; have HB := n1_; have BK102 := n2_; have GW102 := n3_; have GE102 := n4_; have NB101_102 := n5_; have NB102_101 := n6_; clear n0_ n1_ n2_ n3_ n4_ n5_ n6_; clear hb hbox hg; have hnb8 := NB101_102.out; have hnc8 := NB102_101.out; have hcz9_0 : w7.cell? ⟨gb101, 0, none⟩ = some (.int .i64 a0_0) := (blk_cell BK101.out 0).trans rfl; have hcz9_1 : w7.cell? ⟨gb101, 1, none⟩ = some (.int .i64 a0_1) := (blk_cell BK101.out 1).trans rfl; have hcz9_2 : w7.cell? ⟨gb101, 2, none⟩ = some (.string a0_2) := (blk_cell BK101.out 2).trans rfl; have hfz9_0 := blk_frozen BK101.out 0; have hfz9_1 := blk_frozen BK101.out 1; have hfz9_2 := blk_frozen BK101.out 2; have hcz10_0 : w7.cell? ⟨gb102, 0, none⟩ = some (.int .i64 a1_0) := (blk_cell BK102.out 0).trans rfl; have hcz10_1 : w7.cell? ⟨gb102, 1, none⟩ = some (.int .i64 a1_1) := (blk_cell BK102.out 1).trans rfl; have hcz10_2 : w7.cell? ⟨gb102, 2, none⟩ = some (.string a1_2) := (blk_cell BK102.out 2).trans rfl; have hfz10_0 := blk_frozen BK102.out 0; have hfz10_1 := blk_frozen BK102.out 1; have hfz10_2 := blk_frozen BK102.out 2) | ((with_reducible refine gate_callee (f := 19) rfl ?_); refine goesL_ (some 12) rfl rfl Tryd.func19 (by kernel_rfl) rfl #[.agg #[.int .i64 a0_0, .int .i64 a0_1, .string a0_2], .agg #[.int .i64 a1_0, .int .i64 a1_1, .string a1_2]] rfl (by (try simp only [List.map_toArray, List.map_cons, List.map_nil]); first | done | rfl | (simp only [List.length_drop, List.length_take]; rfl)) ?_; (with_reducible refine (value_And.calls k a0_0 a0_1 a0_2 a1_0 a1_1 a1_2 t103 t104 t105 t106 _ A3.out).mono ?_); rintro e w11 ⟨rfl, hb⟩; refine ⟨_, rfl, ?_⟩; have n0_ := Aside0.mk (blk_below (g := gb101) (o := .cells #[.int .i64 a0_0, .int .i64 a0_1, .string a0_2] 23 (0, 0)) (by (with_reducible repeat (first | refine blk_drewN ?_ _ | refine blk_drew ?_ | refine blk_alloc ?_ _)); exact BK101.out) hb); have n1_ := Aside0.mk (blk_below (g := gb102) (o := .cells #[.int .i64 a1_0, .int .i64 a1_1, .string a1_2] 23 (0, 0)) (by (with_reducible repeat (first | refine blk_drewN ?_ _ | refine blk_drew ?_ | refine blk_alloc ?_ _)); exact BK102.out) hb); have n2_ := Aside0.mk (below_step (by repeat (first | (with_reducible first | exact HB.out | apply below_alloc | apply pw_below_drewN | apply below_drew1 | refine below_set ?_ GE101.out | refine below_set ?_ GE102.out) | exact HB.out)) hb); clear BK101; clear BK102; clear HB; have BK101 := n0_; have BK102 := n1_; have HB := n2_; clear n0_ n1_ n2_; (try clear hb); (try clear hb2); (try clear hk); (try clear hi)) | ((with_reducible refine gate_dst (N := 5) rfl ?_); refine box_event ?hg (N := 5) ?hd (cs := #[.int .i64 0, .int .i64 0, .string (⟨#[]⟩ : ByteArray)]) (t := 23) ?hr ?_; (case hd => rfl); (case hg => rfl); (case hr => first | (go_simp; done) | (go_simp; rfl)); intro gb107 hg w12 hbox hb; have n0_ := Aside0.mk (blk_below (g := gb101) (o := .cells #[.int .i64 a0_0, .int .i64 a0_1, .string a0_2] 23 (0, 0)) (by (with_reducible repeat (first | refine blk_drewN ?_ _ | refine blk_drew ?_ | refine blk_alloc ?_ _)); exact BK101.out) hb); have n1_ := Aside0.mk (blk_below (g := gb102) (o := .cells #[.int .i64 a1_0, .int .i64 a1_1, .string a1_2] 23 (0, 0)) (by (with_reducible repeat (first | refine blk_drewN ?_ _ | refine blk_drew ?_ | refine blk_alloc ?_ _)); exact BK102.out) hb); have n2_ := Aside0.mk (below_step (by repeat (first | (with_reducible first | exact HB.out | apply below_alloc | apply pw_below_drewN | apply below_drew1 | refine below_set ?_ GE101.out | refine below_set ?_ GE102.out) | exact HB.out)) hb); have n3_ := Aside0.mk (hbox); have n4_ := Aside0.mk ((by rw [hg]; exact (below_size (by repeat (first | (with_reducible first | exact HB.out | apply below_alloc | apply pw_below_drewN | apply below_drew1 | refine below_set ?_ GE101.out | refine below_set ?_ GE102.out) | exact HB.out))) : w.heap.size ≤ gb107)); have n5_ := n4_; have n6_ := Aside0.mk ((by rw [hg]; exact Nat.ne_of_lt (blk_lt (g := gb101) (o := .cells #[.int .i64 a0_0, .int .i64 a0_1, .string a0_2] 23 (0, 0)) (by (with_reducible repeat (first | refine blk_drewN ?_ _ | refine blk_drew ?_ | refine blk_alloc ?_ _)); exact BK101.out)) : gb101 ≠ gb107)); have n7_ := Aside0.mk ((by rw [hg]; exact Nat.ne_of_gt (blk_lt (g := gb101) (o := .cells #[.int .i64 a0_0, .int .i64 a0_1, .string a0_2] 23 (0, 0)) (by (with_reducible repeat (first | refine blk_drewN ?_ _ | refine blk_drew ?_ | refine blk_alloc ?_ _)); exact BK101.out)) : gb107 ≠ gb101)); have n8_ := Aside0.mk ((by rw [hg]; exact Nat.ne_of_lt (blk_lt (g := gb102) (o := .cells #[.int .i64 a1_0, .int .i64 a1_1, .string a1_2] 23 (0, 0)) (by (with_reducible repeat (first | refine blk_drewN ?_ _ | refine blk_drew ?_ | refine blk_alloc ?_ _)); exact BK102.out)) : gb102 ≠ gb107)); have n9_ := Aside0.mk ((by rw [hg]; exact Nat.ne_of_gt (blk_lt (g := gb102) (o := .cells #[.int .i64 a1_0, .int .i64 a1_1, .string a1_2] 23 (0, 0)) (by (with_reducible repeat (first | refine blk_drewN ?_ _ | refine blk_drew ?_ | refine blk_alloc ?_ _)); exact BK102.out)) : gb107 ≠ gb102)); clear BK101; clear BK102; clear HB; have BK101 := n0_; have BK102 := n1_; have HB := n2_; have BK107 := n3_; have GW107 := n4_; have GE107 := n5_; have NB101_107 := n6_; have NB107_101 := n7_; have NB102_107 := n8_; have NB107_102 := n9_; clear n0_ n1_ n2_ n3_ n4_ n5_ n6_ n7_ n8_ n9_; clear hb hbox hg; have hnb13 := NB107_101.out; have hnc13 := NB101_107.out; have hnb14 := NB107_102.out; have hnc14 := NB102_107.out; have hcz15_0 : w12.cell? ⟨gb107, 0, none⟩ = some (.int .i64 0) := (blk_cell BK107.out 0).trans rfl; have hcz15_1 : w12.cell? ⟨gb107, 1, none⟩ = some (.int .i64 0) := (blk_cell BK107.out 1).trans rfl; have hcz15_2 : w12.cell? ⟨gb107, 2, none⟩ = some (.string (⟨#[]⟩ : ByteArray)) := (blk_cell BK107.out 2).trans rfl; have hfz15_0 := blk_frozen BK107.out 0; have hfz15_1 := blk_frozen BK107.out 1; have hfz15_2 := blk_frozen BK107.out 2; have hcz16_0 : w12.cell? ⟨gb101, 0, none⟩ = some (.int .i64 a0_0) := (blk_cell BK101.out 0).trans rfl; have hcz16_1 : w12.cell? ⟨gb101, 1, none⟩ = some (.int .i64 a0_1) := (blk_cell BK101.out 1).trans rfl; have hcz16_2 : w12.cell? ⟨gb101, 2, none⟩ = some (.string a0_2) := (blk_cell BK101.out 2).trans rfl; have hfz16_0 := blk_frozen BK101.out 0; have hfz16_1 := blk_frozen BK101.out 1; have hfz16_2 := blk_frozen BK101.out 2; have hcz17_0 : w12.cell? ⟨gb102, 0, none⟩ = some (.int .i64 a1_0) := (blk_cell BK102.out 0).trans rfl; have hcz17_1 : w12.cell? ⟨gb102, 1, none⟩ = some (.int .i64 a1_1) := (blk_cell BK102.out 1).trans rfl; have hcz17_2 : w12.cell? ⟨gb102, 2, none⟩ = some (.string a1_2) := (blk_cell BK102.out 2).trans rfl; have hfz17_0 := blk_frozen BK102.out 0; have hfz17_1 := blk_frozen BK102.out 1; have hfz17_2 := blk_frozen BK102.out 2) | ((with_reducible refine gate_callee (f := 41) rfl ?_); refine goesL_ (some 18) rfl rfl Tryd.func41 (by kernel_rfl) rfl #[.agg #[.int .i64 a0_0, .int .i64 a0_1, .string a0_2], .agg #[.int .i64 a1_0, .int .i64 a1_1, .string a1_2]] rfl (by (try simp only [List.map_toArray, List.map_cons, List.map_nil]); first | done | rfl | (simp only [List.length_drop, List.length_take]; rfl)) ?_; (with_reducible refine (peristyleref1_And.calls k a0_0 a0_1 a0_2 a1_0 a1_1 a1_2 t108 t109 t110 t111 _ A4.out).mono ?_); rintro e w18 ⟨rfl, hb⟩; refine ⟨_, rfl, ?_⟩; have n0_ := Aside0.mk (blk_below (g := gb101) (o := .cells #[.int .i64 a0_0, .int .i64 a0_1, .string a0_2] 23 (0, 0)) (by (with_reducible repeat (first | refine blk_drewN ?_ _ | refine blk_drew ?_ | refine blk_alloc ?_ _)); refine blk_far ?_ NB101_107.out _; (with_reducible repeat (first | refine blk_drewN ?_ _ | refine blk_drew ?_ | refine blk_alloc ?_ _)); refine blk_far ?_ NB101_107.out _; (with_reducible repeat (first | refine blk_drewN ?_ _ | refine blk_drew ?_ | refine blk_alloc ?_ _)); refine blk_far ?_ NB101_107.out _; (with_reducible repeat (first | refine blk_drewN ?_ _ | refine blk_drew ?_ | refine blk_alloc ?_ _)); exact BK101.out) hb); have n1_ := Aside0.mk (blk_below (g := gb102) (o := .cells #[.int .i64 a1_0, .int .i64 a1_1, .string a1_2] 23 (0, 0)) (by (with_reducible repeat (first | refine blk_drewN ?_ _ | refine blk_drew ?_ | refine blk_alloc ?_ _)); refine blk_far ?_ NB102_107.out _; (with_reducible repeat (first | refine blk_drewN ?_ _ | refine blk_drew ?_ | refine blk_alloc ?_ _)); refine blk_far ?_ NB102_107.out _; (with_reducible repeat (first | refine blk_drewN ?_ _ | refine blk_drew ?_ | refine blk_alloc ?_ _)); refine blk_far ?_ NB102_107.out _; (with_reducible repeat (first | refine blk_drewN ?_ _ | refine blk_drew ?_ | refine blk_alloc ?_ _)); exact BK102.out) hb); have n2_ := Aside0.mk (blk_below (g := gb107) (o := .cells #[.int .i64 t103, .int .i64 t104, .string t105] 23 (0, 0)) (by (with_reducible repeat (first | refine blk_drewN ?_ _ | refine blk_drew ?_ | refine blk_alloc ?_ _)); refine blk_put (cs := #[.int .i64 t103, .int .i64 t104, .string (⟨#[]⟩ : ByteArray)]) ?_ 2 _ rfl; (with_reducible repeat (first | refine blk_drewN ?_ _ | refine blk_drew ?_ | refine blk_alloc ?_ _)); refine blk_put (cs := #[.int .i64 t103, .int .i64 0, .string (⟨#[]⟩ : ByteArray)]) ?_ 1 _ rfl; (with_reducible repeat (first | refine blk_drewN ?_ _ | refine blk_drew ?_ | refine blk_alloc ?_ _)); refine blk_put (cs := #[.int .i64 0, .int .i64 0, .string (⟨#[]⟩ : ByteArray)]) ?_ 0 _ rfl; (with_reducible repeat (first | refine blk_drewN ?_ _ | refine blk_drew ?_ | refine blk_alloc ?_ _)); exact BK107.out) hb); have n3_ := Aside0.mk (below_step (by repeat (first | (with_reducible first | exact HB.out | apply below_alloc | apply pw_below_drewN | apply below_drew1 | refine below_set ?_ GE101.out | refine below_set ?_ GE102.out | refine below_set ?_ GE107.out) | exact HB.out)) hb); clear BK101; clear BK102; clear BK107; clear HB; have BK101 := n0_; have BK102 := n1_; have BK107 := n2_; have HB := n3_; clear n0_ n1_ n2_ n3_; (try clear hb); (try clear hb2); (try clear hk); (try clear hi)) | ((with_reducible refine gate_dst (N := 7) rfl ?_); refine box_event ?hg (N := 7) ?hd (cs := #[.int .i64 0, .int .i64 0, .string (⟨#[]⟩ : ByteArray)]) (t := 23) ?hr ?_; (case hd => rfl); (case hg => rfl); (case hr => first | (go_simp; done) | (go_simp; rfl)); intro gb112 hg w19 hbox hb; have n0_ := Aside0.mk (blk_below (g := gb101) (o := .cells #[.int .i64 a0_0, .int .i64 a0_1, .string a0_2] 23 (0, 0)) (by (with_reducible repeat (first | refine blk_drewN ?_ _ | refine blk_drew ?_ | refine blk_alloc ?_ _)); exact BK101.out) hb); have n1_ := Aside0.mk (blk_below (g := gb102) (o := .cells #[.int .i64 a1_0, .int .i64 a1_1, .string a1_2] 23 (0, 0)) (by (with_reducible repeat (first | refine blk_drewN ?_ _ | refine blk_drew ?_ | refine blk_alloc ?_ _)); exact BK102.out) hb); have n2_ := Aside0.mk (blk_below (g := gb107) (o := .cells #[.int .i64 t103, .int .i64 t104, .string t105] 23 (0, 0)) (by (with_reducible repeat (first | refine blk_drewN ?_ _ | refine blk_drew ?_ | refine blk_alloc ?_ _)); exact BK107.out) hb); have n3_ := Aside0.mk (below_step (by repeat (first | (with_reducible first | exact HB.out | apply below_alloc | apply pw_below_drewN | apply below_drew1 | refine below_set ?_ GE101.out | refine below_set ?_ GE102.out | refine below_set ?_ GE107.out) | exact HB.out)) hb); have n4_ := Aside0.mk (hbox); have n5_ := Aside0.mk ((by rw [hg]; exact (below_size (by repeat (first | (with_reducible first | exact HB.out | apply below_alloc | apply pw_below_drewN | apply below_drew1 | refine below_set ?_ GE101.out | refine below_set ?_ GE102.out | refine below_set ?_ GE107.out) | exact HB.out))) : w.heap.size ≤ gb112)); have n6_ := n5_; have n7_ := Aside0.mk ((by rw [hg]; exact Nat.ne_of_lt (blk_lt (g := gb101) (o := .cells #[.int .i64 a0_0, .int .i64 a0_1, .string a0_2] 23 (0, 0)) (by (with_reducible repeat (first | refine blk_drewN ?_ _ | refine blk_drew ?_ | refine blk_alloc ?_ _)); exact BK101.out)) : gb101 ≠ gb112)); have n8_ := Aside0.mk ((by rw [hg]; exact Nat.ne_of_gt (blk_lt (g := gb101) (o := .cells #[.int .i64 a0_0, .int .i64 a0_1, .string a0_2] 23 (0, 0)) (by (with_reducible repeat (first | refine blk_drewN ?_ _ | refine blk_drew ?_ | refine blk_alloc ?_ _)); exact BK101.out)) : gb112 ≠ gb101)); have n9_ := Aside0.mk ((by rw [hg]; exact Nat.ne_of_lt (blk_lt (g := gb102) (o := .cells #[.int .i64 a1_0, .int .i64 a1_1, .string a1_2] 23 (0, 0)) (by (with_reducible repeat (first | refine blk_drewN ?_ _ | refine blk_drew ?_ | refine blk_alloc ?_ _)); exact BK102.out)) : gb102 ≠ gb112)); have n10_ := Aside0.mk ((by rw [hg]; exact Nat.ne_of_gt (blk_lt (g := gb102) (o := .cells #[.int .i64 a1_0, .int .i64 a1_1, .string a1_2] 23 (0, 0)) (by (with_reducible repeat (first | refine blk_drewN ?_ _ | refine blk_drew ?_ | refine blk_alloc ?_ _)); exact BK102.out)) : gb112 ≠ gb102)); have n11_ := Aside0.mk ((by rw [hg]; exact Nat.ne_of_lt (blk_lt (g := gb107) (o := .cells #[.int .i64 t103, .int .i64 t104, .string t105] 23 (0, 0)) (by (with_reducible repeat (first | refine blk_drewN ?_ _ | refine blk_drew ?_ | refine blk_alloc ?_ _)); exact BK107.out)) : gb107 ≠ gb112)); have n12_ := Aside0.mk ((by rw [hg]; exact Nat.ne_of_gt (blk_lt (g := gb107) (o := .cells #[.int .i64 t103, .int .i64 t104, .string t105] 23 (0, 0)) (by (with_reducible repeat (first | refine blk_drewN ?_ _ | refine blk_drew ?_ | refine blk_alloc ?_ _)); exact BK107.out)) : gb112 ≠ gb107)); clear BK101; clear BK102; clear BK107; clear HB; have BK101 := n0_; have BK102 := n1_; have BK107 := n2_; have HB := n3_; have BK112 := n4_; have GW112 := n5_; have GE112 := n6_; have NB101_112 := n7_; have NB112_101 := n8_; have NB102_112 := n9_; have NB112_102 := n10_; have NB107_112 := n11_; have NB112_107 := n12_; clear n0_ n1_ n2_ n3_ n4_ n5_ n6_ n7_ n8_ n9_ n10_ n11_ n12_; clear hb hbox hg; have hnb20 := NB112_101.out; have hnc20 := NB101_112.out; have hnb21 := NB112_102.out; have hnc21 := NB102_112.out; have hnb22 := NB112_107.out; have hnc22 := NB107_112.out; have hcz23_0 : w19.cell? ⟨gb112, 0, none⟩ = some (.int .i64 0) := (blk_cell BK112.out 0).trans rfl; have hcz23_1 : w19.cell? ⟨gb112, 1, none⟩ = some (.int .i64 0) := (blk_cell BK112.out 1).trans rfl; have hcz23_2 : w19.cell? ⟨gb112, 2, none⟩ = some (.string (⟨#[]⟩ : ByteArray)) := (blk_cell BK112.out 2).trans rfl; have hfz23_0 := blk_frozen BK112.out 0; have hfz23_1 := blk_frozen BK112.out 1; have hfz23_2 := blk_frozen BK112.out 2))
  (try simp only [Act.put, List.setIfInBounds_toArray, List.set_cons_zero, List.set_cons_succ])
  go_cut [28] (fun v28 wc => ∃ (kq : Nat) (x28_4 : Bool), v28 = .bool x28_4 ∧ Aside0 (peristylelaw1_LogicMatchesSpec.j0 kq x28_4 a0_0 a0_1 a0_2 a1_0 a1_1 a1_2 = some r) ∧ Aside0 (kq ≤ k) ∧ Aside0 (wc.heap[gb101]? = some (.cells #[.int .i64 a0_0, .int .i64 a0_1, .string a0_2] 23 (0, 0))) ∧ Aside0 (wc.heap[gb102]? = some (.cells #[.int .i64 a1_0, .int .i64 a1_1, .string a1_2] 23 (0, 0))) ∧ Aside0 (wc.heap[gb107]? = some (.cells #[.int .i64 t103, .int .i64 t104, .string t105] 23 (0, 0))) ∧ Aside0 (wc.heap[gb112]? = some (.cells #[.int .i64 t108, .int .i64 t109, .string t110] 23 (0, 0))) ∧ Aside0 (Below w.heap.size w wc))
  case first =>
    have H := HC5.out
    clear HC5
    by_cases c24 : (!(t103 == t108) || (!(t104 == t109) || (!(t105.toList == t110.toList)))) = true
    · rw [if_pos c24] at H
      have c24b0 : (!(t103 == t108) || (!(t104 == t109) || (!(t105.toList == t110.toList)))) = true := c24
      clear c24
      (first | rw [c24b0] | (simp only [i64_w, i32_w]; rw [c24b0]) | skip)
      have H' := Aside0.mk H
      clear H
      have hnb25 := NB107_101.out
      have hnc25 := NB101_107.out
      have hnb26 := NB107_102.out
      have hnc26 := NB102_107.out
      have hnb27 := NB107_112.out
      have hnc27 := NB112_107.out
      have hcz28_0 : w19.cell? ⟨gb107, 0, none⟩ = some (.int .i64 t103) := (blk_cell BK107.out 0).trans rfl
      have hcz28_1 : w19.cell? ⟨gb107, 1, none⟩ = some (.int .i64 t104) := (blk_cell BK107.out 1).trans rfl
      have hcz28_2 : w19.cell? ⟨gb107, 2, none⟩ = some (.string t105) := (blk_cell BK107.out 2).trans rfl
      have hfz28_0 := blk_frozen BK107.out 0
      have hfz28_1 := blk_frozen BK107.out 1
      have hfz28_2 := blk_frozen BK107.out 2
      have hnb29 := NB112_101.out
      have hnc29 := NB101_112.out
      have hnb30 := NB112_102.out
      have hnc30 := NB102_112.out
      have hcz31_0 : w19.cell? ⟨gb112, 0, none⟩ = some (.int .i64 0) := (blk_cell BK112.out 0).trans rfl
      have hcz31_1 : w19.cell? ⟨gb112, 1, none⟩ = some (.int .i64 0) := (blk_cell BK112.out 1).trans rfl
      have hcz31_2 : w19.cell? ⟨gb112, 2, none⟩ = some (.string (⟨#[]⟩ : ByteArray)) := (blk_cell BK112.out 2).trans rfl
      have hfz31_0 := blk_frozen BK112.out 0
      have hfz31_1 := blk_frozen BK112.out 1
      have hfz31_2 := blk_frozen BK112.out 2
      go_wp2
      go_meet
      case rel => exact ⟨_, (true), (by first | rfl | (simp; done) | (simp [*]; done) | (simp [Go.bneNilE]; done) | (simp [*, Go.bneNilE]; done)), H', ⟨by first | omega | exact Nat.le_refl _⟩, ⟨by (with_reducible repeat (first | refine blk_drewN ?_ _ | refine blk_drew ?_ | refine blk_alloc ?_ _)); refine blk_far ?_ NB101_112.out _; (with_reducible repeat (first | refine blk_drewN ?_ _ | refine blk_drew ?_ | refine blk_alloc ?_ _)); refine blk_far ?_ NB101_112.out _; (with_reducible repeat (first | refine blk_drewN ?_ _ | refine blk_drew ?_ | refine blk_alloc ?_ _)); refine blk_far ?_ NB101_112.out _; (with_reducible repeat (first | refine blk_drewN ?_ _ | refine blk_drew ?_ | refine blk_alloc ?_ _)); exact BK101.out⟩, ⟨by (with_reducible repeat (first | refine blk_drewN ?_ _ | refine blk_drew ?_ | refine blk_alloc ?_ _)); refine blk_far ?_ NB102_112.out _; (with_reducible repeat (first | refine blk_drewN ?_ _ | refine blk_drew ?_ | refine blk_alloc ?_ _)); refine blk_far ?_ NB102_112.out _; (with_reducible repeat (first | refine blk_drewN ?_ _ | refine blk_drew ?_ | refine blk_alloc ?_ _)); refine blk_far ?_ NB102_112.out _; (with_reducible repeat (first | refine blk_drewN ?_ _ | refine blk_drew ?_ | refine blk_alloc ?_ _)); exact BK102.out⟩, ⟨by (with_reducible repeat (first | refine blk_drewN ?_ _ | refine blk_drew ?_ | refine blk_alloc ?_ _)); refine blk_far ?_ NB107_112.out _; (with_reducible repeat (first | refine blk_drewN ?_ _ | refine blk_drew ?_ | refine blk_alloc ?_ _)); refine blk_far ?_ NB107_112.out _; (with_reducible repeat (first | refine blk_drewN ?_ _ | refine blk_drew ?_ | refine blk_alloc ?_ _)); refine blk_far ?_ NB107_112.out _; (with_reducible repeat (first | refine blk_drewN ?_ _ | refine blk_drew ?_ | refine blk_alloc ?_ _)); exact BK107.out⟩, ⟨by (with_reducible repeat (first | refine blk_drewN ?_ _ | refine blk_drew ?_ | refine blk_alloc ?_ _)); refine blk_put (cs := #[.int .i64 t108, .int .i64 t109, .string (⟨#[]⟩ : ByteArray)]) ?_ 2 _ rfl; (with_reducible repeat (first | refine blk_drewN ?_ _ | refine blk_drew ?_ | refine blk_alloc ?_ _)); refine blk_put (cs := #[.int .i64 t108, .int .i64 0, .string (⟨#[]⟩ : ByteArray)]) ?_ 1 _ rfl; (with_reducible repeat (first | refine blk_drewN ?_ _ | refine blk_drew ?_ | refine blk_alloc ?_ _)); refine blk_put (cs := #[.int .i64 0, .int .i64 0, .string (⟨#[]⟩ : ByteArray)]) ?_ 0 _ rfl; (with_reducible repeat (first | refine blk_drewN ?_ _ | refine blk_drew ?_ | refine blk_alloc ?_ _)); exact BK112.out⟩, ⟨by repeat (first | (with_reducible first | exact HB.out | apply below_alloc | apply pw_below_drewN | apply below_drew1 | refine below_set ?_ GE101.out | refine below_set ?_ GE102.out | refine below_set ?_ GE107.out | refine below_set ?_ GE112.out) | exact HB.out)⟩⟩
    · rw [if_neg c24] at H
      have c24b0 : (!(t103 == t108) || (!(t104 == t109) || (!(t105.toList == t110.toList)))) = false := by simpa using c24
      clear c24
      (first | rw [c24b0] | (simp only [i64_w, i32_w]; rw [c24b0]) | skip)
      have H' := Aside0.mk H
      clear H
      have hnb32 := NB107_101.out
      have hnc32 := NB101_107.out
      have hnb33 := NB107_102.out
      have hnc33 := NB102_107.out
      have hnb34 := NB107_112.out
      have hnc34 := NB112_107.out
      have hcz35_0 : w19.cell? ⟨gb107, 0, none⟩ = some (.int .i64 t103) := (blk_cell BK107.out 0).trans rfl
      have hcz35_1 : w19.cell? ⟨gb107, 1, none⟩ = some (.int .i64 t104) := (blk_cell BK107.out 1).trans rfl
      have hcz35_2 : w19.cell? ⟨gb107, 2, none⟩ = some (.string t105) := (blk_cell BK107.out 2).trans rfl
      have hfz35_0 := blk_frozen BK107.out 0
      have hfz35_1 := blk_frozen BK107.out 1
      have hfz35_2 := blk_frozen BK107.out 2
      have hnb36 := NB112_101.out
      have hnc36 := NB101_112.out
      have hnb37 := NB112_102.out
      have hnc37 := NB102_112.out
      have hcz38_0 : w19.cell? ⟨gb112, 0, none⟩ = some (.int .i64 0) := (blk_cell BK112.out 0).trans rfl
      have hcz38_1 : w19.cell? ⟨gb112, 1, none⟩ = some (.int .i64 0) := (blk_cell BK112.out 1).trans rfl
      have hcz38_2 : w19.cell? ⟨gb112, 2, none⟩ = some (.string (⟨#[]⟩ : ByteArray)) := (blk_cell BK112.out 2).trans rfl
      have hfz38_0 := blk_frozen BK112.out 0
      have hfz38_1 := blk_frozen BK112.out 1
      have hfz38_2 := blk_frozen BK112.out 2
      go_wp2
      go_meet
      case rel => exact ⟨_, ((t106 != t111)), (by first | rfl | (simp; done) | (simp [*]; done) | (simp [Go.bneNilE]; done) | (simp [*, Go.bneNilE]; done)), H', ⟨by first | omega | exact Nat.le_refl _⟩, ⟨by (with_reducible repeat (first | refine blk_drewN ?_ _ | refine blk_drew ?_ | refine blk_alloc ?_ _)); refine blk_far ?_ NB101_112.out _; (with_reducible repeat (first | refine blk_drewN ?_ _ | refine blk_drew ?_ | refine blk_alloc ?_ _)); refine blk_far ?_ NB101_112.out _; (with_reducible repeat (first | refine blk_drewN ?_ _ | refine blk_drew ?_ | refine blk_alloc ?_ _)); refine blk_far ?_ NB101_112.out _; (with_reducible repeat (first | refine blk_drewN ?_ _ | refine blk_drew ?_ | refine blk_alloc ?_ _)); exact BK101.out⟩, ⟨by (with_reducible repeat (first | refine blk_drewN ?_ _ | refine blk_drew ?_ | refine blk_alloc ?_ _)); refine blk_far ?_ NB102_112.out _; (with_reducible repeat (first | refine blk_drewN ?_ _ | refine blk_drew ?_ | refine blk_alloc ?_ _)); refine blk_far ?_ NB102_112.out _; (with_reducible repeat (first | refine blk_drewN ?_ _ | refine blk_drew ?_ | refine blk_alloc ?_ _)); refine blk_far ?_ NB102_112.out _; (with_reducible repeat (first | refine blk_drewN ?_ _ | refine blk_drew ?_ | refine blk_alloc ?_ _)); exact BK102.out⟩, ⟨by (with_reducible repeat (first | refine blk_drewN ?_ _ | refine blk_drew ?_ | refine blk_alloc ?_ _)); refine blk_far ?_ NB107_112.out _; (with_reducible repeat (first | refine blk_drewN ?_ _ | refine blk_drew ?_ | refine blk_alloc ?_ _)); refine blk_far ?_ NB107_112.out _; (with_reducible repeat (first | refine blk_drewN ?_ _ | refine blk_drew ?_ | refine blk_alloc ?_ _)); refine blk_far ?_ NB107_112.out _; (with_reducible repeat (first | refine blk_drewN ?_ _ | refine blk_drew ?_ | refine blk_alloc ?_ _)); exact BK107.out⟩, ⟨by (with_reducible repeat (first | refine blk_drewN ?_ _ | refine blk_drew ?_ | refine blk_alloc ?_ _)); refine blk_put (cs := #[.int .i64 t108, .int .i64 t109, .string (⟨#[]⟩ : ByteArray)]) ?_ 2 _ rfl; (with_reducible repeat (first | refine blk_drewN ?_ _ | refine blk_drew ?_ | refine blk_alloc ?_ _)); refine blk_put (cs := #[.int .i64 t108, .int .i64 0, .string (⟨#[]⟩ : ByteArray)]) ?_ 1 _ rfl; (with_reducible repeat (first | refine blk_drewN ?_ _ | refine blk_drew ?_ | refine blk_alloc ?_ _)); refine blk_put (cs := #[.int .i64 0, .int .i64 0, .string (⟨#[]⟩ : ByteArray)]) ?_ 0 _ rfl; (with_reducible repeat (first | refine blk_drewN ?_ _ | refine blk_drew ?_ | refine blk_alloc ?_ _)); exact BK112.out⟩, ⟨by repeat (first | (with_reducible first | exact HB.out | apply below_alloc | apply pw_below_drewN | apply below_drew1 | refine below_set ?_ GE101.out | refine below_set ?_ GE102.out | refine below_set ?_ GE107.out | refine below_set ?_ GE112.out) | exact HB.out)⟩⟩
  case rest =>
    clear HC5
    try clear c1
    try clear c2
    try clear p2
    try clear c3
    try clear c4
    try clear c8
    try clear c10
    try clear c13
    try clear c14
    try clear c19
    try clear c20
    try clear c21
    try clear c22
    try clear c24
    try clear c24b0
    try clear c25
    try clear c26
    try clear c27
    try clear c29
    try clear c30
    try clear c32
    try clear c33
    try clear c34
    try clear c36
    try clear c37
    try clear hcz10_0
    try clear hcz10_1
    try clear hcz10_2
    try clear hcz15_0
    try clear hcz15_1
    try clear hcz15_2
    try clear hcz16_0
    try clear hcz16_1
    try clear hcz16_2
    try clear hcz17_0
    try clear hcz17_1
    try clear hcz17_2
    try clear hcz23_0
    try clear hcz23_1
    try clear hcz23_2
    try clear hcz28_0
    try clear hcz28_1
    try clear hcz28_2
    try clear hcz31_0
    try clear hcz31_1
    try clear hcz31_2
    try clear hcz35_0
    try clear hcz35_1
    try clear hcz35_2
    try clear hcz38_0
    try clear hcz38_1
    try clear hcz38_2
    try clear hcz9_0
    try clear hcz9_1
    try clear hcz9_2
    try clear hfz10_0
    try clear hfz10_1
    try clear hfz10_2
    try clear hfz15_0
    try clear hfz15_1
    try clear hfz15_2
    try clear hfz16_0
    try clear hfz16_1
    try clear hfz16_2
    try clear hfz17_0
    try clear hfz17_1
    try clear hfz17_2
    try clear hfz23_0
    try clear hfz23_1
    try clear hfz23_2
    try clear hfz28_0
    try clear hfz28_1
    try clear hfz28_2
    try clear hfz31_0
    try clear hfz31_1
    try clear hfz31_2
    try clear hfz35_0
    try clear hfz35_1
    try clear hfz35_2
    try clear hfz38_0
    try clear hfz38_1
    try clear hfz38_2
    try clear hfz9_0
    try clear hfz9_1
    try clear hfz9_2
    obtain ⟨kq, x28_4, rfl, HA, HJ4, BK101, BK102, BK107, BK112, HB⟩ := hcut
    cases kq with
    | zero => exact absurd HA.out (by simp [peristylelaw1_LogicMatchesSpec.j0])
    | succ kj4 =>
      have H := HA.out
      clear HA
      simp only [peristylelaw1_LogicMatchesSpec.j0] at H
      by_cases c39 : x28_4 = true
      · subst c39
        have H1 : (none) = some r := by rw [if_pos rfl] at H; exact H
        clear H
        have H := H1
        clear H1
        exact absurd H (by simp)
      · replace c39 := Bool.eq_false_iff.mpr c39
        subst c39
        have H1 : ((value_Or.f kj4 a0_0 a0_1 a0_2 a1_0 a1_1 a1_2).bind fun bt113 => ((peristyleref1_Or.f kj4 a0_0 a0_1 a0_2 a1_0 a1_1 a1_2).bind fun bt117 => (if (!(bt113.1 == bt117.1) || (!(bt113.2.1 == bt117.2.1) || (!(bt113.2.2.1.toList == bt117.2.2.1.toList)))) = true then (peristylelaw1_LogicMatchesSpec.j1 kj4 true a0_0 a0_1 a0_2 a1_0 a1_1 a1_2) else (peristylelaw1_LogicMatchesSpec.j1 kj4 (bt113.2.2.2 != bt117.2.2.2) a0_0 a0_1 a0_2 a1_0 a1_1 a1_2)))) = some r := by rw [if_neg (show ¬ (false = true) by decide)] at H; exact H
        clear H
        have H := H1
        clear H1
        replace H := Option.bind_eq_some_iff.mp H
        obtain ⟨⟨t113, t114, t115, t116⟩, A400, H⟩ := H
        replace H : ((peristyleref1_Or.f kj4 a0_0 a0_1 a0_2 a1_0 a1_1 a1_2).bind fun bt117 => (if (!(t113 == bt117.1) || (!(t114 == bt117.2.1) || (!(t115.toList == bt117.2.2.1.toList)))) = true then (peristylelaw1_LogicMatchesSpec.j1 kj4 true a0_0 a0_1 a0_2 a1_0 a1_1 a1_2) else (peristylelaw1_LogicMatchesSpec.j1 kj4 (t116 != bt117.2.2.2) a0_0 a0_1 a0_2 a1_0 a1_1 a1_2))) = some r := H
        have A40 := Aside0.mk A400
        clear A400
        replace H := Option.bind_eq_some_iff.mp H
        obtain ⟨⟨t117, t118, t119, t120⟩, A410, H⟩ := H
        replace H : (if (!(t113 == t117) || (!(t114 == t118) || (!(t115.toList == t119.toList)))) = true then (peristylelaw1_LogicMatchesSpec.j1 kj4 true a0_0 a0_1 a0_2 a1_0 a1_1 a1_2) else (peristylelaw1_LogicMatchesSpec.j1 kj4 (t116 != t120) a0_0 a0_1 a0_2 a1_0 a1_1 a1_2)) = some r := H
        have A41 := Aside0.mk A410
        clear A410
        have HC42 := Aside0.mk H
        clear H
        have hnb43 := NB101_102.out
        have hnc43 := NB102_101.out
        have hnb44 := NB101_107.out
        have hnc44 := NB107_101.out
        have hnb45 := NB101_112.out
        have hnc45 := NB112_101.out
        have hcz46_0 : wc.cell? ⟨gb101, 0, none⟩ = some (.int .i64 a0_0) := (blk_cell BK101.out 0).trans rfl
        have hcz46_1 : wc.cell? ⟨gb101, 1, none⟩ = some (.int .i64 a0_1) := (blk_cell BK101.out 1).trans rfl
        have hcz46_2 : wc.cell? ⟨gb101, 2, none⟩ = some (.string a0_2) := (blk_cell BK101.out 2).trans rfl
        have hfz46_0 := blk_frozen BK101.out 0
        have hfz46_1 := blk_frozen BK101.out 1
        have hfz46_2 := blk_frozen BK101.out 2
        have hnb47 := NB102_107.out
        have hnc47 := NB107_102.out
        have hnb48 := NB102_112.out
        have hnc48 := NB112_102.out
        have hcz49_0 : wc.cell? ⟨gb102, 0, none⟩ = some (.int .i64 a1_0) := (blk_cell BK102.out 0).trans rfl
        have hcz49_1 : wc.cell? ⟨gb102, 1, none⟩ = some (.int .i64 a1_1) := (blk_cell BK102.out 1).trans rfl
        have hcz49_2 : wc.cell? ⟨gb102, 2, none⟩ = some (.string a1_2) := (blk_cell BK102.out 2).trans rfl
        have hfz49_0 := blk_frozen BK102.out 0
        have hfz49_1 := blk_frozen BK102.out 1
        have hfz49_2 := blk_frozen BK102.out 2
        go_upto_region 7 with (first | ((with_reducible refine gate_callee (f := 21) rfl ?_); refine goesL_ (some 32) rfl rfl Tryd.func21 (by kernel_rfl) rfl #[.agg #[.int .i64 a0_0, .int .i64 a0_1, .string a0_2], .agg #[.int .i64 a1_0, .int .i64 a1_1, .string a1_2]] rfl (by (try simp only [List.map_toArray, List.map_cons, List.map_nil]); first | done | rfl | (simp only [List.length_drop, List.length_take]; rfl)) ?_; (with_reducible refine (value_Or.calls kj4 a0_0 a0_1 a0_2 a1_0 a1_1 a1_2 t113 t114 t115 t116 _ A40.out).mono ?_); rintro e w50 ⟨rfl, hb⟩; refine ⟨_, rfl, ?_⟩; have n0_ := Aside0.mk (blk_below (g := gb101) (o := .cells #[.int .i64 a0_0, .int .i64 a0_1, .string a0_2] 23 (0, 0)) (by (with_reducible repeat (first | refine blk_drewN ?_ _ | refine blk_drew ?_ | refine blk_alloc ?_ _)); exact BK101.out) hb); have n1_ := Aside0.mk (blk_below (g := gb102) (o := .cells #[.int .i64 a1_0, .int .i64 a1_1, .string a1_2] 23 (0, 0)) (by (with_reducible repeat (first | refine blk_drewN ?_ _ | refine blk_drew ?_ | refine blk_alloc ?_ _)); exact BK102.out) hb); have n2_ := Aside0.mk (blk_below (g := gb107) (o := .cells #[.int .i64 t103, .int .i64 t104, .string t105] 23 (0, 0)) (by (with_reducible repeat (first | refine blk_drewN ?_ _ | refine blk_drew ?_ | refine blk_alloc ?_ _)); exact BK107.out) hb); have n3_ := Aside0.mk (blk_below (g := gb112) (o := .cells #[.int .i64 t108, .int .i64 t109, .string t110] 23 (0, 0)) (by (with_reducible repeat (first | refine blk_drewN ?_ _ | refine blk_drew ?_ | refine blk_alloc ?_ _)); exact BK112.out) hb); have n4_ := Aside0.mk (below_step (by repeat (first | (with_reducible first | exact HB.out | apply below_alloc | apply pw_below_drewN | apply below_drew1 | refine below_set ?_ GE101.out | refine below_set ?_ GE102.out | refine below_set ?_ GE107.out | refine below_set ?_ GE112.out) | exact HB.out)) hb); clear BK101; clear BK102; clear BK107; clear BK112; clear HB; have BK101 := n0_; have BK102 := n1_; have BK107 := n2_; have BK112 := n3_; have HB := n4_; clear n0_ n1_ n2_ n3_ n4_; (try clear hb); (try clear hb2); (try clear hk); (try clear hi); have hnb51 := NB107_112.out; have hnc51 := NB112_107.out; have hcz52_0 : w50.cell? ⟨gb107, 0, none⟩ = some (.int .i64 t103) := (blk_cell BK107.out 0).trans rfl; have hcz52_1 : w50.cell? ⟨gb107, 1, none⟩ = some (.int .i64 t104) := (blk_cell BK107.out 1).trans rfl; have hcz52_2 : w50.cell? ⟨gb107, 2, none⟩ = some (.string t105) := (blk_cell BK107.out 2).trans rfl; have hfz52_0 := blk_frozen BK107.out 0; have hfz52_1 := blk_frozen BK107.out 1; have hfz52_2 := blk_frozen BK107.out 2; have hcz53_0 : w50.cell? ⟨gb101, 0, none⟩ = some (.int .i64 a0_0) := (blk_cell BK101.out 0).trans rfl; have hcz53_1 : w50.cell? ⟨gb101, 1, none⟩ = some (.int .i64 a0_1) := (blk_cell BK101.out 1).trans rfl; have hcz53_2 : w50.cell? ⟨gb101, 2, none⟩ = some (.string a0_2) := (blk_cell BK101.out 2).trans rfl; have hfz53_0 := blk_frozen BK101.out 0; have hfz53_1 := blk_frozen BK101.out 1; have hfz53_2 := blk_frozen BK101.out 2; have hcz54_0 : w50.cell? ⟨gb102, 0, none⟩ = some (.int .i64 a1_0) := (blk_cell BK102.out 0).trans rfl; have hcz54_1 : w50.cell? ⟨gb102, 1, none⟩ = some (.int .i64 a1_1) := (blk_cell BK102.out 1).trans rfl; have hcz54_2 : w50.cell? ⟨gb102, 2, none⟩ = some (.string a1_2) := (blk_cell BK102.out 2).trans rfl; have hfz54_0 := blk_frozen BK102.out 0; have hfz54_1 := blk_frozen BK102.out 1; have hfz54_2 := blk_frozen BK102.out 2) | ((with_reducible refine gate_callee (f := 42) rfl ?_); refine goesL_ (some 38) rfl rfl Tryd.func42 (by kernel_rfl) rfl #[.agg #[.int .i64 a0_0, .int .i64 a0_1, .string a0_2], .agg #[.int .i64 a1_0, .int .i64 a1_1, .string a1_2]] rfl (by (try simp only [List.map_toArray, List.map_cons, List.map_nil]); first | done | rfl | (simp only [List.length_drop, List.length_take]; rfl)) ?_; (with_reducible refine (peristyleref1_Or.calls kj4 a0_0 a0_1 a0_2 a1_0 a1_1 a1_2 t117 t118 t119 t120 _ A41.out).mono ?_); rintro e w55 ⟨rfl, hb⟩; refine ⟨_, rfl, ?_⟩; have n0_ := Aside0.mk (blk_below (g := gb101) (o := .cells #[.int .i64 a0_0, .int .i64 a0_1, .string a0_2] 23 (0, 0)) (by (with_reducible repeat (first | refine blk_drewN ?_ _ | refine blk_drew ?_ | refine blk_alloc ?_ _)); refine blk_far ?_ NB101_107.out _; (with_reducible repeat (first | refine blk_drewN ?_ _ | refine blk_drew ?_ | refine blk_alloc ?_ _)); refine blk_far ?_ NB101_107.out _; (with_reducible repeat (first | refine blk_drewN ?_ _ | refine blk_drew ?_ | refine blk_alloc ?_ _)); refine blk_far ?_ NB101_107.out _; (with_reducible repeat (first | refine blk_drewN ?_ _ | refine blk_drew ?_ | refine blk_alloc ?_ _)); exact BK101.out) hb); have n1_ := Aside0.mk (blk_below (g := gb102) (o := .cells #[.int .i64 a1_0, .int .i64 a1_1, .string a1_2] 23 (0, 0)) (by (with_reducible repeat (first | refine blk_drewN ?_ _ | refine blk_drew ?_ | refine blk_alloc ?_ _)); refine blk_far ?_ NB102_107.out _; (with_reducible repeat (first | refine blk_drewN ?_ _ | refine blk_drew ?_ | refine blk_alloc ?_ _)); refine blk_far ?_ NB102_107.out _; (with_reducible repeat (first | refine blk_drewN ?_ _ | refine blk_drew ?_ | refine blk_alloc ?_ _)); refine blk_far ?_ NB102_107.out _; (with_reducible repeat (first | refine blk_drewN ?_ _ | refine blk_drew ?_ | refine blk_alloc ?_ _)); exact BK102.out) hb); have n2_ := Aside0.mk (blk_below (g := gb107) (o := .cells #[.int .i64 t113, .int .i64 t114, .string t115] 23 (0, 0)) (by (with_reducible repeat (first | refine blk_drewN ?_ _ | refine blk_drew ?_ | refine blk_alloc ?_ _)); refine blk_put (cs := #[.int .i64 t113, .int .i64 t114, .string t105]) ?_ 2 _ rfl; (with_reducible repeat (first | refine blk_drewN ?_ _ | refine blk_drew ?_ | refine blk_alloc ?_ _)); refine blk_put (cs := #[.int .i64 t113, .int .i64 t104, .string t105]) ?_ 1 _ rfl; (with_reducible repeat (first | refine blk_drewN ?_ _ | refine blk_drew ?_ | refine blk_alloc ?_ _)); refine blk_put (cs := #[.int .i64 t103, .int .i64 t104, .string t105]) ?_ 0 _ rfl; (with_reducible repeat (first | refine blk_drewN ?_ _ | refine blk_drew ?_ | refine blk_alloc ?_ _)); exact BK107.out) hb); have n3_ := Aside0.mk (blk_below (g := gb112) (o := .cells #[.int .i64 t108, .int .i64 t109, .string t110] 23 (0, 0)) (by (with_reducible repeat (first | refine blk_drewN ?_ _ | refine blk_drew ?_ | refine blk_alloc ?_ _)); refine blk_far ?_ NB112_107.out _; (with_reducible repeat (first | refine blk_drewN ?_ _ | refine blk_drew ?_ | refine blk_alloc ?_ _)); refine blk_far ?_ NB112_107.out _; (with_reducible repeat (first | refine blk_drewN ?_ _ | refine blk_drew ?_ | refine blk_alloc ?_ _)); refine blk_far ?_ NB112_107.out _; (with_reducible repeat (first | refine blk_drewN ?_ _ | refine blk_drew ?_ | refine blk_alloc ?_ _)); exact BK112.out) hb); have n4_ := Aside0.mk (below_step (by repeat (first | (with_reducible first | exact HB.out | apply below_alloc | apply pw_below_drewN | apply below_drew1 | refine below_set ?_ GE101.out | refine below_set ?_ GE102.out | refine below_set ?_ GE107.out | refine below_set ?_ GE112.out) | exact HB.out)) hb); clear BK101; clear BK102; clear BK107; clear BK112; clear HB; have BK101 := n0_; have BK102 := n1_; have BK107 := n2_; have BK112 := n3_; have HB := n4_; clear n0_ n1_ n2_ n3_ n4_; (try clear hb); (try clear hb2); (try clear hk); (try clear hi); have hcz56_0 : w55.cell? ⟨gb112, 0, none⟩ = some (.int .i64 t108) := (blk_cell BK112.out 0).trans rfl; have hcz56_1 : w55.cell? ⟨gb112, 1, none⟩ = some (.int .i64 t109) := (blk_cell BK112.out 1).trans rfl; have hcz56_2 : w55.cell? ⟨gb112, 2, none⟩ = some (.string t110) := (blk_cell BK112.out 2).trans rfl; have hfz56_0 := blk_frozen BK112.out 0; have hfz56_1 := blk_frozen BK112.out 1; have hfz56_2 := blk_frozen BK112.out 2))
        (try simp only [Act.put, List.setIfInBounds_toArray, List.set_cons_zero, List.set_cons_succ])
        go_cut [48] (fun v48 wc => ∃ (kq : Nat) (x48_41 : Bool), v48 = .bool x48_41 ∧ Aside0 (peristylelaw1_LogicMatchesSpec.j1 kq x48_41 a0_0 a0_1 a0_2 a1_0 a1_1 a1_2 = some r) ∧ Aside0 (kq ≤ kj4) ∧ Aside0 (wc.heap[gb101]? = some (.cells #[.int .i64 a0_0, .int .i64 a0_1, .string a0_2] 23 (0, 0))) ∧ Aside0 (wc.heap[gb102]? = some (.cells #[.int .i64 a1_0, .int .i64 a1_1, .string a1_2] 23 (0, 0))) ∧ Aside0 (wc.heap[gb107]? = some (.cells #[.int .i64 t113, .int .i64 t114, .string t115] 23 (0, 0))) ∧ Aside0 (wc.heap[gb112]? = some (.cells #[.int .i64 t117, .int .i64 t118, .string t119] 23 (0, 0))) ∧ Aside0 (Below w.heap.size w wc))
        case first =>
          have H := HC42.out
          clear HC42
          by_cases c57 : (!(t113 == t117) || (!(t114 == t118) || (!(t115.toList == t119.toList)))) = true
          · rw [if_pos c57] at H
            have c57b0 : (!(t113 == t117) || (!(t114 == t118) || (!(t115.toList == t119.toList)))) = true := c57
            clear c57
            (first | rw [c57b0] | (simp only [i64_w, i32_w]; rw [c57b0]) | skip)
            have H' := Aside0.mk H
            clear H
            have hnb58 := NB107_101.out
            have hnc58 := NB101_107.out
            have hnb59 := NB107_102.out
            have hnc59 := NB102_107.out
            have hnb60 := NB107_112.out
            have hnc60 := NB112_107.out
            have hcz61_0 : w55.cell? ⟨gb107, 0, none⟩ = some (.int .i64 t113) := (blk_cell BK107.out 0).trans rfl
            have hcz61_1 : w55.cell? ⟨gb107, 1, none⟩ = some (.int .i64 t114) := (blk_cell BK107.out 1).trans rfl
            have hcz61_2 : w55.cell? ⟨gb107, 2, none⟩ = some (.string t115) := (blk_cell BK107.out 2).trans rfl
            have hfz61_0 := blk_frozen BK107.out 0
            have hfz61_1 := blk_frozen BK107.out 1
            have hfz61_2 := blk_frozen BK107.out 2
            have hnb62 := NB112_101.out
            have hnc62 := NB101_112.out
            have hnb63 := NB112_102.out
            have hnc63 := NB102_112.out
            have hcz64_0 : w55.cell? ⟨gb112, 0, none⟩ = some (.int .i64 t108) := (blk_cell BK112.out 0).trans rfl
            have hcz64_1 : w55.cell? ⟨gb112, 1, none⟩ = some (.int .i64 t109) := (blk_cell BK112.out 1).trans rfl
            have hcz64_2 : w55.cell? ⟨gb112, 2, none⟩ = some (.string t110) := (blk_cell BK112.out 2).trans rfl
            have hfz64_0 := blk_frozen BK112.out 0
            have hfz64_1 := blk_frozen BK112.out 1
            have hfz64_2 := blk_frozen BK112.out 2
            go_wp2
            go_meet
            case rel => exact ⟨_, (true), (by first | rfl | (simp; done) | (simp [*]; done) | (simp [Go.bneNilE]; done) | (simp [*, Go.bneNilE]; done)), H', ⟨by have := HJ4.out; first | omega | exact Nat.le_refl _⟩, ⟨by (with_reducible repeat (first | refine blk_drewN ?_ _ | refine blk_drew ?_ | refine blk_alloc ?_ _)); refine blk_far ?_ NB101_112.out _; (with_reducible repeat (first | refine blk_drewN ?_ _ | refine blk_drew ?_ | refine blk_alloc ?_ _)); refine blk_far ?_ NB101_112.out _; (with_reducible repeat (first | refine blk_drewN ?_ _ | refine blk_drew ?_ | refine blk_alloc ?_ _)); refine blk_far ?_ NB101_112.out _; (with_reducible repeat (first | refine blk_drewN ?_ _ | refine blk_drew ?_ | refine blk_alloc ?_ _)); exact BK101.out⟩, ⟨by (with_reducible repeat (first | refine blk_drewN ?_ _ | refine blk_drew ?_ | refine blk_alloc ?_ _)); refine blk_far ?_ NB102_112.out _; (with_reducible repeat (first | refine blk_drewN ?_ _ | refine blk_drew ?_ | refine blk_alloc ?_ _)); refine blk_far ?_ NB102_112.out _; (with_reducible repeat (first | refine blk_drewN ?_ _ | refine blk_drew ?_ | refine blk_alloc ?_ _)); refine blk_far ?_ NB102_112.out _; (with_reducible repeat (first | refine blk_drewN ?_ _ | refine blk_drew ?_ | refine blk_alloc ?_ _)); exact BK102.out⟩, ⟨by (with_reducible repeat (first | refine blk_drewN ?_ _ | refine blk_drew ?_ | refine blk_alloc ?_ _)); refine blk_far ?_ NB107_112.out _; (with_reducible repeat (first | refine blk_drewN ?_ _ | refine blk_drew ?_ | refine blk_alloc ?_ _)); refine blk_far ?_ NB107_112.out _; (with_reducible repeat (first | refine blk_drewN ?_ _ | refine blk_drew ?_ | refine blk_alloc ?_ _)); refine blk_far ?_ NB107_112.out _; (with_reducible repeat (first | refine blk_drewN ?_ _ | refine blk_drew ?_ | refine blk_alloc ?_ _)); exact BK107.out⟩, ⟨by (with_reducible repeat (first | refine blk_drewN ?_ _ | refine blk_drew ?_ | refine blk_alloc ?_ _)); refine blk_put (cs := #[.int .i64 t117, .int .i64 t118, .string t110]) ?_ 2 _ rfl; (with_reducible repeat (first | refine blk_drewN ?_ _ | refine blk_drew ?_ | refine blk_alloc ?_ _)); refine blk_put (cs := #[.int .i64 t117, .int .i64 t109, .string t110]) ?_ 1 _ rfl; (with_reducible repeat (first | refine blk_drewN ?_ _ | refine blk_drew ?_ | refine blk_alloc ?_ _)); refine blk_put (cs := #[.int .i64 t108, .int .i64 t109, .string t110]) ?_ 0 _ rfl; (with_reducible repeat (first | refine blk_drewN ?_ _ | refine blk_drew ?_ | refine blk_alloc ?_ _)); exact BK112.out⟩, ⟨by repeat (first | (with_reducible first | exact HB.out | apply below_alloc | apply pw_below_drewN | apply below_drew1 | refine below_set ?_ GE101.out | refine below_set ?_ GE102.out | refine below_set ?_ GE107.out | refine below_set ?_ GE112.out) | exact HB.out)⟩⟩
          · rw [if_neg c57] at H
            have c57b0 : (!(t113 == t117) || (!(t114 == t118) || (!(t115.toList == t119.toList)))) = false := by simpa using c57
            clear c57
            (first | rw [c57b0] | (simp only [i64_w, i32_w]; rw [c57b0]) | skip)
            have H' := Aside0.mk H
            clear H
            have hnb65 := NB107_101.out
            have hnc65 := NB101_107.out
            have hnb66 := NB107_102.out
            have hnc66 := NB102_107.out
            have hnb67 := NB107_112.out
            have hnc67 := NB112_107.out
            have hcz68_0 : w55.cell? ⟨gb107, 0, none⟩ = some (.int .i64 t113) := (blk_cell BK107.out 0).trans rfl
            have hcz68_1 : w55.cell? ⟨gb107, 1, none⟩ = some (.int .i64 t114) := (blk_cell BK107.out 1).trans rfl
            have hcz68_2 : w55.cell? ⟨gb107, 2, none⟩ = some (.string t115) := (blk_cell BK107.out 2).trans rfl
            have hfz68_0 := blk_frozen BK107.out 0
            have hfz68_1 := blk_frozen BK107.out 1
            have hfz68_2 := blk_frozen BK107.out 2
            have hnb69 := NB112_101.out
            have hnc69 := NB101_112.out
            have hnb70 := NB112_102.out
            have hnc70 := NB102_112.out
            have hcz71_0 : w55.cell? ⟨gb112, 0, none⟩ = some (.int .i64 t108) := (blk_cell BK112.out 0).trans rfl
            have hcz71_1 : w55.cell? ⟨gb112, 1, none⟩ = some (.int .i64 t109) := (blk_cell BK112.out 1).trans rfl
            have hcz71_2 : w55.cell? ⟨gb112, 2, none⟩ = some (.string t110) := (blk_cell BK112.out 2).trans rfl
            have hfz71_0 := blk_frozen BK112.out 0
            have hfz71_1 := blk_frozen BK112.out 1
            have hfz71_2 := blk_frozen BK112.out 2
            go_wp2
            go_meet
            case rel => exact ⟨_, ((t116 != t120)), (by first | rfl | (simp; done) | (simp [*]; done) | (simp [Go.bneNilE]; done) | (simp [*, Go.bneNilE]; done)), H', ⟨by have := HJ4.out; first | omega | exact Nat.le_refl _⟩, ⟨by (with_reducible repeat (first | refine blk_drewN ?_ _ | refine blk_drew ?_ | refine blk_alloc ?_ _)); refine blk_far ?_ NB101_112.out _; (with_reducible repeat (first | refine blk_drewN ?_ _ | refine blk_drew ?_ | refine blk_alloc ?_ _)); refine blk_far ?_ NB101_112.out _; (with_reducible repeat (first | refine blk_drewN ?_ _ | refine blk_drew ?_ | refine blk_alloc ?_ _)); refine blk_far ?_ NB101_112.out _; (with_reducible repeat (first | refine blk_drewN ?_ _ | refine blk_drew ?_ | refine blk_alloc ?_ _)); exact BK101.out⟩, ⟨by (with_reducible repeat (first | refine blk_drewN ?_ _ | refine blk_drew ?_ | refine blk_alloc ?_ _)); refine blk_far ?_ NB102_112.out _; (with_reducible repeat (first | refine blk_drewN ?_ _ | refine blk_drew ?_ | refine blk_alloc ?_ _)); refine blk_far ?_ NB102_112.out _; (with_reducible repeat (first | refine blk_drewN ?_ _ | refine blk_drew ?_ | refine blk_alloc ?_ _)); refine blk_far ?_ NB102_112.out _; (with_reducible repeat (first | refine blk_drewN ?_ _ | refine blk_drew ?_ | refine blk_alloc ?_ _)); exact BK102.out⟩, ⟨by (with_reducible repeat (first | refine blk_drewN ?_ _ | refine blk_drew ?_ | refine blk_alloc ?_ _)); refine blk_far ?_ NB107_112.out _; (with_reducible repeat (first | refine blk_drewN ?_ _ | refine blk_drew ?_ | refine blk_alloc ?_ _)); refine blk_far ?_ NB107_112.out _; (with_reducible repeat (first | refine blk_drewN ?_ _ | refine blk_drew ?_ | refine blk_alloc ?_ _)); refine blk_far ?_ NB107_112.out _; (with_reducible repeat (first | refine blk_drewN ?_ _ | refine blk_drew ?_ | refine blk_alloc ?_ _)); exact BK107.out⟩, ⟨by (with_reducible repeat (first | refine blk_drewN ?_ _ | refine blk_drew ?_ | refine blk_alloc ?_ _)); refine blk_put (cs := #[.int .i64 t117, .int .i64 t118, .string t110]) ?_ 2 _ rfl; (with_reducible repeat (first | refine blk_drewN ?_ _ | refine blk_drew ?_ | refine blk_alloc ?_ _)); refine blk_put (cs := #[.int .i64 t117, .int .i64 t109, .string t110]) ?_ 1 _ rfl; (with_reducible repeat (first | refine blk_drewN ?_ _ | refine blk_drew ?_ | refine blk_alloc ?_ _)); refine blk_put (cs := #[.int .i64 t108, .int .i64 t109, .string t110]) ?_ 0 _ rfl; (with_reducible repeat (first | refine blk_drewN ?_ _ | refine blk_drew ?_ | refine blk_alloc ?_ _)); exact BK112.out⟩, ⟨by repeat (first | (with_reducible first | exact HB.out | apply below_alloc | apply pw_below_drewN | apply below_drew1 | refine below_set ?_ GE101.out | refine below_set ?_ GE102.out | refine below_set ?_ GE107.out | refine below_set ?_ GE112.out) | exact HB.out)⟩⟩
        case rest =>
          clear HC42
          try clear c1
          try clear c2
          try clear p2
          try clear c3
          try clear c4
          try clear c5
          try clear c6
          try clear c7
          try clear c8
          try clear c10
          try clear c13
          try clear c14
          try clear c19
          try clear c20
          try clear c21
          try clear c22
          try clear c24
          try clear c24b0
          try clear c25
          try clear c26
          try clear c27
          try clear c29
          try clear c30
          try clear c32
          try clear c33
          try clear c34
          try clear c36
          try clear c37
          try clear c39
          try clear c41
          try clear c42
          try clear c43
          try clear c44
          try clear c45
          try clear c47
          try clear c48
          try clear c51
          try clear c57
          try clear c57b0
          try clear c58
          try clear c59
          try clear c60
          try clear c62
          try clear c63
          try clear c65
          try clear c66
          try clear c67
          try clear c69
          try clear c70
          try clear hcz10_0
          try clear hcz10_1
          try clear hcz10_2
          try clear hcz15_0
          try clear hcz15_1
          try clear hcz15_2
          try clear hcz16_0
          try clear hcz16_1
          try clear hcz16_2
          try clear hcz17_0
          try clear hcz17_1
          try clear hcz17_2
          try clear hcz23_0
          try clear hcz23_1
          try clear hcz23_2
          try clear hcz28_0
          try clear hcz28_1
          try clear hcz28_2
          try clear hcz31_0
          try clear hcz31_1
          try clear hcz31_2
          try clear hcz35_0
          try clear hcz35_1
          try clear hcz35_2
          try clear hcz38_0
          try clear hcz38_1
          try clear hcz38_2
          try clear hcz46_0
          try clear hcz46_1
          try clear hcz46_2
          try clear hcz49_0
          try clear hcz49_1
          try clear hcz49_2
          try clear hcz52_0
          try clear hcz52_1
          try clear hcz52_2
          try clear hcz53_0
          try clear hcz53_1
          try clear hcz53_2
          try clear hcz54_0
          try clear hcz54_1
          try clear hcz54_2
          try clear hcz56_0
          try clear hcz56_1
          try clear hcz56_2
          try clear hcz61_0
          try clear hcz61_1
          try clear hcz61_2
          try clear hcz64_0
          try clear hcz64_1
          try clear hcz64_2
          try clear hcz68_0
          try clear hcz68_1
          try clear hcz68_2
          try clear hcz71_0
          try clear hcz71_1
          try clear hcz71_2
          try clear hcz9_0
          try clear hcz9_1
          try clear hcz9_2
          try clear hfz10_0
          try clear hfz10_1
          try clear hfz10_2
          try clear hfz15_0
          try clear hfz15_1
          try clear hfz15_2
          try clear hfz16_0
          try clear hfz16_1
          try clear hfz16_2
          try clear hfz17_0
          try clear hfz17_1
          try clear hfz17_2
          try clear hfz23_0
          try clear hfz23_1
          try clear hfz23_2
          try clear hfz28_0
          try clear hfz28_1
          try clear hfz28_2
          try clear hfz31_0
          try clear hfz31_1
          try clear hfz31_2
          try clear hfz35_0
          try clear hfz35_1
          try clear hfz35_2
          try clear hfz38_0
          try clear hfz38_1
          try clear hfz38_2
          try clear hfz46_0
          try clear hfz46_1
          try clear hfz46_2
          try clear hfz49_0
          try clear hfz49_1
          try clear hfz49_2
          try clear hfz52_0
          try clear hfz52_1
          try clear hfz52_2
          try clear hfz53_0
          try clear hfz53_1
          try clear hfz53_2
          try clear hfz54_0
          try clear hfz54_1
          try clear hfz54_2
          try clear hfz56_0
          try clear hfz56_1
          try clear hfz56_2
          try clear hfz61_0
          try clear hfz61_1
          try clear hfz61_2
          try clear hfz64_0
          try clear hfz64_1
          try clear hfz64_2
          try clear hfz68_0
          try clear hfz68_1
          try clear hfz68_2
          try clear hfz71_0
          try clear hfz71_1
          try clear hfz71_2
          try clear hfz9_0
          try clear hfz9_1
          try clear hfz9_2
          try clear p2
          obtain ⟨kq, x48_41, rfl, HA, HJ41, BK101, BK102, BK107, BK112, HB⟩ := hcut
          cases kq with
          | zero => exact absurd HA.out (by simp [peristylelaw1_LogicMatchesSpec.j1])
          | succ kj41 =>
            have H := HA.out
            clear HA
            simp only [peristylelaw1_LogicMatchesSpec.j1] at H
            by_cases c72 : x48_41 = true
            · subst c72
              have H1 : (none) = some r := by rw [if_pos rfl] at H; exact H
              clear H
              have H := H1
              clear H1
              exact absurd H (by simp)
            · replace c72 := Bool.eq_false_iff.mpr c72
              subst c72
              have H1 : ((value_Not.f kj41 a0_0 a0_1 a0_2).bind fun bt121 => ((peristyleref1_Not.f kj41 a0_0 a0_1 a0_2).bind fun bt125 => (if (!(bt121.1 == bt125.1) || (!(bt121.2.1 == bt125.2.1) || (!(bt121.2.2.1.toList == bt125.2.2.1.toList)))) = true then (peristylelaw1_LogicMatchesSpec.j2 kj41 true a0_0 a0_1 a0_2 a1_0 a1_1 a1_2) else (peristylelaw1_LogicMatchesSpec.j2 kj41 (bt121.2.2.2 != bt125.2.2.2) a0_0 a0_1 a0_2 a1_0 a1_1 a1_2)))) = some r := by rw [if_neg (show ¬ (false = true) by decide)] at H; exact H
              clear H
              have H := H1
              clear H1
              replace H := Option.bind_eq_some_iff.mp H
              obtain ⟨⟨t121, t122, t123, t124⟩, A730, H⟩ := H
              replace H : ((peristyleref1_Not.f kj41 a0_0 a0_1 a0_2).bind fun bt125 => (if (!(t121 == bt125.1) || (!(t122 == bt125.2.1) || (!(t123.toList == bt125.2.2.1.toList)))) = true then (peristylelaw1_LogicMatchesSpec.j2 kj41 true a0_0 a0_1 a0_2 a1_0 a1_1 a1_2) else (peristylelaw1_LogicMatchesSpec.j2 kj41 (t124 != bt125.2.2.2) a0_0 a0_1 a0_2 a1_0 a1_1 a1_2))) = some r := H
              have A73 := Aside0.mk A730
              clear A730
              replace H := Option.bind_eq_some_iff.mp H
              obtain ⟨⟨t125, t126, t127, t128⟩, A740, H⟩ := H
              replace H : (if (!(t121 == t125) || (!(t122 == t126) || (!(t123.toList == t127.toList)))) = true then (peristylelaw1_LogicMatchesSpec.j2 kj41 true a0_0 a0_1 a0_2 a1_0 a1_1 a1_2) else (peristylelaw1_LogicMatchesSpec.j2 kj41 (t124 != t128) a0_0 a0_1 a0_2 a1_0 a1_1 a1_2)) = some r := H
              have A74 := Aside0.mk A740
              clear A740
              have HC75 := Aside0.mk H
              clear H
              have hnb76 := NB101_102.out
              have hnc76 := NB102_101.out
              have hnb77 := NB101_107.out
              have hnc77 := NB107_101.out
              have hnb78 := NB101_112.out
              have hnc78 := NB112_101.out
              have hcz79_0 : wc.cell? ⟨gb101, 0, none⟩ = some (.int .i64 a0_0) := (blk_cell BK101.out 0).trans rfl
              have hcz79_1 : wc.cell? ⟨gb101, 1, none⟩ = some (.int .i64 a0_1) := (blk_cell BK101.out 1).trans rfl
              have hcz79_2 : wc.cell? ⟨gb101, 2, none⟩ = some (.string a0_2) := (blk_cell BK101.out 2).trans rfl
              have hfz79_0 := blk_frozen BK101.out 0
              have hfz79_1 := blk_frozen BK101.out 1
              have hfz79_2 := blk_frozen BK101.out 2
              go_upto_region 11 with (first | ((with_reducible refine gate_callee (f := 20) rfl ?_); refine goesL_ (some 51) rfl rfl Tryd.func20 (by kernel_rfl) rfl #[.agg #[.int .i64 a0_0, .int .i64 a0_1, .string a0_2]] rfl (by (try simp only [List.map_toArray, List.map_cons, List.map_nil]); first | done | rfl | (simp only [List.length_drop, List.length_take]; rfl)) ?_; (with_reducible refine (value_Not.calls kj41 a0_0 a0_1 a0_2 t121 t122 t123 t124 _ A73.out).mono ?_); rintro e w80 ⟨rfl, hb⟩; refine ⟨_, rfl, ?_⟩; have n0_ := Aside0.mk (blk_below (g := gb101) (o := .cells #[.int .i64 a0_0, .int .i64 a0_1, .string a0_2] 23 (0, 0)) (by (with_reducible repeat (first | refine blk_drewN ?_ _ | refine blk_drew ?_ | refine blk_alloc ?_ _)); exact BK101.out) hb); have n1_ := Aside0.mk (blk_below (g := gb102) (o := .cells #[.int .i64 a1_0, .int .i64 a1_1, .string a1_2] 23 (0, 0)) (by (with_reducible repeat (first | refine blk_drewN ?_ _ | refine blk_drew ?_ | refine blk_alloc ?_ _)); exact BK102.out) hb); have n2_ := Aside0.mk (blk_below (g := gb107) (o := .cells #[.int .i64 t113, .int .i64 t114, .string t115] 23 (0, 0)) (by (with_reducible repeat (first | refine blk_drewN ?_ _ | refine blk_drew ?_ | refine blk_alloc ?_ _)); exact BK107.out) hb); have n3_ := Aside0.mk (blk_below (g := gb112) (o := .cells #[.int .i64 t117, .int .i64 t118, .string t119] 23 (0, 0)) (by (with_reducible repeat (first | refine blk_drewN ?_ _ | refine blk_drew ?_ | refine blk_alloc ?_ _)); exact BK112.out) hb); have n4_ := Aside0.mk (below_step (by repeat (first | (with_reducible first | exact HB.out | apply below_alloc | apply pw_below_drewN | apply below_drew1 | refine below_set ?_ GE101.out | refine below_set ?_ GE102.out | refine below_set ?_ GE107.out | refine below_set ?_ GE112.out) | exact HB.out)) hb); clear BK101; clear BK102; clear BK107; clear BK112; clear HB; have BK101 := n0_; have BK102 := n1_; have BK107 := n2_; have BK112 := n3_; have HB := n4_; clear n0_ n1_ n2_ n3_ n4_; (try clear hb); (try clear hb2); (try clear hk); (try clear hi); have hnb81 := NB107_102.out; have hnc81 := NB102_107.out; have hnb82 := NB107_112.out; have hnc82 := NB112_107.out; have hcz83_0 : w80.cell? ⟨gb107, 0, none⟩ = some (.int .i64 t113) := (blk_cell BK107.out 0).trans rfl; have hcz83_1 : w80.cell? ⟨gb107, 1, none⟩ = some (.int .i64 t114) := (blk_cell BK107.out 1).trans rfl; have hcz83_2 : w80.cell? ⟨gb107, 2, none⟩ = some (.string t115) := (blk_cell BK107.out 2).trans rfl; have hfz83_0 := blk_frozen BK107.out 0; have hfz83_1 := blk_frozen BK107.out 1; have hfz83_2 := blk_frozen BK107.out 2; have hcz84_0 : w80.cell? ⟨gb101, 0, none⟩ = some (.int .i64 a0_0) := (blk_cell BK101.out 0).trans rfl; have hcz84_1 : w80.cell? ⟨gb101, 1, none⟩ = some (.int .i64 a0_1) := (blk_cell BK101.out 1).trans rfl; have hcz84_2 : w80.cell? ⟨gb101, 2, none⟩ = some (.string a0_2) := (blk_cell BK101.out 2).trans rfl; have hfz84_0 := blk_frozen BK101.out 0; have hfz84_1 := blk_frozen BK101.out 1; have hfz84_2 := blk_frozen BK101.out 2) | ((with_reducible refine gate_callee (f := 43) rfl ?_); refine goesL_ (some 56) rfl rfl Tryd.func43 (by kernel_rfl) rfl #[.agg #[.int .i64 a0_0, .int .i64 a0_1, .string a0_2]] rfl (by (try simp only [List.map_toArray, List.map_cons, List.map_nil]); first | done | rfl | (simp only [List.length_drop, List.length_take]; rfl)) ?_; (with_reducible refine (peristyleref1_Not.calls kj41 a0_0 a0_1 a0_2 t125 t126 t127 t128 _ A74.out).mono ?_); rintro e w85 ⟨rfl, hb⟩; refine ⟨_, rfl, ?_⟩; have n0_ := Aside0.mk (blk_below (g := gb101) (o := .cells #[.int .i64 a0_0, .int .i64 a0_1, .string a0_2] 23 (0, 0)) (by (with_reducible repeat (first | refine blk_drewN ?_ _ | refine blk_drew ?_ | refine blk_alloc ?_ _)); refine blk_far ?_ NB101_107.out _; (with_reducible repeat (first | refine blk_drewN ?_ _ | refine blk_drew ?_ | refine blk_alloc ?_ _)); refine blk_far ?_ NB101_107.out _; (with_reducible repeat (first | refine blk_drewN ?_ _ | refine blk_drew ?_ | refine blk_alloc ?_ _)); refine blk_far ?_ NB101_107.out _; (with_reducible repeat (first | refine blk_drewN ?_ _ | refine blk_drew ?_ | refine blk_alloc ?_ _)); exact BK101.out) hb); have n1_ := Aside0.mk (blk_below (g := gb102) (o := .cells #[.int .i64 a1_0, .int .i64 a1_1, .string a1_2] 23 (0, 0)) (by (with_reducible repeat (first | refine blk_drewN ?_ _ | refine blk_drew ?_ | refine blk_alloc ?_ _)); refine blk_far ?_ NB102_107.out _; (with_reducible repeat (first | refine blk_drewN ?_ _ | refine blk_drew ?_ | refine blk_alloc ?_ _)); refine blk_far ?_ NB102_107.out _; (with_reducible repeat (first | refine blk_drewN ?_ _ | refine blk_drew ?_ | refine blk_alloc ?_ _)); refine blk_far ?_ NB102_107.out _; (with_reducible repeat (first | refine blk_drewN ?_ _ | refine blk_drew ?_ | refine blk_alloc ?_ _)); exact BK102.out) hb); have n2_ := Aside0.mk (blk_below (g := gb107) (o := .cells #[.int .i64 t121, .int .i64 t122, .string t123] 23 (0, 0)) (by (with_reducible repeat (first | refine blk_drewN ?_ _ | refine blk_drew ?_ | refine blk_alloc ?_ _)); refine blk_put (cs := #[.int .i64 t121, .int .i64 t122, .string t115]) ?_ 2 _ rfl; (with_reducible repeat (first | refine blk_drewN ?_ _ | refine blk_drew ?_ | refine blk_alloc ?_ _)); refine blk_put (cs := #[.int .i64 t121, .int .i64 t114, .string t115]) ?_ 1 _ rfl; (with_reducible repeat (first | refine blk_drewN ?_ _ | refine blk_drew ?_ | refine blk_alloc ?_ _)); refine blk_put (cs := #[.int .i64 t113, .int .i64 t114, .string t115]) ?_ 0 _ rfl; (with_reducible repeat (first | refine blk_drewN ?_ _ | refine blk_drew ?_ | refine blk_alloc ?_ _)); exact BK107.out) hb); have n3_ := Aside0.mk (blk_below (g := gb112) (o := .cells #[.int .i64 t117, .int .i64 t118, .string t119] 23 (0, 0)) (by (with_reducible repeat (first | refine blk_drewN ?_ _ | refine blk_drew ?_ | refine blk_alloc ?_ _)); refine blk_far ?_ NB112_107.out _; (with_reducible repeat (first | refine blk_drewN ?_ _ | refine blk_drew ?_ | refine blk_alloc ?_ _)); refine blk_far ?_ NB112_107.out _; (with_reducible repeat (first | refine blk_drewN ?_ _ | refine blk_drew ?_ | refine blk_alloc ?_ _)); refine blk_far ?_ NB112_107.out _; (with_reducible repeat (first | refine blk_drewN ?_ _ | refine blk_drew ?_ | refine blk_alloc ?_ _)); exact BK112.out) hb); have n4_ := Aside0.mk (below_step (by repeat (first | (with_reducible first | exact HB.out | apply below_alloc | apply pw_below_drewN | apply below_drew1 | refine below_set ?_ GE101.out | refine below_set ?_ GE102.out | refine below_set ?_ GE107.out | refine below_set ?_ GE112.out) | exact HB.out)) hb); clear BK101; clear BK102; clear BK107; clear BK112; clear HB; have BK101 := n0_; have BK102 := n1_; have BK107 := n2_; have BK112 := n3_; have HB := n4_; clear n0_ n1_ n2_ n3_ n4_; (try clear hb); (try clear hb2); (try clear hk); (try clear hi); have hnb86 := NB112_102.out; have hnc86 := NB102_112.out; have hcz87_0 : w85.cell? ⟨gb112, 0, none⟩ = some (.int .i64 t117) := (blk_cell BK112.out 0).trans rfl; have hcz87_1 : w85.cell? ⟨gb112, 1, none⟩ = some (.int .i64 t118) := (blk_cell BK112.out 1).trans rfl; have hcz87_2 : w85.cell? ⟨gb112, 2, none⟩ = some (.string t119) := (blk_cell BK112.out 2).trans rfl; have hfz87_0 := blk_frozen BK112.out 0; have hfz87_1 := blk_frozen BK112.out 1; have hfz87_2 := blk_frozen BK112.out 2))
              (try simp only [Act.put, List.setIfInBounds_toArray, List.set_cons_zero, List.set_cons_succ])
              go_cut [66] (fun v66 wc => ∃ (kq : Nat) (x66_74 : Bool), v66 = .bool x66_74 ∧ Aside0 (peristylelaw1_LogicMatchesSpec.j2 kq x66_74 a0_0 a0_1 a0_2 a1_0 a1_1 a1_2 = some r) ∧ Aside0 (kq ≤ kj41) ∧ Aside0 (wc.heap[gb101]? = some (.cells #[.int .i64 a0_0, .int .i64 a0_1, .string a0_2] 23 (0, 0))) ∧ Aside0 (wc.heap[gb102]? = some (.cells #[.int .i64 a1_0, .int .i64 a1_1, .string a1_2] 23 (0, 0))) ∧ Aside0 (wc.heap[gb107]? = some (.cells #[.int .i64 t121, .int .i64 t122, .string t123] 23 (0, 0))) ∧ Aside0 (wc.heap[gb112]? = some (.cells #[.int .i64 t125, .int .i64 t126, .string t127] 23 (0, 0))) ∧ Aside0 (Below w.heap.size w wc))
              case first =>
                have H := HC75.out
                clear HC75
                by_cases c88 : (!(t121 == t125) || (!(t122 == t126) || (!(t123.toList == t127.toList)))) = true
                · rw [if_pos c88] at H
                  have c88b0 : (!(t121 == t125) || (!(t122 == t126) || (!(t123.toList == t127.toList)))) = true := c88
                  clear c88
                  (first | rw [c88b0] | (simp only [i64_w, i32_w]; rw [c88b0]) | skip)
                  have H' := Aside0.mk H
                  clear H
                  have hnb89 := NB107_101.out
                  have hnc89 := NB101_107.out
                  have hnb90 := NB107_102.out
                  have hnc90 := NB102_107.out
                  have hnb91 := NB107_112.out
                  have hnc91 := NB112_107.out
                  have hcz92_0 : w85.cell? ⟨gb107, 0, none⟩ = some (.int .i64 t121) := (blk_cell BK107.out 0).trans rfl
                  have hcz92_1 : w85.cell? ⟨gb107, 1, none⟩ = some (.int .i64 t122) := (blk_cell BK107.out 1).trans rfl
                  have hcz92_2 : w85.cell? ⟨gb107, 2, none⟩ = some (.string t123) := (blk_cell BK107.out 2).trans rfl
                  have hfz92_0 := blk_frozen BK107.out 0
                  have hfz92_1 := blk_frozen BK107.out 1
                  have hfz92_2 := blk_frozen BK107.out 2
                  have hnb93 := NB112_101.out
                  have hnc93 := NB101_112.out
                  have hnb94 := NB112_102.out
                  have hnc94 := NB102_112.out
                  have hcz95_0 : w85.cell? ⟨gb112, 0, none⟩ = some (.int .i64 t117) := (blk_cell BK112.out 0).trans rfl
                  have hcz95_1 : w85.cell? ⟨gb112, 1, none⟩ = some (.int .i64 t118) := (blk_cell BK112.out 1).trans rfl
                  have hcz95_2 : w85.cell? ⟨gb112, 2, none⟩ = some (.string t119) := (blk_cell BK112.out 2).trans rfl
                  have hfz95_0 := blk_frozen BK112.out 0
                  have hfz95_1 := blk_frozen BK112.out 1
                  have hfz95_2 := blk_frozen BK112.out 2
                  go_wp2
                  go_meet
                  case rel => exact ⟨_, (true), (by first | rfl | (simp; done) | (simp [*]; done) | (simp [Go.bneNilE]; done) | (simp [*, Go.bneNilE]; done)), H', ⟨by have := HJ4.out; have := HJ41.out; first | omega | exact Nat.le_refl _⟩, ⟨by (with_reducible repeat (first | refine blk_drewN ?_ _ | refine blk_drew ?_ | refine blk_alloc ?_ _)); refine blk_far ?_ NB101_112.out _; (with_reducible repeat (first | refine blk_drewN ?_ _ | refine blk_drew ?_ | refine blk_alloc ?_ _)); refine blk_far ?_ NB101_112.out _; (with_reducible repeat (first | refine blk_drewN ?_ _ | refine blk_drew ?_ | refine blk_alloc ?_ _)); refine blk_far ?_ NB101_112.out _; (with_reducible repeat (first | refine blk_drewN ?_ _ | refine blk_drew ?_ | refine blk_alloc ?_ _)); exact BK101.out⟩, ⟨by (with_reducible repeat (first | refine blk_drewN ?_ _ | refine blk_drew ?_ | refine blk_alloc ?_ _)); refine blk_far ?_ NB102_112.out _; (with_reducible repeat (first | refine blk_drewN ?_ _ | refine blk_drew ?_ | refine blk_alloc ?_ _)); refine blk_far ?_ NB102_112.out _; (with_reducible repeat (first | refine blk_drewN ?_ _ | refine blk_drew ?_ | refine blk_alloc ?_ _)); refine blk_far ?_ NB102_112.out _; (with_reducible repeat (first | refine blk_drewN ?_ _ | refine blk_drew ?_ | refine blk_alloc ?_ _)); exact BK102.out⟩, ⟨by (with_reducible repeat (first | refine blk_drewN ?_ _ | refine blk_drew ?_ | refine blk_alloc ?_ _)); refine blk_far ?_ NB107_112.out _; (with_reducible repeat (first | refine blk_drewN ?_ _ | refine blk_drew ?_ | refine blk_alloc ?_ _)); refine blk_far ?_ NB107_112.out _; (with_reducible repeat (first | refine blk_drewN ?_ _ | refine blk_drew ?_ | refine blk_alloc ?_ _)); refine blk_far ?_ NB107_112.out _; (with_reducible repeat (first | refine blk_drewN ?_ _ | refine blk_drew ?_ | refine blk_alloc ?_ _)); exact BK107.out⟩, ⟨by (with_reducible repeat (first | refine blk_drewN ?_ _ | refine blk_drew ?_ | refine blk_alloc ?_ _)); refine blk_put (cs := #[.int .i64 t125, .int .i64 t126, .string t119]) ?_ 2 _ rfl; (with_reducible repeat (first | refine blk_drewN ?_ _ | refine blk_drew ?_ | refine blk_alloc ?_ _)); refine blk_put (cs := #[.int .i64 t125, .int .i64 t118, .string t119]) ?_ 1 _ rfl; (with_reducible repeat (first | refine blk_drewN ?_ _ | refine blk_drew ?_ | refine blk_alloc ?_ _)); refine blk_put (cs := #[.int .i64 t117, .int .i64 t118, .string t119]) ?_ 0 _ rfl; (with_reducible repeat (first | refine blk_drewN ?_ _ | refine blk_drew ?_ | refine blk_alloc ?_ _)); exact BK112.out⟩, ⟨by repeat (first | (with_reducible first | exact HB.out | apply below_alloc | apply pw_below_drewN | apply below_drew1 | refine below_set ?_ GE101.out | refine below_set ?_ GE102.out | refine below_set ?_ GE107.out | refine below_set ?_ GE112.out) | exact HB.out)⟩⟩
                · rw [if_neg c88] at H
                  have c88b0 : (!(t121 == t125) || (!(t122 == t126) || (!(t123.toList == t127.toList)))) = false := by simpa using c88
                  clear c88
                  (first | rw [c88b0] | (simp only [i64_w, i32_w]; rw [c88b0]) | skip)
                  have H' := Aside0.mk H
                  clear H
                  have hnb96 := NB107_101.out
                  have hnc96 := NB101_107.out
                  have hnb97 := NB107_102.out
                  have hnc97 := NB102_107.out
                  have hnb98 := NB107_112.out
                  have hnc98 := NB112_107.out
                  have hcz99_0 : w85.cell? ⟨gb107, 0, none⟩ = some (.int .i64 t121) := (blk_cell BK107.out 0).trans rfl
                  have hcz99_1 : w85.cell? ⟨gb107, 1, none⟩ = some (.int .i64 t122) := (blk_cell BK107.out 1).trans rfl
                  have hcz99_2 : w85.cell? ⟨gb107, 2, none⟩ = some (.string t123) := (blk_cell BK107.out 2).trans rfl
                  have hfz99_0 := blk_frozen BK107.out 0
                  have hfz99_1 := blk_frozen BK107.out 1
                  have hfz99_2 := blk_frozen BK107.out 2
                  have hnb100 := NB112_101.out
                  have hnc100 := NB101_112.out
                  have hnb101 := NB112_102.out
                  have hnc101 := NB102_112.out
                  have hcz102_0 : w85.cell? ⟨gb112, 0, none⟩ = some (.int .i64 t117) := (blk_cell BK112.out 0).trans rfl
                  have hcz102_1 : w85.cell? ⟨gb112, 1, none⟩ = some (.int .i64 t118) := (blk_cell BK112.out 1).trans rfl
                  have hcz102_2 : w85.cell? ⟨gb112, 2, none⟩ = some (.string t119) := (blk_cell BK112.out 2).trans rfl
                  have hfz102_0 := blk_frozen BK112.out 0
                  have hfz102_1 := blk_frozen BK112.out 1
                  have hfz102_2 := blk_frozen BK112.out 2
                  go_wp2
                  go_meet
                  case rel => exact ⟨_, ((t124 != t128)), (by first | rfl | (simp; done) | (simp [*]; done) | (simp [Go.bneNilE]; done) | (simp [*, Go.bneNilE]; done)), H', ⟨by have := HJ4.out; have := HJ41.out; first | omega | exact Nat.le_refl _⟩, ⟨by (with_reducible repeat (first | refine blk_drewN ?_ _ | refine blk_drew ?_ | refine blk_alloc ?_ _)); refine blk_far ?_ NB101_112.out _; (with_reducible repeat (first | refine blk_drewN ?_ _ | refine blk_drew ?_ | refine blk_alloc ?_ _)); refine blk_far ?_ NB101_112.out _; (with_reducible repeat (first | refine blk_drewN ?_ _ | refine blk_drew ?_ | refine blk_alloc ?_ _)); refine blk_far ?_ NB101_112.out _; (with_reducible repeat (first | refine blk_drewN ?_ _ | refine blk_drew ?_ | refine blk_alloc ?_ _)); exact BK101.out⟩, ⟨by (with_reducible repeat (first | refine blk_drewN ?_ _ | refine blk_drew ?_ | refine blk_alloc ?_ _)); refine blk_far ?_ NB102_112.out _; (with_reducible repeat (first | refine blk_drewN ?_ _ | refine blk_drew ?_ | refine blk_alloc ?_ _)); refine blk_far ?_ NB102_112.out _; (with_reducible repeat (first | refine blk_drewN ?_ _ | refine blk_drew ?_ | refine blk_alloc ?_ _)); refine blk_far ?_ NB102_112.out _; (with_reducible repeat (first | refine blk_drewN ?_ _ | refine blk_drew ?_ | refine blk_alloc ?_ _)); exact BK102.out⟩, ⟨by (with_reducible repeat (first | refine blk_drewN ?_ _ | refine blk_drew ?_ | refine blk_alloc ?_ _)); refine blk_far ?_ NB107_112.out _; (with_reducible repeat (first | refine blk_drewN ?_ _ | refine blk_drew ?_ | refine blk_alloc ?_ _)); refine blk_far ?_ NB107_112.out _; (with_reducible repeat (first | refine blk_drewN ?_ _ | refine blk_drew ?_ | refine blk_alloc ?_ _)); refine blk_far ?_ NB107_112.out _; (with_reducible repeat (first | refine blk_drewN ?_ _ | refine blk_drew ?_ | refine blk_alloc ?_ _)); exact BK107.out⟩, ⟨by (with_reducible repeat (first | refine blk_drewN ?_ _ | refine blk_drew ?_ | refine blk_alloc ?_ _)); refine blk_put (cs := #[.int .i64 t125, .int .i64 t126, .string t119]) ?_ 2 _ rfl; (with_reducible repeat (first | refine blk_drewN ?_ _ | refine blk_drew ?_ | refine blk_alloc ?_ _)); refine blk_put (cs := #[.int .i64 t125, .int .i64 t118, .string t119]) ?_ 1 _ rfl; (with_reducible repeat (first | refine blk_drewN ?_ _ | refine blk_drew ?_ | refine blk_alloc ?_ _)); refine blk_put (cs := #[.int .i64 t117, .int .i64 t118, .string t119]) ?_ 0 _ rfl; (with_reducible repeat (first | refine blk_drewN ?_ _ | refine blk_drew ?_ | refine blk_alloc ?_ _)); exact BK112.out⟩, ⟨by repeat (first | (with_reducible first | exact HB.out | apply below_alloc | apply pw_below_drewN | apply below_drew1 | refine below_set ?_ GE101.out | refine below_set ?_ GE102.out | refine below_set ?_ GE107.out | refine below_set ?_ GE112.out) | exact HB.out)⟩⟩
              case rest =>
                clear HC75
                try clear c1
                try clear c2
                try clear p2
                try clear c3
                try clear c4
                try clear c5
                try clear c6
                try clear c7
                try clear c8
                try clear c9
                try clear c10
                try clear c13
                try clear c14
                try clear c19
                try clear c20
                try clear c21
                try clear c22
                try clear c24
                try clear c24b0
                try clear c25
                try clear c26
                try clear c27
                try clear c29
                try clear c30
                try clear c32
                try clear c33
                try clear c34
                try clear c36
                try clear c37
                try clear c39
                try clear c41
                try clear c42
                try clear c43
                try clear c44
                try clear c45
                try clear c47
                try clear c48
                try clear c51
                try clear c57
                try clear c57b0
                try clear c58
                try clear c59
                try clear c60
                try clear c62
                try clear c63
                try clear c65
                try clear c66
                try clear c67
                try clear c69
                try clear c70
                try clear c72
                try clear c76
                try clear c77
                try clear c78
                try clear c81
                try clear c82
                try clear c86
                try clear c88
                try clear c88b0
                try clear c89
                try clear c90
                try clear c91
                try clear c93
                try clear c94
                try clear c96
                try clear c97
                try clear c98
                try clear c100
                try clear c101
                try clear hcz102_0
                try clear hcz102_1
                try clear hcz102_2
                try clear hcz10_0
                try clear hcz10_1
                try clear hcz10_2
                try clear hcz15_0
                try clear hcz15_1
                try clear hcz15_2
                try clear hcz16_0
                try clear hcz16_1
                try clear hcz16_2
                try clear hcz17_0
                try clear hcz17_1
                try clear hcz17_2
                try clear hcz23_0
                try clear hcz23_1
                try clear hcz23_2
                try clear hcz28_0
                try clear hcz28_1
                try clear hcz28_2
                try clear hcz31_0
                try clear hcz31_1
                try clear hcz31_2
                try clear hcz35_0
                try clear hcz35_1
                try clear hcz35_2
                try clear hcz38_0
                try clear hcz38_1
                try clear hcz38_2
                try clear hcz46_0
                try clear hcz46_1
                try clear hcz46_2
                try clear hcz49_0
                try clear hcz49_1
                try clear hcz49_2
                try clear hcz52_0
                try clear hcz52_1
                try clear hcz52_2
                try clear hcz53_0
                try clear hcz53_1
                try clear hcz53_2
                try clear hcz54_0
                try clear hcz54_1
                try clear hcz54_2
                try clear hcz56_0
                try clear hcz56_1
                try clear hcz56_2
                try clear hcz61_0
                try clear hcz61_1
                try clear hcz61_2
                try clear hcz64_0
                try clear hcz64_1
                try clear hcz64_2
                try clear hcz68_0
                try clear hcz68_1
                try clear hcz68_2
                try clear hcz71_0
                try clear hcz71_1
                try clear hcz71_2
                try clear hcz79_0
                try clear hcz79_1
                try clear hcz79_2
                try clear hcz83_0
                try clear hcz83_1
                try clear hcz83_2
                try clear hcz84_0
                try clear hcz84_1
                try clear hcz84_2
                try clear hcz87_0
                try clear hcz87_1
                try clear hcz87_2
                try clear hcz92_0
                try clear hcz92_1
                try clear hcz92_2
                try clear hcz95_0
                try clear hcz95_1
                try clear hcz95_2
                try clear hcz99_0
                try clear hcz99_1
                try clear hcz99_2
                try clear hcz9_0
                try clear hcz9_1
                try clear hcz9_2
                try clear hfz102_0
                try clear hfz102_1
                try clear hfz102_2
                try clear hfz10_0
                try clear hfz10_1
                try clear hfz10_2
                try clear hfz15_0
                try clear hfz15_1
                try clear hfz15_2
                try clear hfz16_0
                try clear hfz16_1
                try clear hfz16_2
                try clear hfz17_0
                try clear hfz17_1
                try clear hfz17_2
                try clear hfz23_0
                try clear hfz23_1
                try clear hfz23_2
                try clear hfz28_0
                try clear hfz28_1
                try clear hfz28_2
                try clear hfz31_0
                try clear hfz31_1
                try clear hfz31_2
                try clear hfz35_0
                try clear hfz35_1
                try clear hfz35_2
                try clear hfz38_0
                try clear hfz38_1
                try clear hfz38_2
                try clear hfz46_0
                try clear hfz46_1
                try clear hfz46_2
                try clear hfz49_0
                try clear hfz49_1
                try clear hfz49_2
                try clear hfz52_0
                try clear hfz52_1
                try clear hfz52_2
                try clear hfz53_0
                try clear hfz53_1
                try clear hfz53_2
                try clear hfz54_0
                try clear hfz54_1
                try clear hfz54_2
                try clear hfz56_0
                try clear hfz56_1
                try clear hfz56_2
                try clear hfz61_0
                try clear hfz61_1
                try clear hfz61_2
                try clear hfz64_0
                try clear hfz64_1
                try clear hfz64_2
                try clear hfz68_0
                try clear hfz68_1
                try clear hfz68_2
                try clear hfz71_0
                try clear hfz71_1
                try clear hfz71_2
                try clear hfz79_0
                try clear hfz79_1
                try clear hfz79_2
                try clear hfz83_0
                try clear hfz83_1
                try clear hfz83_2
                try clear hfz84_0
                try clear hfz84_1
                try clear hfz84_2
                try clear hfz87_0
                try clear hfz87_1
                try clear hfz87_2
                try clear hfz92_0
                try clear hfz92_1
                try clear hfz92_2
                try clear hfz95_0
                try clear hfz95_1
                try clear hfz95_2
                try clear hfz99_0
                try clear hfz99_1
                try clear hfz99_2
                try clear hfz9_0
                try clear hfz9_1
                try clear hfz9_2
                try clear p2
                obtain ⟨kq, x66_74, rfl, HA, HJ74, BK101, BK102, BK107, BK112, HB⟩ := hcut
                cases kq with
                | zero => exact absurd HA.out (by simp [peristylelaw1_LogicMatchesSpec.j2])
                | succ kj74 =>
                  have H := HA.out
                  clear HA
                  simp only [peristylelaw1_LogicMatchesSpec.j2] at H
                  by_cases c103 : x66_74 = true
                  · subst c103
                    have H1 : (none) = some r := by rw [if_pos rfl] at H; exact H
                    clear H
                    have H := H1
                    clear H1
                    exact absurd H (by simp)
                  · replace c103 := Bool.eq_false_iff.mpr c103
                    subst c103
                    have H1 : ((value_Equal.f kj74 a0_0 a0_1 a0_2 a1_0 a1_1 a1_2).bind fun bt129 => ((peristyleref1_Equal.f kj74 a0_0 a0_1 a0_2 a1_0 a1_1 a1_2).bind fun bt133 => (if (!(bt129.1 == bt133.1) || (!(bt129.2.1 == bt133.2.1) || (!(bt129.2.2.1.toList == bt133.2.2.1.toList)))) = true then (peristylelaw1_LogicMatchesSpec.j3 kj74 true a0_0 a0_1 a0_2 a1_0 a1_1 a1_2) else (peristylelaw1_LogicMatchesSpec.j3 kj74 (bt129.2.2.2 != bt133.2.2.2) a0_0 a0_1 a0_2 a1_0 a1_1 a1_2)))) = some r := by rw [if_neg (show ¬ (false = true) by decide)] at H; exact H
                    clear H
                    have H := H1
                    clear H1
                    replace H := Option.bind_eq_some_iff.mp H
                    obtain ⟨⟨t129, t130, t131, t132⟩, A1040, H⟩ := H
                    replace H : ((peristyleref1_Equal.f kj74 a0_0 a0_1 a0_2 a1_0 a1_1 a1_2).bind fun bt133 => (if (!(t129 == bt133.1) || (!(t130 == bt133.2.1) || (!(t131.toList == bt133.2.2.1.toList)))) = true then (peristylelaw1_LogicMatchesSpec.j3 kj74 true a0_0 a0_1 a0_2 a1_0 a1_1 a1_2) else (peristylelaw1_LogicMatchesSpec.j3 kj74 (t132 != bt133.2.2.2) a0_0 a0_1 a0_2 a1_0 a1_1 a1_2))) = some r := H
                    have A104 := Aside0.mk A1040
                    clear A1040
                    replace H := Option.bind_eq_some_iff.mp H
                    obtain ⟨⟨t133, t134, t135, t136⟩, A1050, H⟩ := H
                    replace H : (if (!(t129 == t133) || (!(t130 == t134) || (!(t131.toList == t135.toList)))) = true then (peristylelaw1_LogicMatchesSpec.j3 kj74 true a0_0 a0_1 a0_2 a1_0 a1_1 a1_2) else (peristylelaw1_LogicMatchesSpec.j3 kj74 (t132 != t136) a0_0 a0_1 a0_2 a1_0 a1_1 a1_2)) = some r := H
                    have A105 := Aside0.mk A1050
                    clear A1050
                    have HC106 := Aside0.mk H
                    clear H
                    have hnb107 := NB101_102.out
                    have hnc107 := NB102_101.out
                    have hnb108 := NB101_107.out
                    have hnc108 := NB107_101.out
                    have hnb109 := NB101_112.out
                    have hnc109 := NB112_101.out
                    have hcz110_0 : wc.cell? ⟨gb101, 0, none⟩ = some (.int .i64 a0_0) := (blk_cell BK101.out 0).trans rfl
                    have hcz110_1 : wc.cell? ⟨gb101, 1, none⟩ = some (.int .i64 a0_1) := (blk_cell BK101.out 1).trans rfl
                    have hcz110_2 : wc.cell? ⟨gb101, 2, none⟩ = some (.string a0_2) := (blk_cell BK101.out 2).trans rfl
                    have hfz110_0 := blk_frozen BK101.out 0
                    have hfz110_1 := blk_frozen BK101.out 1
                    have hfz110_2 := blk_frozen BK101.out 2
                    have hnb111 := NB102_107.out
                    have hnc111 := NB107_102.out
                    have hnb112 := NB102_112.out
                    have hnc112 := NB112_102.out
                    have hcz113_0 : wc.cell? ⟨gb102, 0, none⟩ = some (.int .i64 a1_0) := (blk_cell BK102.out 0).trans rfl
                    have hcz113_1 : wc.cell? ⟨gb102, 1, none⟩ = some (.int .i64 a1_1) := (blk_cell BK102.out 1).trans rfl
                    have hcz113_2 : wc.cell? ⟨gb102, 2, none⟩ = some (.string a1_2) := (blk_cell BK102.out 2).trans rfl
                    have hfz113_0 := blk_frozen BK102.out 0
                    have hfz113_1 := blk_frozen BK102.out 1
                    have hfz113_2 := blk_frozen BK102.out 2
                    go_upto_region 15 with (first | ((with_reducible refine gate_callee (f := 44) rfl ?_); refine goesL_ (some 70) rfl rfl Tryd.func44 (by kernel_rfl) rfl #[.agg #[.int .i64 a0_0, .int .i64 a0_1, .string a0_2], .agg #[.int .i64 a1_0, .int .i64 a1_1, .string a1_2]] rfl (by (try simp only [List.map_toArray, List.map_cons, List.map_nil]); first | done | rfl | (simp only [List.length_drop, List.length_take]; rfl)) ?_; (with_reducible refine (value_Equal.calls kj74 a0_0 a0_1 a0_2 a1_0 a1_1 a1_2 t129 t130 t131 t132 _ A104.out).mono ?_); rintro e w114 ⟨rfl, hb⟩; refine ⟨_, rfl, ?_⟩; have n0_ := Aside0.mk (blk_below (g := gb101) (o := .cells #[.int .i64 a0_0, .int .i64 a0_1, .string a0_2] 23 (0, 0)) (by (with_reducible repeat (first | refine blk_drewN ?_ _ | refine blk_drew ?_ | refine blk_alloc ?_ _)); exact BK101.out) hb); have n1_ := Aside0.mk (blk_below (g := gb102) (o := .cells #[.int .i64 a1_0, .int .i64 a1_1, .string a1_2] 23 (0, 0)) (by (with_reducible repeat (first | refine blk_drewN ?_ _ | refine blk_drew ?_ | refine blk_alloc ?_ _)); exact BK102.out) hb); have n2_ := Aside0.mk (blk_below (g := gb107) (o := .cells #[.int .i64 t121, .int .i64 t122, .string t123] 23 (0, 0)) (by (with_reducible repeat (first | refine blk_drewN ?_ _ | refine blk_drew ?_ | refine blk_alloc ?_ _)); exact BK107.out) hb); have n3_ := Aside0.mk (blk_below (g := gb112) (o := .cells #[.int .i64 t125, .int .i64 t126, .string t127] 23 (0, 0)) (by (with_reducible repeat (first | refine blk_drewN ?_ _ | refine blk_drew ?_ | refine blk_alloc ?_ _)); exact BK112.out) hb); have n4_ := Aside0.mk (below_step (by repeat (first | (with_reducible first | exact HB.out | apply below_alloc | apply pw_below_drewN | apply below_drew1 | refine below_set ?_ GE101.out | refine below_set ?_ GE102.out | refine below_set ?_ GE107.out | refine below_set ?_ GE112.out) | exact HB.out)) hb); clear BK101; clear BK102; clear BK107; clear BK112; clear HB; have BK101 := n0_; have BK102 := n1_; have BK107 := n2_; have BK112 := n3_; have HB := n4_; clear n0_ n1_ n2_ n3_ n4_; (try clear hb); (try clear hb2); (try clear hk); (try clear hi); have hnb115 := NB107_112.out; have hnc115 := NB112_107.out; have hcz116_0 : w114.cell? ⟨gb107, 0, none⟩ = some (.int .i64 t121) := (blk_cell BK107.out 0).trans rfl; have hcz116_1 : w114.cell? ⟨gb107, 1, none⟩ = some (.int .i64 t122) := (blk_cell BK107.out 1).trans rfl; have hcz116_2 : w114.cell? ⟨gb107, 2, none⟩ = some (.string t123) := (blk_cell BK107.out 2).trans rfl; have hfz116_0 := blk_frozen BK107.out 0; have hfz116_1 := blk_frozen BK107.out 1; have hfz116_2 := blk_frozen BK107.out 2; have hcz117_0 : w114.cell? ⟨gb101, 0, none⟩ = some (.int .i64 a0_0) := (blk_cell BK101.out 0).trans rfl; have hcz117_1 : w114.cell? ⟨gb101, 1, none⟩ = some (.int .i64 a0_1) := (blk_cell BK101.out 1).trans rfl; have hcz117_2 : w114.cell? ⟨gb101, 2, none⟩ = some (.string a0_2) := (blk_cell BK101.out 2).trans rfl; have hfz117_0 := blk_frozen BK101.out 0; have hfz117_1 := blk_frozen BK101.out 1; have hfz117_2 := blk_frozen BK101.out 2; have hcz118_0 : w114.cell? ⟨gb102, 0, none⟩ = some (.int .i64 a1_0) := (blk_cell BK102.out 0).trans rfl; have hcz118_1 : w114.cell? ⟨gb102, 1, none⟩ = some (.int .i64 a1_1) := (blk_cell BK102.out 1).trans rfl; have hcz118_2 : w114.cell? ⟨gb102, 2, none⟩ = some (.string a1_2) := (blk_cell BK102.out 2).trans rfl; have hfz118_0 := blk_frozen BK102.out 0; have hfz118_1 := blk_frozen BK102.out 1; have hfz118_2 := blk_frozen BK102.out 2) | ((with_reducible refine gate_callee (f := 45) rfl ?_); refine goesL_ (some 76) rfl rfl Tryd.func45 (by kernel_rfl) rfl #[.agg #[.int .i64 a0_0, .int .i64 a0_1, .string a0_2], .agg #[.int .i64 a1_0, .int .i64 a1_1, .string a1_2]] rfl (by (try simp only [List.map_toArray, List.map_cons, List.map_nil]); first | done | rfl | (simp only [List.length_drop, List.length_take]; rfl)) ?_; (with_reducible refine (peristyleref1_Equal.calls kj74 a0_0 a0_1 a0_2 a1_0 a1_1 a1_2 t133 t134 t135 t136 _ A105.out).mono ?_); rintro e w119 ⟨rfl, hb⟩; refine ⟨_, rfl, ?_⟩; have n0_ := Aside0.mk (blk_below (g := gb101) (o := .cells #[.int .i64 a0_0, .int .i64 a0_1, .string a0_2] 23 (0, 0)) (by (with_reducible repeat (first | refine blk_drewN ?_ _ | refine blk_drew ?_ | refine blk_alloc ?_ _)); refine blk_far ?_ NB101_107.out _; (with_reducible repeat (first | refine blk_drewN ?_ _ | refine blk_drew ?_ | refine blk_alloc ?_ _)); refine blk_far ?_ NB101_107.out _; (with_reducible repeat (first | refine blk_drewN ?_ _ | refine blk_drew ?_ | refine blk_alloc ?_ _)); refine blk_far ?_ NB101_107.out _; (with_reducible repeat (first | refine blk_drewN ?_ _ | refine blk_drew ?_ | refine blk_alloc ?_ _)); exact BK101.out) hb); have n1_ := Aside0.mk (blk_below (g := gb102) (o := .cells #[.int .i64 a1_0, .int .i64 a1_1, .string a1_2] 23 (0, 0)) (by (with_reducible repeat (first | refine blk_drewN ?_ _ | refine blk_drew ?_ | refine blk_alloc ?_ _)); refine blk_far ?_ NB102_107.out _; (with_reducible repeat (first | refine blk_drewN ?_ _ | refine blk_drew ?_ | refine blk_alloc ?_ _)); refine blk_far ?_ NB102_107.out _; (with_reducible repeat (first | refine blk_drewN ?_ _ | refine blk_drew ?_ | refine blk_alloc ?_ _)); refine blk_far ?_ NB102_107.out _; (with_reducible repeat (first | refine blk_drewN ?_ _ | refine blk_drew ?_ | refine blk_alloc ?_ _)); exact BK102.out) hb); have n2_ := Aside0.mk (blk_below (g := gb107) (o := .cells #[.int .i64 t129, .int .i64 t130, .string t131] 23 (0, 0)) (by (with_reducible repeat (first | refine blk_drewN ?_ _ | refine blk_drew ?_ | refine blk_alloc ?_ _)); refine blk_put (cs := #[.int .i64 t129, .int .i64 t130, .string t123]) ?_ 2 _ rfl; (with_reducible repeat (first | refine blk_drewN ?_ _ | refine blk_drew ?_ | refine blk_alloc ?_ _)); refine blk_put (cs := #[.int .i64 t129, .int .i64 t122, .string t123]) ?_ 1 _ rfl; (with_reducible repeat (first | refine blk_drewN ?_ _ | refine blk_drew ?_ | refine blk_alloc ?_ _)); refine blk_put (cs := #[.int .i64 t121, .int .i64 t122, .string t123]) ?_ 0 _ rfl; (with_reducible repeat (first | refine blk_drewN ?_ _ | refine blk_drew ?_ | refine blk_alloc ?_ _)); exact BK107.out) hb); have n3_ := Aside0.mk (blk_below (g := gb112) (o := .cells #[.int .i64 t125, .int .i64 t126, .string t127] 23 (0, 0)) (by (with_reducible repeat (first | refine blk_drewN ?_ _ | refine blk_drew ?_ | refine blk_alloc ?_ _)); refine blk_far ?_ NB112_107.out _; (with_reducible repeat (first | refine blk_drewN ?_ _ | refine blk_drew ?_ | refine blk_alloc ?_ _)); refine blk_far ?_ NB112_107.out _; (with_reducible repeat (first | refine blk_drewN ?_ _ | refine blk_drew ?_ | refine blk_alloc ?_ _)); refine blk_far ?_ NB112_107.out _; (with_reducible repeat (first | refine blk_drewN ?_ _ | refine blk_drew ?_ | refine blk_alloc ?_ _)); exact BK112.out) hb); have n4_ := Aside0.mk (below_step (by repeat (first | (with_reducible first | exact HB.out | apply below_alloc | apply pw_below_drewN | apply below_drew1 | refine below_set ?_ GE101.out | refine below_set ?_ GE102.out | refine below_set ?_ GE107.out | refine below_set ?_ GE112.out) | exact HB.out)) hb); clear BK101; clear BK102; clear BK107; clear BK112; clear HB; have BK101 := n0_; have BK102 := n1_; have BK107 := n2_; have BK112 := n3_; have HB := n4_; clear n0_ n1_ n2_ n3_ n4_; (try clear hb); (try clear hb2); (try clear hk); (try clear hi); have hcz120_0 : w119.cell? ⟨gb112, 0, none⟩ = some (.int .i64 t125) := (blk_cell BK112.out 0).trans rfl; have hcz120_1 : w119.cell? ⟨gb112, 1, none⟩ = some (.int .i64 t126) := (blk_cell BK112.out 1).trans rfl; have hcz120_2 : w119.cell? ⟨gb112, 2, none⟩ = some (.string t127) := (blk_cell BK112.out 2).trans rfl; have hfz120_0 := blk_frozen BK112.out 0; have hfz120_1 := blk_frozen BK112.out 1; have hfz120_2 := blk_frozen BK112.out 2))
                    (try simp only [Act.put, List.setIfInBounds_toArray, List.set_cons_zero, List.set_cons_succ])
                    go_cut [86] (fun v86 wc => ∃ (kq : Nat) (x86_105 : Bool), v86 = .bool x86_105 ∧ Aside0 (peristylelaw1_LogicMatchesSpec.j3 kq x86_105 a0_0 a0_1 a0_2 a1_0 a1_1 a1_2 = some r) ∧ Aside0 (kq ≤ kj74) ∧ Aside0 (wc.heap[gb101]? = some (.cells #[.int .i64 a0_0, .int .i64 a0_1, .string a0_2] 23 (0, 0))) ∧ Aside0 (wc.heap[gb102]? = some (.cells #[.int .i64 a1_0, .int .i64 a1_1, .string a1_2] 23 (0, 0))) ∧ Aside0 (wc.heap[gb107]? = some (.cells #[.int .i64 t129, .int .i64 t130, .string t131] 23 (0, 0))) ∧ Aside0 (wc.heap[gb112]? = some (.cells #[.int .i64 t133, .int .i64 t134, .string t135] 23 (0, 0))) ∧ Aside0 (Below w.heap.size w wc))
                    case first =>
                      have H := HC106.out
                      clear HC106
                      by_cases c121 : (!(t129 == t133) || (!(t130 == t134) || (!(t131.toList == t135.toList)))) = true
                      · rw [if_pos c121] at H
                        have c121b0 : (!(t129 == t133) || (!(t130 == t134) || (!(t131.toList == t135.toList)))) = true := c121
                        clear c121
                        (first | rw [c121b0] | (simp only [i64_w, i32_w]; rw [c121b0]) | skip)
                        have H' := Aside0.mk H
                        clear H
                        have hnb122 := NB107_101.out
                        have hnc122 := NB101_107.out
                        have hnb123 := NB107_102.out
                        have hnc123 := NB102_107.out
                        have hnb124 := NB107_112.out
                        have hnc124 := NB112_107.out
                        have hcz125_0 : w119.cell? ⟨gb107, 0, none⟩ = some (.int .i64 t129) := (blk_cell BK107.out 0).trans rfl
                        have hcz125_1 : w119.cell? ⟨gb107, 1, none⟩ = some (.int .i64 t130) := (blk_cell BK107.out 1).trans rfl
                        have hcz125_2 : w119.cell? ⟨gb107, 2, none⟩ = some (.string t131) := (blk_cell BK107.out 2).trans rfl
                        have hfz125_0 := blk_frozen BK107.out 0
                        have hfz125_1 := blk_frozen BK107.out 1
                        have hfz125_2 := blk_frozen BK107.out 2
                        have hnb126 := NB112_101.out
                        have hnc126 := NB101_112.out
                        have hnb127 := NB112_102.out
                        have hnc127 := NB102_112.out
                        have hcz128_0 : w119.cell? ⟨gb112, 0, none⟩ = some (.int .i64 t125) := (blk_cell BK112.out 0).trans rfl
                        have hcz128_1 : w119.cell? ⟨gb112, 1, none⟩ = some (.int .i64 t126) := (blk_cell BK112.out 1).trans rfl
                        have hcz128_2 : w119.cell? ⟨gb112, 2, none⟩ = some (.string t127) := (blk_cell BK112.out 2).trans rfl
                        have hfz128_0 := blk_frozen BK112.out 0
                        have hfz128_1 := blk_frozen BK112.out 1
                        have hfz128_2 := blk_frozen BK112.out 2
                        go_wp2
                        go_meet
                        case rel => exact ⟨_, (true), (by first | rfl | (simp; done) | (simp [*]; done) | (simp [Go.bneNilE]; done) | (simp [*, Go.bneNilE]; done)), H', ⟨by have := HJ4.out; have := HJ41.out; have := HJ74.out; first | omega | exact Nat.le_refl _⟩, ⟨by (with_reducible repeat (first | refine blk_drewN ?_ _ | refine blk_drew ?_ | refine blk_alloc ?_ _)); refine blk_far ?_ NB101_112.out _; (with_reducible repeat (first | refine blk_drewN ?_ _ | refine blk_drew ?_ | refine blk_alloc ?_ _)); refine blk_far ?_ NB101_112.out _; (with_reducible repeat (first | refine blk_drewN ?_ _ | refine blk_drew ?_ | refine blk_alloc ?_ _)); refine blk_far ?_ NB101_112.out _; (with_reducible repeat (first | refine blk_drewN ?_ _ | refine blk_drew ?_ | refine blk_alloc ?_ _)); exact BK101.out⟩, ⟨by (with_reducible repeat (first | refine blk_drewN ?_ _ | refine blk_drew ?_ | refine blk_alloc ?_ _)); refine blk_far ?_ NB102_112.out _; (with_reducible repeat (first | refine blk_drewN ?_ _ | refine blk_drew ?_ | refine blk_alloc ?_ _)); refine blk_far ?_ NB102_112.out _; (with_reducible repeat (first | refine blk_drewN ?_ _ | refine blk_drew ?_ | refine blk_alloc ?_ _)); refine blk_far ?_ NB102_112.out _; (with_reducible repeat (first | refine blk_drewN ?_ _ | refine blk_drew ?_ | refine blk_alloc ?_ _)); exact BK102.out⟩, ⟨by (with_reducible repeat (first | refine blk_drewN ?_ _ | refine blk_drew ?_ | refine blk_alloc ?_ _)); refine blk_far ?_ NB107_112.out _; (with_reducible repeat (first | refine blk_drewN ?_ _ | refine blk_drew ?_ | refine blk_alloc ?_ _)); refine blk_far ?_ NB107_112.out _; (with_reducible repeat (first | refine blk_drewN ?_ _ | refine blk_drew ?_ | refine blk_alloc ?_ _)); refine blk_far ?_ NB107_112.out _; (with_reducible repeat (first | refine blk_drewN ?_ _ | refine blk_drew ?_ | refine blk_alloc ?_ _)); exact BK107.out⟩, ⟨by (with_reducible repeat (first | refine blk_drewN ?_ _ | refine blk_drew ?_ | refine blk_alloc ?_ _)); refine blk_put (cs := #[.int .i64 t133, .int .i64 t134, .string t127]) ?_ 2 _ rfl; (with_reducible repeat (first | refine blk_drewN ?_ _ | refine blk_drew ?_ | refine blk_alloc ?_ _)); refine blk_put (cs := #[.int .i64 t133, .int .i64 t126, .string t127]) ?_ 1 _ rfl; (with_reducible repeat (first | refine blk_drewN ?_ _ | refine blk_drew ?_ | refine blk_alloc ?_ _)); refine blk_put (cs := #[.int .i64 t125, .int .i64 t126, .string t127]) ?_ 0 _ rfl; (with_reducible repeat (first | refine blk_drewN ?_ _ | refine blk_drew ?_ | refine blk_alloc ?_ _)); exact BK112.out⟩, ⟨by repeat (first | (with_reducible first | exact HB.out | apply below_alloc | apply pw_below_drewN | apply below_drew1 | refine below_set ?_ GE101.out | refine below_set ?_ GE102.out | refine below_set ?_ GE107.out | refine below_set ?_ GE112.out) | exact HB.out)⟩⟩
                      · rw [if_neg c121] at H
                        have c121b0 : (!(t129 == t133) || (!(t130 == t134) || (!(t131.toList == t135.toList)))) = false := by simpa using c121
                        clear c121
                        (first | rw [c121b0] | (simp only [i64_w, i32_w]; rw [c121b0]) | skip)
                        have H' := Aside0.mk H
                        clear H
                        have hnb129 := NB107_101.out
                        have hnc129 := NB101_107.out
                        have hnb130 := NB107_102.out
                        have hnc130 := NB102_107.out
                        have hnb131 := NB107_112.out
                        have hnc131 := NB112_107.out
                        have hcz132_0 : w119.cell? ⟨gb107, 0, none⟩ = some (.int .i64 t129) := (blk_cell BK107.out 0).trans rfl
                        have hcz132_1 : w119.cell? ⟨gb107, 1, none⟩ = some (.int .i64 t130) := (blk_cell BK107.out 1).trans rfl
                        have hcz132_2 : w119.cell? ⟨gb107, 2, none⟩ = some (.string t131) := (blk_cell BK107.out 2).trans rfl
                        have hfz132_0 := blk_frozen BK107.out 0
                        have hfz132_1 := blk_frozen BK107.out 1
                        have hfz132_2 := blk_frozen BK107.out 2
                        have hnb133 := NB112_101.out
                        have hnc133 := NB101_112.out
                        have hnb134 := NB112_102.out
                        have hnc134 := NB102_112.out
                        have hcz135_0 : w119.cell? ⟨gb112, 0, none⟩ = some (.int .i64 t125) := (blk_cell BK112.out 0).trans rfl
                        have hcz135_1 : w119.cell? ⟨gb112, 1, none⟩ = some (.int .i64 t126) := (blk_cell BK112.out 1).trans rfl
                        have hcz135_2 : w119.cell? ⟨gb112, 2, none⟩ = some (.string t127) := (blk_cell BK112.out 2).trans rfl
                        have hfz135_0 := blk_frozen BK112.out 0
                        have hfz135_1 := blk_frozen BK112.out 1
                        have hfz135_2 := blk_frozen BK112.out 2
                        go_wp2
                        go_meet
                        case rel => exact ⟨_, ((t132 != t136)), (by first | rfl | (simp; done) | (simp [*]; done) | (simp [Go.bneNilE]; done) | (simp [*, Go.bneNilE]; done)), H', ⟨by have := HJ4.out; have := HJ41.out; have := HJ74.out; first | omega | exact Nat.le_refl _⟩, ⟨by (with_reducible repeat (first | refine blk_drewN ?_ _ | refine blk_drew ?_ | refine blk_alloc ?_ _)); refine blk_far ?_ NB101_112.out _; (with_reducible repeat (first | refine blk_drewN ?_ _ | refine blk_drew ?_ | refine blk_alloc ?_ _)); refine blk_far ?_ NB101_112.out _; (with_reducible repeat (first | refine blk_drewN ?_ _ | refine blk_drew ?_ | refine blk_alloc ?_ _)); refine blk_far ?_ NB101_112.out _; (with_reducible repeat (first | refine blk_drewN ?_ _ | refine blk_drew ?_ | refine blk_alloc ?_ _)); exact BK101.out⟩, ⟨by (with_reducible repeat (first | refine blk_drewN ?_ _ | refine blk_drew ?_ | refine blk_alloc ?_ _)); refine blk_far ?_ NB102_112.out _; (with_reducible repeat (first | refine blk_drewN ?_ _ | refine blk_drew ?_ | refine blk_alloc ?_ _)); refine blk_far ?_ NB102_112.out _; (with_reducible repeat (first | refine blk_drewN ?_ _ | refine blk_drew ?_ | refine blk_alloc ?_ _)); refine blk_far ?_ NB102_112.out _; (with_reducible repeat (first | refine blk_drewN ?_ _ | refine blk_drew ?_ | refine blk_alloc ?_ _)); exact BK102.out⟩, ⟨by (with_reducible repeat (first | refine blk_drewN ?_ _ | refine blk_drew ?_ | refine blk_alloc ?_ _)); refine blk_far ?_ NB107_112.out _; (with_reducible repeat (first | refine blk_drewN ?_ _ | refine blk_drew ?_ | refine blk_alloc ?_ _)); refine blk_far ?_ NB107_112.out _; (with_reducible repeat (first | refine blk_drewN ?_ _ | refine blk_drew ?_ | refine blk_alloc ?_ _)); refine blk_far ?_ NB107_112.out _; (with_reducible repeat (first | refine blk_drewN ?_ _ | refine blk_drew ?_ | refine blk_alloc ?_ _)); exact BK107.out⟩, ⟨by (with_reducible repeat (first | refine blk_drewN ?_ _ | refine blk_drew ?_ | refine blk_alloc ?_ _)); refine blk_put (cs := #[.int .i64 t133, .int .i64 t134, .string t127]) ?_ 2 _ rfl; (with_reducible repeat (first | refine blk_drewN ?_ _ | refine blk_drew ?_ | refine blk_alloc ?_ _)); refine blk_put (cs := #[.int .i64 t133, .int .i64 t126, .string t127]) ?_ 1 _ rfl; (with_reducible repeat (first | refine blk_drewN ?_ _ | refine blk_drew ?_ | refine blk_alloc ?_ _)); refine blk_put (cs := #[.int .i64 t125, .int .i64 t126, .string t127]) ?_ 0 _ rfl; (with_reducible repeat (first | refine blk_drewN ?_ _ | refine blk_drew ?_ | refine blk_alloc ?_ _)); exact BK112.out⟩, ⟨by repeat (first | (with_reducible first | exact HB.out | apply below_alloc | apply pw_below_drewN | apply below_drew1 | refine below_set ?_ GE101.out | refine below_set ?_ GE102.out | refine below_set ?_ GE107.out | refine below_set ?_ GE112.out) | exact HB.out)⟩⟩
                    case rest =>
                      clear HC106
                      try clear c1
                      try clear c2
                      try clear p2
                      try clear c3
                      try clear c4
                      try clear c5
                      try clear c6
                      try clear c7
                      try clear c8
                      try clear c9
                      try clear c10
                      try clear c11
                      try clear c12
                      try clear c13
                      try clear c14
                      try clear c19
                      try clear c20
                      try clear c21
                      try clear c22
                      try clear c24
                      try clear c24b0
                      try clear c25
                      try clear c26
                      try clear c27
                      try clear c29
                      try clear c30
                      try clear c32
                      try clear c33
                      try clear c34
                      try clear c36
                      try clear c37
                      try clear c39
                      try clear c41
                      try clear c42
                      try clear c43
                      try clear c44
                      try clear c45
                      try clear c47
                      try clear c48
                      try clear c51
                      try clear c57
                      try clear c57b0
                      try clear c58
                      try clear c59
                      try clear c60
                      try clear c62
                      try clear c63
                      try clear c65
                      try clear c66
                      try clear c67
                      try clear c69
                      try clear c70
                      try clear c72
                      try clear c76
                      try clear c77
                      try clear c78
                      try clear c81
                      try clear c82
                      try clear c86
                      try clear c88
                      try clear c88b0
                      try clear c89
                      try clear c90
                      try clear c91
                      try clear c93
                      try clear c94
                      try clear c96
                      try clear c97
                      try clear c98
                      try clear c100
                      try clear c101
                      try clear c103
                      try clear c107
                      try clear c108
                      try clear c109
                      try clear c111
                      try clear c112
                      try clear c115
                      try clear c121
                      try clear c121b0
                      try clear c122
                      try clear c123
                      try clear c124
                      try clear c126
                      try clear c127
                      try clear c129
                      try clear c130
                      try clear c131
                      try clear c133
                      try clear c134
                      try clear hcz102_0
                      try clear hcz102_1
                      try clear hcz102_2
                      try clear hcz10_0
                      try clear hcz10_1
                      try clear hcz10_2
                      try clear hcz110_0
                      try clear hcz110_1
                      try clear hcz110_2
                      try clear hcz113_0
                      try clear hcz113_1
                      try clear hcz113_2
                      try clear hcz116_0
                      try clear hcz116_1
                      try clear hcz116_2
                      try clear hcz117_0
                      try clear hcz117_1
                      try clear hcz117_2
                      try clear hcz118_0
                      try clear hcz118_1
                      try clear hcz118_2
                      try clear hcz120_0
                      try clear hcz120_1
                      try clear hcz120_2
                      try clear hcz125_0
                      try clear hcz125_1
                      try clear hcz125_2
                      try clear hcz128_0
                      try clear hcz128_1
                      try clear hcz128_2
                      try clear hcz132_0
                      try clear hcz132_1
                      try clear hcz132_2
                      try clear hcz135_0
                      try clear hcz135_1
                      try clear hcz135_2
                      try clear hcz15_0
                      try clear hcz15_1
                      try clear hcz15_2
                      try clear hcz16_0
                      try clear hcz16_1
                      try clear hcz16_2
                      try clear hcz17_0
                      try clear hcz17_1
                      try clear hcz17_2
                      try clear hcz23_0
                      try clear hcz23_1
                      try clear hcz23_2
                      try clear hcz28_0
                      try clear hcz28_1
                      try clear hcz28_2
                      try clear hcz31_0
                      try clear hcz31_1
                      try clear hcz31_2
                      try clear hcz35_0
                      try clear hcz35_1
                      try clear hcz35_2
                      try clear hcz38_0
                      try clear hcz38_1
                      try clear hcz38_2
                      try clear hcz46_0
                      try clear hcz46_1
                      try clear hcz46_2
                      try clear hcz49_0
                      try clear hcz49_1
                      try clear hcz49_2
                      try clear hcz52_0
                      try clear hcz52_1
                      try clear hcz52_2
                      try clear hcz53_0
                      try clear hcz53_1
                      try clear hcz53_2
                      try clear hcz54_0
                      try clear hcz54_1
                      try clear hcz54_2
                      try clear hcz56_0
                      try clear hcz56_1
                      try clear hcz56_2
                      try clear hcz61_0
                      try clear hcz61_1
                      try clear hcz61_2
                      try clear hcz64_0
                      try clear hcz64_1
                      try clear hcz64_2
                      try clear hcz68_0
                      try clear hcz68_1
                      try clear hcz68_2
                      try clear hcz71_0
                      try clear hcz71_1
                      try clear hcz71_2
                      try clear hcz79_0
                      try clear hcz79_1
                      try clear hcz79_2
                      try clear hcz83_0
                      try clear hcz83_1
                      try clear hcz83_2
                      try clear hcz84_0
                      try clear hcz84_1
                      try clear hcz84_2
                      try clear hcz87_0
                      try clear hcz87_1
                      try clear hcz87_2
                      try clear hcz92_0
                      try clear hcz92_1
                      try clear hcz92_2
                      try clear hcz95_0
                      try clear hcz95_1
                      try clear hcz95_2
                      try clear hcz99_0
                      try clear hcz99_1
                      try clear hcz99_2
                      try clear hcz9_0
                      try clear hcz9_1
                      try clear hcz9_2
                      try clear hfz102_0
                      try clear hfz102_1
                      try clear hfz102_2
                      try clear hfz10_0
                      try clear hfz10_1
                      try clear hfz10_2
                      try clear hfz110_0
                      try clear hfz110_1
                      try clear hfz110_2
                      try clear hfz113_0
                      try clear hfz113_1
                      try clear hfz113_2
                      try clear hfz116_0
                      try clear hfz116_1
                      try clear hfz116_2
                      try clear hfz117_0
                      try clear hfz117_1
                      try clear hfz117_2
                      try clear hfz118_0
                      try clear hfz118_1
                      try clear hfz118_2
                      try clear hfz120_0
                      try clear hfz120_1
                      try clear hfz120_2
                      try clear hfz125_0
                      try clear hfz125_1
                      try clear hfz125_2
                      try clear hfz128_0
                      try clear hfz128_1
                      try clear hfz128_2
                      try clear hfz132_0
                      try clear hfz132_1
                      try clear hfz132_2
                      try clear hfz135_0
                      try clear hfz135_1
                      try clear hfz135_2
                      try clear hfz15_0
                      try clear hfz15_1
                      try clear hfz15_2
                      try clear hfz16_0
                      try clear hfz16_1
                      try clear hfz16_2
                      try clear hfz17_0
                      try clear hfz17_1
                      try clear hfz17_2
                      try clear hfz23_0
                      try clear hfz23_1
                      try clear hfz23_2
                      try clear hfz28_0
                      try clear hfz28_1
                      try clear hfz28_2
                      try clear hfz31_0
                      try clear hfz31_1
                      try clear hfz31_2
                      try clear hfz35_0
                      try clear hfz35_1
                      try clear hfz35_2
                      try clear hfz38_0
                      try clear hfz38_1
                      try clear hfz38_2
                      try clear hfz46_0
                      try clear hfz46_1
                      try clear hfz46_2
                      try clear hfz49_0
                      try clear hfz49_1
                      try clear hfz49_2
                      try clear hfz52_0
                      try clear hfz52_1
                      try clear hfz52_2
                      try clear hfz53_0
                      try clear hfz53_1
                      try clear hfz53_2
                      try clear hfz54_0
                      try clear hfz54_1
                      try clear hfz54_2
                      try clear hfz56_0
                      try clear hfz56_1
                      try clear hfz56_2
                      try clear hfz61_0
                      try clear hfz61_1
                      try clear hfz61_2
                      try clear hfz64_0
                      try clear hfz64_1
                      try clear hfz64_2
                      try clear hfz68_0
                      try clear hfz68_1
                      try clear hfz68_2
                      try clear hfz71_0
                      try clear hfz71_1
                      try clear hfz71_2
                      try clear hfz79_0
                      try clear hfz79_1
                      try clear hfz79_2
                      try clear hfz83_0
                      try clear hfz83_1
                      try clear hfz83_2
                      try clear hfz84_0
                      try clear hfz84_1
                      try clear hfz84_2
                      try clear hfz87_0
                      try clear hfz87_1
                      try clear hfz87_2
                      try clear hfz92_0
                      try clear hfz92_1
                      try clear hfz92_2
                      try clear hfz95_0
                      try clear hfz95_1
                      try clear hfz95_2
                      try clear hfz99_0
                      try clear hfz99_1
                      try clear hfz99_2
                      try clear hfz9_0
                      try clear hfz9_1
                      try clear hfz9_2
                      try clear p2
                      obtain ⟨kq, x86_105, rfl, HA, HJ105, BK101, BK102, BK107, BK112, HB⟩ := hcut
                      cases kq with
                      | zero => exact absurd HA.out (by simp [peristylelaw1_LogicMatchesSpec.j3])
                      | succ kj105 =>
                        have H := HA.out
                        clear HA
                        simp only [peristylelaw1_LogicMatchesSpec.j3] at H
                        by_cases c136 : x86_105 = true
                        · subst c136
                          have H1 : (none) = some r := by rw [if_pos rfl] at H; exact H
                          clear H
                          have H := H1
                          clear H1
                          exact absurd H (by simp)
                        · replace c136 := Bool.eq_false_iff.mpr c136
                          subst c136
                          have H1 : ((value_Less.f kj105 a0_0 a0_1 a0_2 a1_0 a1_1 a1_2).bind fun bt137 => ((peristyleref1_Less.f kj105 a0_0 a0_1 a0_2 a1_0 a1_1 a1_2).bind fun bt141 => (if (bt137.1 == bt141.1 && (bt137.2.1 == bt141.2.1 && (bt137.2.2.1.toList == bt141.2.2.1.toList))) = true then (if bt137.2.2.2 = bt141.2.2.2 then ((peristylelaw1_awake.f kj105).bind fun t145 => (some t145)) else (none)) else (none)))) = some r := by rw [if_neg (show ¬ (false = true) by decide)] at H; exact H
                          clear H
                          have H := H1
                          clear H1
                          replace H := Option.bind_eq_some_iff.mp H
                          obtain ⟨⟨t137, t138, t139, t140⟩, A1370, H⟩ := H
                          replace H : ((peristyleref1_Less.f kj105 a0_0 a0_1 a0_2 a1_0 a1_1 a1_2).bind fun bt141 => (if (t137 == bt141.1 && (t138 == bt141.2.1 && (t139.toList == bt141.2.2.1.toList))) = true then (if t140 = bt141.2.2.2 then ((peristylelaw1_awake.f kj105).bind fun t145 => (some t145)) else (none)) else (none))) = some r := H
                          have A137 := Aside0.mk A1370
                          clear A1370
                          replace H := Option.bind_eq_some_iff.mp H
                          obtain ⟨⟨t141, t142, t143, t144⟩, A1380, H⟩ := H
                          replace H : (if (t137 == t141 && (t138 == t142 && (t139.toList == t143.toList))) = true then (if t140 = t144 then ((peristylelaw1_awake.f kj105).bind fun t145 => (some t145)) else (none)) else (none)) = some r := H
                          have A138 := Aside0.mk A1380
                          clear A1380
                          by_cases c139 : (t137 == t141 && (t138 == t142 && (t139.toList == t143.toList))) = true
                          · rw [if_pos c139] at H
                            have c139b0 : (t137 == t141 && (t138 == t142 && (t139.toList == t143.toList))) = true := c139
                            (try (have c139b1 : decide (t137 = t141 && (t138 == t142 && (t139.toList == t143.toList))) = true := by simpa using c139))
                            (try (have c139b2 : (t137 == t141 && (t138 == t142 && (t139.toList == t143.toList))) = true := by simpa using c139))
                            clear c139
                            (try (have c139b9 := c139b0; simp only [Bool.and_eq_true, beq_iff_eq] at c139b9; replace c139b9 := eq_true c139b9))
                            by_cases c140 : t140 = t144
                            · rw [if_pos c140] at H
                              have c140b0 : (t140 == t144) = true := beq_iff_eq.mpr c140
                              have c140b1 : (t140 != t144) = false := bne_eq_false_iff_eq.mpr c140
                              clear c140
                              replace H := Option.bind_eq_some_iff.mp H
                              obtain ⟨t145, A1410, H⟩ := H
                              replace H : (some t145) = some r := H
                              have A141 := Aside0.mk A1410
                              clear A1410
                              obtain rfl := Option.some.inj H
                              have hnb142 := NB101_102.out
                              have hnc142 := NB102_101.out
                              have hnb143 := NB101_107.out
                              have hnc143 := NB107_101.out
                              have hnb144 := NB101_112.out
                              have hnc144 := NB112_101.out
                              have hcz145_0 : wc.cell? ⟨gb101, 0, none⟩ = some (.int .i64 a0_0) := (blk_cell BK101.out 0).trans rfl
                              have hcz145_1 : wc.cell? ⟨gb101, 1, none⟩ = some (.int .i64 a0_1) := (blk_cell BK101.out 1).trans rfl
                              have hcz145_2 : wc.cell? ⟨gb101, 2, none⟩ = some (.string a0_2) := (blk_cell BK101.out 2).trans rfl
                              have hfz145_0 := blk_frozen BK101.out 0
                              have hfz145_1 := blk_frozen BK101.out 1
                              have hfz145_2 := blk_frozen BK101.out 2
                              have hnb146 := NB102_107.out
                              have hnc146 := NB107_102.out
                              have hnb147 := NB102_112.out
                              have hnc147 := NB112_102.out
                              have hcz148_0 : wc.cell? ⟨gb102, 0, none⟩ = some (.int .i64 a1_0) := (blk_cell BK102.out 0).trans rfl
                              have hcz148_1 : wc.cell? ⟨gb102, 1, none⟩ = some (.int .i64 a1_1) := (blk_cell BK102.out 1).trans rfl
                              have hcz148_2 : wc.cell? ⟨gb102, 2, none⟩ = some (.string a1_2) := (blk_cell BK102.out 2).trans rfl
                              have hfz148_0 := blk_frozen BK102.out 0
                              have hfz148_1 := blk_frozen BK102.out 1
                              have hfz148_2 := blk_frozen BK102.out 2
                              go_wp2_with (first | ((with_reducible refine gate_callee (f := 46) rfl ?_); refine goesL_ (some 90) rfl rfl Tryd.func46 (by kernel_rfl) rfl #[.agg #[.int .i64 a0_0, .int .i64 a0_1, .string a0_2], .agg #[.int .i64 a1_0, .int .i64 a1_1, .string a1_2]] rfl (by (try simp only [List.map_toArray, List.map_cons, List.map_nil]); first | done | rfl | (simp only [List.length_drop, List.length_take]; rfl)) ?_; (with_reducible refine (value_Less.calls kj105 a0_0 a0_1 a0_2 a1_0 a1_1 a1_2 t137 t138 t139 t140 _ A137.out).mono ?_); rintro e w149 ⟨rfl, hb⟩; refine ⟨_, rfl, ?_⟩; have n0_ := Aside0.mk (blk_below (g := gb101) (o := .cells #[.int .i64 a0_0, .int .i64 a0_1, .string a0_2] 23 (0, 0)) (by (with_reducible repeat (first | refine blk_drewN ?_ _ | refine blk_drew ?_ | refine blk_alloc ?_ _)); exact BK101.out) hb); have n1_ := Aside0.mk (blk_below (g := gb102) (o := .cells #[.int .i64 a1_0, .int .i64 a1_1, .string a1_2] 23 (0, 0)) (by (with_reducible repeat (first | refine blk_drewN ?_ _ | refine blk_drew ?_ | refine blk_alloc ?_ _)); exact BK102.out) hb); have n2_ := Aside0.mk (blk_below (g := gb107) (o := .cells #[.int .i64 t129, .int .i64 t130, .string t131] 23 (0, 0)) (by (with_reducible repeat (first | refine blk_drewN ?_ _ | refine blk_drew ?_ | refine blk_alloc ?_ _)); exact BK107.out) hb); have n3_ := Aside0.mk (blk_below (g := gb112) (o := .cells #[.int .i64 t133, .int .i64 t134, .string t135] 23 (0, 0)) (by (with_reducible repeat (first | refine blk_drewN ?_ _ | refine blk_drew ?_ | refine blk_alloc ?_ _)); exact BK112.out) hb); have n4_ := Aside0.mk (below_step (by repeat (first | (with_reducible first | exact HB.out | apply below_alloc | apply pw_below_drewN | apply below_drew1 | refine below_set ?_ GE101.out | refine below_set ?_ GE102.out | refine below_set ?_ GE107.out | refine below_set ?_ GE112.out) | exact HB.out)) hb); clear BK101; clear BK102; clear BK107; clear BK112; clear HB; have BK101 := n0_; have BK102 := n1_; have BK107 := n2_; have BK112 := n3_; have HB := n4_; clear n0_ n1_ n2_ n3_ n4_; (try clear hb); (try clear hb2); (try clear hk); (try clear hi); have hnb150 := NB107_112.out; have hnc150 := NB112_107.out; have hcz151_0 : w149.cell? ⟨gb107, 0, none⟩ = some (.int .i64 t129) := (blk_cell BK107.out 0).trans rfl; have hcz151_1 : w149.cell? ⟨gb107, 1, none⟩ = some (.int .i64 t130) := (blk_cell BK107.out 1).trans rfl; have hcz151_2 : w149.cell? ⟨gb107, 2, none⟩ = some (.string t131) := (blk_cell BK107.out 2).trans rfl; have hfz151_0 := blk_frozen BK107.out 0; have hfz151_1 := blk_frozen BK107.out 1; have hfz151_2 := blk_frozen BK107.out 2; have hcz152_0 : w149.cell? ⟨gb101, 0, none⟩ = some (.int .i64 a0_0) := (blk_cell BK101.out 0).trans rfl; have hcz152_1 : w149.cell? ⟨gb101, 1, none⟩ = some (.int .i64 a0_1) := (blk_cell BK101.out 1).trans rfl; have hcz152_2 : w149.cell? ⟨gb101, 2, none⟩ = some (.string a0_2) := (blk_cell BK101.out 2).trans rfl; have hfz152_0 := blk_frozen BK101.out 0; have hfz152_1 := blk_frozen BK101.out 1; have hfz152_2 := blk_frozen BK101.out 2; have hcz153_0 : w149.cell? ⟨gb102, 0, none⟩ = some (.int .i64 a1_0) := (blk_cell BK102.out 0).trans rfl; have hcz153_1 : w149.cell? ⟨gb102, 1, none⟩ = some (.int .i64 a1_1) := (blk_cell BK102.out 1).trans rfl; have hcz153_2 : w149.cell? ⟨gb102, 2, none⟩ = some (.string a1_2) := (blk_cell BK102.out 2).trans rfl; have hfz153_0 := blk_frozen BK102.out 0; have hfz153_1 := blk_frozen BK102.out 1; have hfz153_2 := blk_frozen BK102.out 2) | ((with_reducible refine gate_callee (f := 47) rfl ?_); refine goesL_ (some 96) rfl rfl Tryd.func47 (by kernel_rfl) rfl #[.agg #[.int .i64 a0_0, .int .i64 a0_1, .string a0_2], .agg #[.int .i64 a1_0, .int .i64 a1_1, .string a1_2]] rfl (by (try simp only [List.map_toArray, List.map_cons, List.map_nil]); first | done | rfl | (simp only [List.length_drop, List.length_take]; rfl)) ?_; (with_reducible refine (peristyleref1_Less.calls kj105 a0_0 a0_1 a0_2 a1_0 a1_1 a1_2 t141 t142 t143 t144 _ A138.out).mono ?_); rintro e w154 ⟨rfl, hb⟩; refine ⟨_, rfl, ?_⟩; have n0_ := Aside0.mk (blk_below (g := gb101) (o := .cells #[.int .i64 a0_0, .int .i64 a0_1, .string a0_2] 23 (0, 0)) (by (with_reducible repeat (first | refine blk_drewN ?_ _ | refine blk_drew ?_ | refine blk_alloc ?_ _)); refine blk_far ?_ NB101_107.out _; (with_reducible repeat (first | refine blk_drewN ?_ _ | refine blk_drew ?_ | refine blk_alloc ?_ _)); refine blk_far ?_ NB101_107.out _; (with_reducible repeat (first | refine blk_drewN ?_ _ | refine blk_drew ?_ | refine blk_alloc ?_ _)); refine blk_far ?_ NB101_107.out _; (with_reducible repeat (first | refine blk_drewN ?_ _ | refine blk_drew ?_ | refine blk_alloc ?_ _)); exact BK101.out) hb); have n1_ := Aside0.mk (blk_below (g := gb102) (o := .cells #[.int .i64 a1_0, .int .i64 a1_1, .string a1_2] 23 (0, 0)) (by (with_reducible repeat (first | refine blk_drewN ?_ _ | refine blk_drew ?_ | refine blk_alloc ?_ _)); refine blk_far ?_ NB102_107.out _; (with_reducible repeat (first | refine blk_drewN ?_ _ | refine blk_drew ?_ | refine blk_alloc ?_ _)); refine blk_far ?_ NB102_107.out _; (with_reducible repeat (first | refine blk_drewN ?_ _ | refine blk_drew ?_ | refine blk_alloc ?_ _)); refine blk_far ?_ NB102_107.out _; (with_reducible repeat (first | refine blk_drewN ?_ _ | refine blk_drew ?_ | refine blk_alloc ?_ _)); exact BK102.out) hb); have n2_ := Aside0.mk (blk_below (g := gb107) (o := .cells #[.int .i64 t137, .int .i64 t138, .string t139] 23 (0, 0)) (by (with_reducible repeat (first | refine blk_drewN ?_ _ | refine blk_drew ?_ | refine blk_alloc ?_ _)); refine blk_put (cs := #[.int .i64 t137, .int .i64 t138, .string t131]) ?_ 2 _ rfl; (with_reducible repeat (first | refine blk_drewN ?_ _ | refine blk_drew ?_ | refine blk_alloc ?_ _)); refine blk_put (cs := #[.int .i64 t137, .int .i64 t130, .string t131]) ?_ 1 _ rfl; (with_reducible repeat (first | refine blk_drewN ?_ _ | refine blk_drew ?_ | refine blk_alloc ?_ _)); refine blk_put (cs := #[.int .i64 t129, .int .i64 t130, .string t131]) ?_ 0 _ rfl; (with_reducible repeat (first | refine blk_drewN ?_ _ | refine blk_drew ?_ | refine blk_alloc ?_ _)); exact BK107.out) hb); have n3_ := Aside0.mk (blk_below (g := gb112) (o := .cells #[.int .i64 t133, .int .i64 t134, .string t135] 23 (0, 0)) (by (with_reducible repeat (first | refine blk_drewN ?_ _ | refine blk_drew ?_ | refine blk_alloc ?_ _)); refine blk_far ?_ NB112_107.out _; (with_reducible repeat (first | refine blk_drewN ?_ _ | refine blk_drew ?_ | refine blk_alloc ?_ _)); refine blk_far ?_ NB112_107.out _; (with_reducible repeat (first | refine blk_drewN ?_ _ | refine blk_drew ?_ | refine blk_alloc ?_ _)); refine blk_far ?_ NB112_107.out _; (with_reducible repeat (first | refine blk_drewN ?_ _ | refine blk_drew ?_ | refine blk_alloc ?_ _)); exact BK112.out) hb); have n4_ := Aside0.mk (below_step (by repeat (first | (with_reducible first | exact HB.out | apply below_alloc | apply pw_below_drewN | apply below_drew1 | refine below_set ?_ GE101.out | refine below_set ?_ GE102.out | refine below_set ?_ GE107.out | refine below_set ?_ GE112.out) | exact HB.out)) hb); clear BK101; clear BK102; clear BK107; clear BK112; clear HB; have BK101 := n0_; have BK102 := n1_; have BK107 := n2_; have BK112 := n3_; have HB := n4_; clear n0_ n1_ n2_ n3_ n4_; (try clear hb); (try clear hb2); (try clear hk); (try clear hi); have hcz155_0 : w154.cell? ⟨gb112, 0, none⟩ = some (.int .i64 t133) := (blk_cell BK112.out 0).trans rfl; have hcz155_1 : w154.cell? ⟨gb112, 1, none⟩ = some (.int .i64 t134) := (blk_cell BK112.out 1).trans rfl; have hcz155_2 : w154.cell? ⟨gb112, 2, none⟩ = some (.string t135) := (blk_cell BK112.out 2).trans rfl; have hfz155_0 := blk_frozen BK112.out 0; have hfz155_1 := blk_frozen BK112.out 1; have hfz155_2 := blk_frozen BK112.out 2; have hcz156_0 : w154.cell? ⟨gb107, 0, none⟩ = some (.int .i64 t137) := (blk_cell BK107.out 0).trans rfl; have hcz156_1 : w154.cell? ⟨gb107, 1, none⟩ = some (.int .i64 t138) := (blk_cell BK107.out 1).trans rfl; have hcz156_2 : w154.cell? ⟨gb107, 2, none⟩ = some (.string t139) := (blk_cell BK107.out 2).trans rfl; have hfz156_0 := blk_frozen BK107.out 0; have hfz156_1 := blk_frozen BK107.out 1; have hfz156_2 := blk_frozen BK107.out 2) | (go_at_call 17; (with_reducible refine (peristylelaw1_awake.calls kj105  t145 _ A141.out).mono ?_); rintro e w157 ⟨rfl, hb⟩; have n0_ := Aside0.mk (blk_below (g := gb101) (o := .cells #[.int .i64 a0_0, .int .i64 a0_1, .string a0_2] 23 (0, 0)) (by (with_reducible repeat (first | refine blk_drewN ?_ _ | refine blk_drew ?_ | refine blk_alloc ?_ _)); refine blk_far ?_ NB101_112.out _; (with_reducible repeat (first | refine blk_drewN ?_ _ | refine blk_drew ?_ | refine blk_alloc ?_ _)); refine blk_far ?_ NB101_112.out _; (with_reducible repeat (first | refine blk_drewN ?_ _ | refine blk_drew ?_ | refine blk_alloc ?_ _)); refine blk_far ?_ NB101_112.out _; (with_reducible repeat (first | refine blk_drewN ?_ _ | refine blk_drew ?_ | refine blk_alloc ?_ _)); exact BK101.out) hb); have n1_ := Aside0.mk (blk_below (g := gb102) (o := .cells #[.int .i64 a1_0, .int .i64 a1_1, .string a1_2] 23 (0, 0)) (by (with_reducible repeat (first | refine blk_drewN ?_ _ | refine blk_drew ?_ | refine blk_alloc ?_ _)); refine blk_far ?_ NB102_112.out _; (with_reducible repeat (first | refine blk_drewN ?_ _ | refine blk_drew ?_ | refine blk_alloc ?_ _)); refine blk_far ?_ NB102_112.out _; (with_reducible repeat (first | refine blk_drewN ?_ _ | refine blk_drew ?_ | refine blk_alloc ?_ _)); refine blk_far ?_ NB102_112.out _; (with_reducible repeat (first | refine blk_drewN ?_ _ | refine blk_drew ?_ | refine blk_alloc ?_ _)); exact BK102.out) hb); have n2_ := Aside0.mk (blk_below (g := gb107) (o := .cells #[.int .i64 t137, .int .i64 t138, .string t139] 23 (0, 0)) (by (with_reducible repeat (first | refine blk_drewN ?_ _ | refine blk_drew ?_ | refine blk_alloc ?_ _)); refine blk_far ?_ NB107_112.out _; (with_reducible repeat (first | refine blk_drewN ?_ _ | refine blk_drew ?_ | refine blk_alloc ?_ _)); refine blk_far ?_ NB107_112.out _; (with_reducible repeat (first | refine blk_drewN ?_ _ | refine blk_drew ?_ | refine blk_alloc ?_ _)); refine blk_far ?_ NB107_112.out _; (with_reducible repeat (first | refine blk_drewN ?_ _ | refine blk_drew ?_ | refine blk_alloc ?_ _)); exact BK107.out) hb); have n3_ := Aside0.mk (blk_below (g := gb112) (o := .cells #[.int .i64 t141, .int .i64 t142, .string t143] 23 (0, 0)) (by (with_reducible repeat (first | refine blk_drewN ?_ _ | refine blk_drew ?_ | refine blk_alloc ?_ _)); refine blk_put (cs := #[.int .i64 t141, .int .i64 t142, .string t135]) ?_ 2 _ rfl; (with_reducible repeat (first | refine blk_drewN ?_ _ | refine blk_drew ?_ | refine blk_alloc ?_ _)); refine blk_put (cs := #[.int .i64 t141, .int .i64 t134, .string t135]) ?_ 1 _ rfl; (with_reducible repeat (first | refine blk_drewN ?_ _ | refine blk_drew ?_ | refine blk_alloc ?_ _)); refine blk_put (cs := #[.int .i64 t133, .int .i64 t134, .string t135]) ?_ 0 _ rfl; (with_reducible repeat (first | refine blk_drewN ?_ _ | refine blk_drew ?_ | refine blk_alloc ?_ _)); exact BK112.out) hb); have n4_ := Aside0.mk (below_step (by repeat (first | (with_reducible first | exact HB.out | apply below_alloc | apply pw_below_drewN | apply below_drew1 | refine below_set ?_ GE101.out | refine below_set ?_ GE102.out | refine below_set ?_ GE107.out | refine below_set ?_ GE112.out) | exact HB.out)) hb); clear BK101; clear BK102; clear BK107; clear BK112; clear HB; have BK101 := n0_; have BK102 := n1_; have BK107 := n2_; have BK112 := n3_; have HB := n4_; clear n0_ n1_ n2_ n3_ n4_; (try clear hb); (try clear hb2); (try clear hk); (try clear hi)))
                              go_ret
                              exact ⟨by first | rfl | (simp [errW_none, errW_some] <;> rfl) | (simp [*, errW_none, errW_some] <;> rfl), by repeat (first | (with_reducible first | exact HB.out | apply below_alloc | apply pw_below_drewN | apply below_drew1 | refine below_set ?_ GE101.out | refine below_set ?_ GE102.out | refine below_set ?_ GE107.out | refine below_set ?_ GE112.out) | exact HB.out)⟩
                            · rw [if_neg c140] at H
                              exact absurd H (by simp)
                          · rw [if_neg c139] at H
                            exact absurd H (by simp)

end Go.Proofs.YtokphfhihhdfpaaDoor.Q
