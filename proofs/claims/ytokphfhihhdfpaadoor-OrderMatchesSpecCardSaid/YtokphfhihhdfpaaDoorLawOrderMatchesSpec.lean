/- The law OrderMatchesSpec holds for every input: its row, and the card that ties the package-level variables that the row lists to the program's text. Out of its plain law and the contracts of the functions that it calls. -/
import Derived.Test.YtokphfhihhdfpaaDoorRows
import Derived.Test.YtokphfhihhdfpaaDoorCards
import Derived.Test.YtokphfhihhdfpaaDoorTie
import Derived.Test.YtokphfhihhdfpaaDoorOpen
import Derived.Test.YtokphfhihhdfpaaDoorFacts
import Derived.Test.YtokphfhihhdfpaaDoorPureOrderMatchesSpec
import Derived.WalkKit
import Derived.ProofKit
import Derived.OpenShut
import Derived.ShutString
import Derived.ChangeOld
import Derived.Below
import Derived.SizedLaws
import Derived.LaidMore
import Derived.Lay
import Derived.SevenTiedAt
import Derived.Stop.Joined
namespace Go.Proofs.YtokphfhihhdfpaaDoor.orderMatchesSpec
open Go.ChangeShapes Go.WideShapes Go.ChangeAt Go.RowKit
open Go.ChangeMaps (open_string shut_string)
open Go.Proofs.YtokphfhihhdfpaaDoorW.PrintWords
set_option linter.unusedVariables false
open Facts (own laidOut)
set_option maxRecDepth 100000 in
theorem lifted (os : Os) (started : os.Started) (H : Type) (enc : TypeId × Value → H) :
    ReturnsInHanded {} Tryd.checked os 12 .any (fun w args => (Rows.orderMatchesSpecSpec.pre enc Tryd.prog Tryd.f12 Rows.orderMatchesSpecRow.domain false w args ∧ laidMetH Tryd.prog Rows.orderMatchesSpecRow.laid w) ∧ sizedMet enc Tryd.prog Tryd.f12 (OpenSpec.ofChange Rows.orderMatchesSpecSpec) false w args)
      (Rows.orderMatchesSpecSpec.post enc Tryd.prog Tryd.f12 false true false false) := by
  refine returnsInHanded_of_change_and (C := Tryd.checked) (X := fun w _ => laidMetH Tryd.prog Rows.orderMatchesSpecRow.laid w) (fun _ _ _ hh h => h.of_heap hh) own started (by kernel_rfl) Tryd.func12
    (ChangeSpec.witness_shaped (enc := enc) (C := Tryd.checked) (os := os) (X := fun w _ => laidMetH Tryd.prog Rows.orderMatchesSpecRow.laid w) false (World.laidAll Tryd.prog os Rows.orderMatchesSpecRow.laid) #[.agg #[.int .i64 0, .int .i64 0, .string ByteArray.empty], .agg #[.int .i64 0, .int .i64 0, .string ByteArray.empty], .slice none 0 0, .slice none 0 0, .agg #[.slice none 0 0], .agg #[.slice none 0 0]] 8 (World.laidAll_os _ _ _)
      (World.shaped_of_ZipB (by kernel_rfl) (by kernel_rfl)) (by kernel_rfl) (by kernel_rfl) (by kernel_rfl)
      (by rw [MakeChecks.laidMetH_plain _ _ _ (by kernel_rfl)]; exact laidMet_laidAll _ (by kernel_rfl) (by kernel_rfl))) ?_
  intro W base args ds gs before hval0 hW hcnd hsz0 hL _
  have hsz : (DataW.weightsEach Tryd.prog (Tryd.f12.params.toList ++ Rows.orderMatchesSpecSpec.plain.varTypes Tryd.prog) (ds ++ gs)).all (· ≤ reachBytes) = true := hsz0
  have hval : ∀ (j : Nat) t v, Tryd.f12.params[j]? = some t → args[j]? = some v → Value.okWide Tryd.prog W .any base t v := hval0
  have hW' := hW
  obtain ⟨p, q, hA0, hV, rfl, hfz, hnd⟩ := hW
  have hA : DataW.TrodAll enc Tryd.prog W 0 (fun _ => true) true Tryd.f12.params.toList args.toList ds p := hA0
  rw [Tryd.params12] at hA hval hsz
  obtain ⟨v0, vs0, d0, ds0, p0, q0_, hargs, rfl, rfl, h0, r0⟩ := trodAll_cons hA
  obtain ⟨v1, vs1, d1, ds1, p1, q1_, rfl, rfl, rfl, h1, r1⟩ := trodAll_cons r0
  obtain ⟨v2, vs2, d2, ds2, p2, q2_, rfl, rfl, rfl, h2, r2⟩ := trodAll_cons r1
  obtain ⟨v3, vs3, d3, ds3, p3, q3_, rfl, rfl, rfl, h3, r3⟩ := trodAll_cons r2
  obtain ⟨v4, vs4, d4, ds4, p4, q4_, rfl, rfl, rfl, h4, r4⟩ := trodAll_cons r3
  obtain ⟨v5, vs5, d5, ds5, p5, q5_, rfl, rfl, rfl, h5, r5⟩ := trodAll_cons r4
  obtain ⟨rfl, rfl, rfl⟩ := trodAll_nil r5
  obtain rfl : args = #[v0, v1, v2, v3, v4, v5] := by cases args; simp_all
  obtain ⟨rfl, rfl⟩ := trodVars_none hV
  have q0 := h0
  have lt0 : ∀ x ∈ p0, x.block < W.heap.size := by obtain ⟨m, hm⟩ := q0; exact DataW.trod_lt m _ _ _ hm
  have q1 := h1
  have lt1 : ∀ x ∈ p1, x.block < W.heap.size := by obtain ⟨m, hm⟩ := q1; exact DataW.trod_lt m _ _ _ hm
  have q2 := h2
  have lt2 : ∀ x ∈ p2, x.block < W.heap.size := by obtain ⟨m, hm⟩ := q2; exact DataW.trod_lt m _ _ _ hm
  have q3 := h3
  have lt3 : ∀ x ∈ p3, x.block < W.heap.size := by obtain ⟨m, hm⟩ := q3; exact DataW.trod_lt m _ _ _ hm
  have q4 := h4
  have lt4 : ∀ x ∈ p4, x.block < W.heap.size := by obtain ⟨m, hm⟩ := q4; exact DataW.trod_lt m _ _ _ hm
  have q5 := h5
  have lt5 : ∀ x ∈ p5, x.block < W.heap.size := by obtain ⟨m, hm⟩ := q5; exact DataW.trod_lt m _ _ _ hm
  obtain ⟨a0, rfl, w0⟩ := Opn.arg_Value (hval 0 23 v0 rfl rfl) h0
  obtain ⟨a1, rfl, w1⟩ := Opn.arg_Value (hval 1 23 v1 rfl rfl) h1
  obtain ⟨l2, A2, c2, rfl, hc2, hC2, w2⟩ := Opn.arg_Columns (hval 2 35 v2 rfl rfl) h2
  obtain ⟨l3, A3, c3, rfl, hc3, hC3, w3⟩ := Opn.arg_Keys (hval 3 47 v3 rfl rfl) h3
  obtain ⟨l4, A4, c4, rfl, hc4, hC4, w4⟩ := Opn.arg_Row (hval 4 50 v4 rfl rfl) h4
  obtain ⟨l5, A5, c5, rfl, hc5, hC5, w5⟩ := Opn.arg_Row (hval 5 50 v5 rfl rfl) h5
  clear hA0 hval0 hsz0 hsz
  obtain ⟨k, hk⟩ := Ev.rounds (Go.Proofs.YtokphfhihhdfpaaDoor.Pure.OrderMatchesSpec a0 a1 l2 l3 l4 l5 w0 w1 w2 w3 w4 w5)
  refine (Q.peristylelaw1_OrderMatchesSpec.calls k a0.f0 a0.f1 a0.f2 a1.f0 a1.f1 a1.f2 A2 c2 l2 A3 c3 l3 A4 c4 l4 A5 c5 l5 true W hC2 hc2 hC3 hc3 hC4 hc4 hC5 hc5 hk).mono fun e W' ⟨he, bel⟩ => ?_
  subst he
  exact ⟨_, rfl, _, _, _, [], _, [], hW', trodAll_mk1 (shut_bool Tryd.underlying4 _), (trodAll_cons_mk (Below.trod laidOut (by kernel_rfl) (of_decide_eq_true (by kernel_rfl)) q0 bel lt0) (trodAll_cons_mk (Below.trod laidOut (by kernel_rfl) (of_decide_eq_true (by kernel_rfl)) q1 bel lt1) (trodAll_cons_mk (Below.trod laidOut (by kernel_rfl) (of_decide_eq_true (by kernel_rfl)) q2 bel lt2) (trodAll_cons_mk (Below.trod laidOut (by kernel_rfl) (of_decide_eq_true (by kernel_rfl)) q3 bel lt3) (trodAll_cons_mk (Below.trod laidOut (by kernel_rfl) (of_decide_eq_true (by kernel_rfl)) q4 bel lt4) (trodAll_cons_mk (Below.trod laidOut (by kernel_rfl) (of_decide_eq_true (by kernel_rfl)) q5 bel lt5) trodAll_mk0)))))), rfl, bel.frame _, fun h => by cases h⟩
set_option maxHeartbeats 8000000 in
theorem closed : joinedFacts Tryd.pinned.checked.prog 12 Tryd.f12 Rows.orderMatchesSpecSpec Rows.orderMatchesSpecRow = true := by
  unfold joinedFacts
  with_reducible refine Facts.and_intro (Facts.and_intro (Facts.and_intro (Facts.and_intro (Facts.and_intro (Facts.and_intro (Facts.and_intro (Facts.and_intro (Facts.and_intro (Facts.and_intro (Facts.and_intro (Facts.and_intro (Facts.and_intro (Facts.and_intro (Facts.and_intro (Facts.and_intro (Facts.and_intro (Facts.and_intro (Facts.and_intro (Facts.and_intro (Facts.and_intro (Facts.and_intro (Facts.and_intro (Facts.and_intro (Facts.and_intro (Facts.and_intro (Facts.and_intro (Facts.and_intro (Facts.and_intro (Facts.and_intro (Facts.and_intro ?_ ?_) ?_) ?_) ?_) ?_) ?_) ?_) ?_) ?_) ?_) ?_) ?_) ?_) ?_) ?_) ?_) ?_) ?_) ?_) ?_) ?_) ?_) ?_) ?_) ?_) ?_) ?_) ?_) ?_) ?_) ?_
  · as_aux_lemma => kernel_rfl
  · exact Facts.laidOut
  · exact Facts.mapsRowed_
  · as_aux_lemma => kernel_rfl
  · as_aux_lemma => kernel_rfl
  · as_aux_lemma => kernel_rfl
  · exact Facts.stops_
  · as_aux_lemma => kernel_rfl
  · exact Facts.stopKnobs_
  · as_aux_lemma => kernel_rfl
  · as_aux_lemma => kernel_rfl
  · as_aux_lemma => kernel_rfl
  · as_aux_lemma => kernel_rfl
  · as_aux_lemma => kernel_rfl
  · as_aux_lemma => kernel_rfl
  · as_aux_lemma => kernel_rfl
  · as_aux_lemma => kernel_rfl
  · as_aux_lemma => kernel_rfl
  · as_aux_lemma => kernel_rfl
  · as_aux_lemma => kernel_rfl
  · as_aux_lemma => kernel_rfl
  · as_aux_lemma => kernel_rfl
  · exact Facts.plainKeys_
  · as_aux_lemma => kernel_rfl
  · exact Facts.stopsHeard_
  · exact Facts.mayEnter_
  · exact Facts.lifted_
  · exact Facts.make_
  · as_aux_lemma => kernel_rfl
  · as_aux_lemma => kernel_rfl
  · as_aux_lemma => kernel_rfl
  · as_aux_lemma => kernel_rfl
theorem said : Rows.OrderMatchesSpecSaid :=
  OpenClaim.holds_of_wide 12 Tryd.f12 rfl rfl rfl rfl rfl rfl rfl ⟨rfl, rfl, rfl, rfl, rfl⟩ rfl rfl rfl rfl rfl (by kernel_rfl) Tryd.func12 closed
    (of_decide_eq_true (by kernel_rfl)) (by unfold Func.isWrapper; first | (rw [if_pos (by decide +kernel)]; kernel_rfl) | (rw [if_neg (by decide +kernel)]; exact ⟨rfl, rfl⟩))
    (fun os started H enc _ => lifted os started H enc)
/-- No parameter wants a stand-in; the program's own looks are as the card says. -/
theorem plain (f : FuncId) (fn : Func) (hf : Tryd.pinned.checked.prog.funcNamed "peristyle/peristylelaw1.OrderMatchesSpec" = some f) (hfn : Tryd.pinned.checked.prog.funcs[f]? = some fn) :
    true = Tryd.pinned.checked.prog.looks [] ∧ ∀ (j : Nat) t, fn.params[j]? = some t → Tryd.pinned.checked.prog.wantsStandIn t = false := by
  obtain rfl : f = 12 := Option.some.inj ((show Tryd.prog.funcNamed "peristyle/peristylelaw1.OrderMatchesSpec" = some 12 by kernel_rfl).symm.trans hf) |>.symm
  obtain rfl : fn = Tryd.f12 := (Option.some.inj (Tryd.func12.symm.trans hfn)).symm
  refine ⟨by kernel_rfl, fun j t ht => ?_⟩
  rw [Tryd.params12] at ht
  have hm : t ∈ [23, 23, 35, 47, 50, 50] := by simpa using Array.mem_of_getElem? ht
  have hall : ([23, 23, 35, 47, 50, 50].all fun u => !Tryd.prog.wantsStandIn u) = true := by kernel_rfl
  exact (show Tryd.prog.wantsStandIn t = false by simpa using List.all_eq_true.1 hall t hm)
theorem card : Rows.OrderMatchesSpecCardSaid :=
  Claim7.holds_tied_plain_at .later [] _ _ _ _ said (fun _ h => by cases h) (by kernel_rfl) (fun _ h => by cases h) orderMatchesSpec_row_tie rfl ⟨rfl, rfl⟩ (by kernel_rfl) rfl plain (by kernel_rfl)
end Go.Proofs.YtokphfhihhdfpaaDoor.orderMatchesSpec
namespace Go.Proofs.YtokphfhihhdfpaaDoor
/-- The card, under a short name, for the claim. -/
theorem orderMatchesSpec_holds : Rows.OrderMatchesSpecCardSaid := orderMatchesSpec.card
#print axioms orderMatchesSpec_holds
end Go.Proofs.YtokphfhihhdfpaaDoor
