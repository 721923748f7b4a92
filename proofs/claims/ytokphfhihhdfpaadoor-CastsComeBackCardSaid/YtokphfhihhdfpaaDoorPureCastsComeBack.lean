/- The plain law of CastsComeBack. -/
import Derived.Test.YtokphfhihhdfpaaDoorPureCb
import Derived.Test.YtokphfhihhdfpaaDoorQxperistylelaw1CastsComeBack
namespace Go.Proofs.YtokphfhihhdfpaaDoor.Pure
open Go.RowKit Go.Proofs.YtokphfhihhdfpaaDoor.Q Go.Proofs.YtokphfhihhdfpaaDoor.Ext Go.Proofs.YtokphfhihhdfpaaDoorW.PrintWords Go.Proofs.YtokphfhihhdfpaaDoorW.PrintLast Go.Proofs.YtokphfhihhdfpaaDoorW.PrintMore
set_option linter.unusedVariables false
set_option linter.unusedSimpArgs false

theorem text_ok {s : ByteArray} (hs : s.size ≤ 200) (h : ∀ b ∈ ul s, 32 ≤ b.toNat ∧ b.toNat ≤ 126) : cvV ⟨3, 0, s⟩ = 0 := by
  unfold cvV cv
  rw [if_neg (show ¬ (3 : Int) = 0 by decide), if_neg (show ¬ (3 : Int) = 1 by decide), if_neg (show ¬ (3 : Int) = 2 by decide), if_pos rfl, if_pos rfl, if_neg (show ¬ 200 < s.size by omega)]
  refine scan_none _ _ fun j _ hj => ?_
  have hj' : j < (ul s).length := by rw [ul_len]; have e : (⟨3, 0, s⟩ : Val).f2.size = s.size := rfl; omega
  unfold okB
  have := h _ (List.getElem_mem hj')
  rw [if_pos]
  rw [bt_ul s j hj']
  omega
/-- The cast back of what a cast to a text has given. -/
theorem cast_back {v : Val} (hr : cvV v = 0) (h0 : v.f0 ≠ 0) : ∃ s : ByteArray, castS v 3 = (3, 0, s, 0) ∧ s.size ≤ 200 ∧ castS ⟨3, 0, s⟩ v.f0 = (v.f0, v.f1, v.f2, 0) := by
  have e3 : castS v 3 = if v.f0 = 0 ∨ v.f0 = 3 then (v.f0, v.f1, v.f2, 0) else if v.f0 = 3 then fromT v.f2 3 else if (3 : Int) = 2 then (2, v.f1, ee, 0) else if (3 : Int) = 1 then tv (v.f1 != 0) else if v.f0 = 1 then (3, 0, (if v.f1 = 1 then bT else bF), 0) else (3, 0, itoaB v.f1, 0) := by
    unfold castS; rw [if_pos hr, if_pos (by decide)]
  rcases kind_of hr with h | h1 | h2 | h3
  · exact absurd h h0
  · rcases right1 hr h1 with rfl | rfl
    · refine ⟨bF, by rw [e3]; rfl, by decide, ?_⟩
      have ht : cvV ⟨3, 0, bF⟩ = 0 := text_ok (by decide) (by decide)
      unfold castS
      rw [if_pos ht, if_pos (by decide), if_neg (by decide), if_pos rfl]
      unfold fromT
      rw [if_pos rfl, if_pos (Lib.toList_data bF)]
      rfl
    · refine ⟨bT, by rw [e3]; rfl, by decide, ?_⟩
      have ht : cvV ⟨3, 0, bT⟩ = 0 := text_ok (by decide) (by decide)
      have hF : ¬ bT.toList = lF := by rw [Lib.toList_data]; decide
      unfold castS
      rw [if_pos ht, if_pos (by decide), if_neg (by decide), if_pos rfl]
      unfold fromT
      rw [if_pos rfl, if_neg hF, if_pos (Lib.toList_data bT)]
      rfl
  · obtain ⟨ev, hx⟩ := right2 hr h2
    obtain ⟨hd, hz, hb⟩ := dig_itoa hx
    refine ⟨itoaB v.f1, ?_, by omega, ?_⟩
    · rw [e3, if_neg (by omega), if_neg (by omega), if_neg (by decide), if_neg (by decide), if_neg (by omega)]
    · have ht : cvV ⟨3, 0, itoaB v.f1⟩ = 0 := text_ok (by omega) hb
      have ev2 : v.f2 = ee := by rw [ev]
      rw [h2, ev2]
      unfold castS
      rw [if_pos ht, if_pos (by decide), if_neg (show ¬ ((3 : Int) = 0 ∨ (3 : Int) = 2) by decide), if_pos rfl]
      unfold fromT
      rw [if_neg (by decide)]
      show (if (digS (itoaB v.f1)).2 = true then num (digS (itoaB v.f1)).1 else bad 9) = _
      rw [hd, if_pos rfl]
      exact num_at hx
  · obtain ⟨ev, hz, hb⟩ := right3 hr h3
    have e1 : v.f1 = 0 := by rw [ev]
    refine ⟨v.f2, ?_, hz, ?_⟩
    · rw [e3, if_pos (.inr h3), h3, e1]
    · unfold castS
      rw [if_pos (by rw [← ev]; exact hr), if_pos (by omega), if_pos (.inr h3.symm), h3, e1]
theorem CastsComeBack (v : Val) (hv : Opn.PValue v) : Ev (fun k => peristylelaw1_CastsComeBack.f k v.f0 v.f1 v.f2) true := by
  have fv : fits v := hv.2.2
  unfold peristylelaw1_CastsComeBack.f
  refine Ev.bind (Cast_ev v 3 fv) ?_
  by_cases hr : cvV v = 0
  · by_cases h0 : v.f0 = 0
    · have e : castS v 3 = (v.f0, v.f1, v.f2, 0) := by
        unfold castS; rw [if_pos hr, if_pos (by decide), if_pos (.inl h0)]
      have e0 : (v.f0 == 0) = true := by simpa using h0
      rw [e]
      simp only [if_true, e0]
      exact Ev.step (f := fun k => (peristylelaw1_awake.f k).bind fun t => some t) (fun k => by simp only [peristylelaw1_CastsComeBack.j0, if_true]) (Ev.bind Ev_awake (Ev.now _))
    · obtain ⟨s, e, hs, eb⟩ := cast_back hr h0
      have e0 : (v.f0 == 0) = false := by simpa using h0
      rw [e]
      simp only [if_true, e0]
      refine Ev.step (fun k => by simp only [peristylelaw1_CastsComeBack.j0, Bool.false_eq_true, if_false]; rfl) (Ev.bind (Cast_ev ⟨3, 0, s⟩ v.f0 (Nat.le_trans hs (by decide))) ?_)
      rw [eb]
      simp only [if_true, beq_self_eq_true, Bool.and_self]
      exact Ev.bind Ev_awake (Ev.now _)
  · have e : castS v 3 = bad (cvV v) := by unfold castS; rw [if_neg hr]
    have e2 : (bad (cvV v)).2.2.2 = cvV v := rfl
    rw [e]
    simp only [e2, if_neg hr]
    refine Ev.step (f := fun k => (peristylelaw1_awake.f k).bind fun t => some t) (fun k => ?_) (Ev.bind Ev_awake (Ev.now _))
    simp only [peristylelaw1_CastsComeBack.j0, if_true, if_neg hr]
    rw [if_pos]
    unfold bad
    simp [ee_tl]
end Go.Proofs.YtokphfhihhdfpaaDoor.Pure
