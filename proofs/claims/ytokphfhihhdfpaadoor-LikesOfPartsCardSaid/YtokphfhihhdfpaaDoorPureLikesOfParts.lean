/- The plain law of LikesOfParts. -/
import Derived.Test.YtokphfhihhdfpaaDoorPureLk
import Derived.Test.YtokphfhihhdfpaaDoorQxperistylelaw1LikesOfParts
namespace Go.Proofs.YtokphfhihhdfpaaDoor.Pure
open Go.RowKit Go.Proofs.YtokphfhihhdfpaaDoor.Q Go.Proofs.YtokphfhihhdfpaaDoor.Ext Go.Proofs.YtokphfhihhdfpaaDoorW.PrintWords Go.Proofs.YtokphfhihhdfpaaDoorW.PrintLast Go.Proofs.YtokphfhihhdfpaaDoorW.PrintMore
set_option linter.unusedVariables false
set_option linter.unusedSimpArgs false

abbrev txt (s : ByteArray) : Val := ⟨3, 0, s⟩
theorem txt_right {s : ByteArray} (hs : s.size ≤ 200) (h : ∀ x ∈ bs s, 32 ≤ x ∧ x ≤ 126) : cvV (txt s) = 0 := by
  unfold cvV cv
  rw [if_neg (show ¬ (3 : Int) = 0 by decide), if_neg (show ¬ (3 : Int) = 1 by decide), if_neg (show ¬ (3 : Int) = 2 by decide), if_pos rfl, if_pos rfl, if_neg (show ¬ 200 < s.size by omega)]
  refine scan_none _ _ fun j _ hj => ?_
  unfold okB
  rw [if_pos]
  have hj' : j < s.size := by have : (txt s).f2.size = s.size := rfl; omega
  have : bt s j ∈ bs s := by
    rw [← bs_at, List.getD_eq_getElem?_getD, List.getElem?_eq_getElem (by rw [bs_len]; exact hj')]
    exact List.getElem_mem _
  exact h _ this
theorem txt_of_right {s : ByteArray} (h : cvV (txt s) = 0) : s.size ≤ 200 ∧ ∀ x ∈ bs s, 32 ≤ x ∧ x ≤ 126 := by
  have hr := right3 h rfl
  refine ⟨hr.2.1, fun x hx => ?_⟩
  obtain ⟨i, hi, rfl⟩ := List.mem_iff_getElem.1 hx
  have hi' : i < s.size := by rw [bs_len] at hi; exact hi
  have e : (bs s)[i] = bt s i := by rw [← bs_at, List.getD_eq_getElem?_getD, List.getElem?_eq_getElem hi]; rfl
  rw [e]
  exact hr.2.2 i hi'
def fitB (s p : ByteArray) : Bool := if (likeS (txt s) (txt p)).2.2.2 = 0 then ((likeS (txt s) (txt p)).1 == 1 && ((likeS (txt s) (txt p)).2.1 == 1 && ((likeS (txt s) (txt p)).2.2.1.toList == ee.toList))) else false
theorem FitsIn_ev (s p : ByteArray) (hs : s.size ≤ 140737488351232) (hp : p.size ≤ 140737488351232) : Ev (fun k => peristylelaw1_fitsIn.f k s p) (fitB s p) := by
  unfold peristylelaw1_fitsIn.f
  refine Ev.bind (Like_ev (txt s) (txt p) (by show s.size ≤ _; omega) (by show p.size ≤ _; omega)) ?_
  have eT : peristyleref1_Truth.f true = some (1, 1, ee) := rfl
  unfold fitB
  by_cases h : (likeS (txt s) (txt p)).2.2.2 = 0
  · simp only [if_pos h, eT, Option.bind_some]; exact Ev.now _
  · simp only [if_neg h]; exact Ev.now _
theorem fitB_spec {s p : ByteArray} (h : fitB s p = true) : cvV (txt s) = 0 ∧ cvV (txt p) = 0 ∧ ∃ x, sg false (bs p) = some x ∧ mt x (bs s) := by
  unfold fitB at h
  have e : likeS (txt s) (txt p) = (if ofS 3 (txt s) (txt p) = 0 then (match sg false (bs p) with
    | none => bad 9
    | some x => tv (likeB x (bs s))) else bad (ofS 3 (txt s) (txt p))) := by
    unfold likeS
    rw [if_neg (show ¬ ((3 : Int) = 0 ∨ (3 : Int) = 0) by decide)]
    rfl
  rw [e] at h
  by_cases h0 : ofS 3 (txt s) (txt p) = 0
  · obtain ⟨rs, rp, _, _⟩ := ofS_zero.1 h0
    refine ⟨rs, rp, ?_⟩
    rw [if_pos h0] at h
    cases hg : sg false (bs p) with
    | none => rw [hg] at h; simp [bad] at h
    | some x =>
      rw [hg] at h
      refine ⟨x, rfl, (likeB_mt x (bs s)).1 ?_⟩
      cases hb : likeB x (bs s) with
      | true => rfl
      | false => simp [tv, hb] at h
  · rw [if_neg h0] at h
    have hb : (bad (ofS 3 (txt s) (txt p))).2.2.2 ≠ 0 := h0
    rw [if_neg hb] at h
    exact absurd h Bool.false_ne_true
abbrev pc : ByteArray := ⟨#[37]⟩
theorem z_append (s t : ByteArray) : (s ++ t).size = s.size + t.size := by
  have := congrArg List.length (bs_append s t)
  rw [List.length_append, bs_len, bs_len, bs_len] at this
  exact this
theorem z_pc (p : ByteArray) : (p ++ pc).size = p.size + 1 := z_append p pc
theorem z_pat (p q : ByteArray) : ((p ++ pc) ++ q).size = p.size + 1 + q.size := by rw [z_append, z_pc]
theorem le_max {n : Nat} (h : n ≤ 200) : n ≤ 9223372036854775807 := Nat.le_trans h (by decide)
theorem LikesOfParts (a b p q : ByteArray) (ha : a.size ≤ 140737488351232) (hb : b.size ≤ 140737488351232) (hp : p.size ≤ 140737488351232) (hq : q.size ≤ 140737488351232) :
    Ev (fun k => peristylelaw1_LikesOfParts.f k a b p q) true := by
  unfold peristylelaw1_LikesOfParts.f
  refine Ev.bind (FitsIn_ev a p ha hp) (Ev.bind (FitsIn_ev b q hb hq) ?_)
  have yes : ∀ v : Bool, v = true → Ev (fun k => peristylelaw1_LikesOfParts.j0 k a b p q v) true := by
    intro v hv; subst hv
    exact Ev.step (f := fun k => (peristylelaw1_awake.f k).bind fun t => some t) (fun k => by simp only [peristylelaw1_LikesOfParts.j0, if_true]) (Ev.bind Ev_awake (Ev.now _))
  cases h1 : fitB a p with
  | false => simp only [Bool.false_eq_true, if_false]; exact yes _ rfl
  | true =>
    cases h2 : fitB b q with
    | false => simp only [Bool.false_eq_true, if_false, if_true]; exact yes _ rfl
    | true =>
      obtain ⟨ra, rp, x, hx, mx⟩ := fitB_spec h1
      obtain ⟨rb, rq, y, hy, my⟩ := fitB_spec h2
      obtain ⟨sa, ca⟩ := txt_of_right ra
      obtain ⟨sb, cb'⟩ := txt_of_right rb
      obtain ⟨sp, cp⟩ := txt_of_right rp
      obtain ⟨sq, cq⟩ := txt_of_right rq
      have w1 : wrap64 ((a.size : Int) + (b.size : Int)) = (a.size : Int) + (b.size : Int) := w64 (by omega) (by omega)
      have w2 : wrap64 ((p.size : Int) + (q.size : Int)) = (p.size : Int) + (q.size : Int) := w64 (by omega) (by omega)
      have w3 : wrap64 ((p.size : Int) + (q.size : Int) + 1) = (p.size : Int) + (q.size : Int) + 1 := w64 (by omega) (by omega)
      simp only [if_true, w1, w2, w3]
      by_cases l1 : (a.size : Int) + (b.size : Int) > 200
      · simp only [if_pos l1]; exact yes _ rfl
      · simp only [if_neg l1]
        by_cases l2 : (p.size : Int) + (q.size : Int) + 1 > 200
        · exact yes _ (by simpa using l2)
        · have e : decide ((p.size : Int) + (q.size : Int) + 1 > 200) = false := by simpa using l2
          rw [e]
          have bP : bs pc = [37] := rfl
          have nA : a.size + b.size ≤ 200 := by clear ra rp rb rq; omega
          have nP : p.size + 1 + q.size ≤ 200 := by clear ra rp rb rq; omega
          have nP1 : p.size + 1 ≤ 200 := Nat.le_trans (Nat.le_add_right _ _) nP
          have fA : (a ++ b).size ≤ 200 := by rw [z_append]; exact nA
          have fP : ((p ++ pc) ++ q).size ≤ 200 := by rw [z_pat]; exact nP
          have RA : cvV (txt (a ++ b)) = 0 := txt_right fA (by
            rw [bs_append]
            intro z hz
            rcases List.mem_append.1 hz with h | h
            · exact ca z h
            · exact cb' z h)
          have RP : cvV (txt ((p ++ pc) ++ q)) = 0 := txt_right fP (by
            rw [bs_append, bs_append, bP]
            intro z hz
            rcases List.mem_append.1 hz with h | h
            · rcases List.mem_append.1 h with h | h
              · exact cp z h
              · obtain rfl := List.mem_singleton.1 h; exact ⟨by decide, by decide⟩
            · exact cq z h)
          have hof : ofS 3 (txt (a ++ b)) (txt ((p ++ pc) ++ q)) = 0 := ofS_zero.2 ⟨RA, RP, .inr rfl, .inr rfl⟩
          have hsg : sg false (bs ((p ++ pc) ++ q)) = some (x ++ sgn1 37 :: y) := by
            rw [bs_append, bs_append, bP, List.append_assoc, sg_append false _ _ x hx]
            have : sg false ([37] ++ bs q) = some (sgn1 37 :: y) := by
              show (if (37 : Int) = 92 then sg true (bs q) else (sg false (bs q)).map (sgn1 37 :: ·)) = _
              rw [if_neg (by decide), hy]; rfl
            rw [this]; rfl
          have hm : likeB (x ++ sgn1 37 :: y) (bs (a ++ b)) = true := by
            rw [likeB_mt, bs_append, mt_append]
            refine ⟨bs a, bs b, rfl, mx, [], bs b, rfl, ?_, my⟩
            unfold fit1 sgn1
            rw [if_pos rfl, if_pos rfl]
            trivial
          have hL : likeS (txt (a ++ b)) (txt ((p ++ pc) ++ q)) = (1, 1, ee, 0) := by
            unfold likeS
            rw [if_pos hof, if_neg (show ¬ ((3 : Int) = 0 ∨ (3 : Int) = 0) by decide)]
            show (match sg false (bs ((p ++ pc) ++ q)) with
              | none => bad 9
              | some x => tv (likeB x (bs (a ++ b)))) = _
            rw [hsg]
            show tv (likeB (x ++ sgn1 37 :: y) (bs (a ++ b))) = _
            rw [hm]; rfl
          have key := Like_ev (txt (a ++ b)) (txt ((p ++ pc) ++ q)) (le_max fA) (le_max fP)
          rw [hL] at key
          refine Ev.step (f := fun k => (value_Like.f k 3 0 (a ++ b) 3 0 ((p ++ pc) ++ q)).bind fun bt104 => (if bt104.2.2.2 = 0 then ((peristyleref1_Truth.f true).bind fun bt109 => (if (bt104.1 == bt109.1 && (bt104.2.1 == bt109.2.1 && (bt104.2.2.1.toList == bt109.2.2.toList))) = true then ((peristylelaw1_awake.f k).bind fun t112 => (some t112)) else (none))) else (none))) (fun k => ?_) (Ev.bind key ?_)
          · simp only [peristylelaw1_LikesOfParts.j0, Bool.false_eq_true, if_false]
            rw [if_pos (le_max nA), if_pos (le_max nP1), if_pos (show (p ++ pc).size + q.size ≤ 9223372036854775807 by rw [z_pc]; exact le_max nP)]
          · have eT : peristyleref1_Truth.f true = some (1, 1, ee) := rfl
            simp only [eT, Option.bind_some, if_true, beq_self_eq_true, Bool.and_self]
            exact Ev.bind Ev_awake (Ev.now _)
end Go.Proofs.YtokphfhihhdfpaaDoor.Pure
