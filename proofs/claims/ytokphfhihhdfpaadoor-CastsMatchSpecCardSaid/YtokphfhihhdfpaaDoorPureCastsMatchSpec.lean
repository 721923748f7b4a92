/- The plain law of CastsMatchSpec: Cast of the reference, and the law. -/
import Derived.Test.YtokphfhihhdfpaaDoorPureRl
import Derived.Test.YtokphfhihhdfpaaDoorPureCb
import Derived.Test.YtokphfhihhdfpaaDoorQxRefCasts
import Derived.Test.YtokphfhihhdfpaaDoorQxperistylelaw1CastsMatchSpec
namespace Go.Proofs.YtokphfhihhdfpaaDoor.Pure
open Go.RowKit Go.Proofs.YtokphfhihhdfpaaDoor.Q Go.Proofs.YtokphfhihhdfpaaDoor.Ext Go.Proofs.YtokphfhihhdfpaaDoorW.PrintWords Go.Proofs.YtokphfhihhdfpaaDoorW.PrintLast Go.Proofs.YtokphfhihhdfpaaDoorW.PrintMore
set_option linter.unusedVariables false
set_option linter.unusedSimpArgs false

theorem tbool (x : Bool) : peristyleref1_Truth.f x = some (1, (if x then 1 else 0), ee) := by unfold peristyleref1_Truth.f; cases x <;> rfl
theorem number_f (x : Int) : peristyleref1_number.f x = some (num x) := by
  unfold peristyleref1_number.f
  rw [within_f]
  simp only [Option.bind_some, decide_eq_true_eq]
  unfold num
  split <;> rfl
theorem num4 (x : Int) : ((num x).1, (num x).2.1, (num x).2.2.1, (num x).2.2.2) = num x := rfl
/-- Whether the reference takes a text for a number. -/
def isI (s : ByteArray) : Bool := (digS s).2
theorem IsInt_l (r : ByteArray) (hs : r.size ≤ 9223372036854775807) : Ev (fun k => peristyleref1_isInt.l0 k r 0) (if ∃ j, j < r.size ∧ badJ r j then false else true) := by
  rw [← scan_if]
  refine scan_ev2 (told := fun j => if badJ r j then some false else none) (fun k i => peristyleref1_isInt.l0 k r i) r.size ?_ ?_ (fun hno => ?_)
  · intro i hi h q hq
    have hb : 48 ≤ bt r i ∧ bt r i ≤ 57 := by
      have : ¬ badJ r i := fun hj => by simp only [if_pos hj] at h; cases h
      unfold badJ at this; omega
    refine Ev.step (fun k => ?_) hq
    simp only [peristyleref1_isInt.l0]
    rw [if_pos (by omega), if_pos (by omega), if_neg (by omega), if_neg (by omega), w64s hi hs]
  · intro i hi q h
    have hb : badJ r i ∧ q = false := by
      by_cases hj : badJ r i
      · simp only [if_pos hj] at h; exact ⟨hj, (Option.some.inj h).symm⟩
      · simp only [if_neg hj] at h; cases h
    obtain ⟨hj, rfl⟩ := hb
    unfold badJ at hj
    refine Ev.step (f := fun _ => some false) (fun k => ?_) (Ev.now _)
    simp only [peristyleref1_isInt.l0]
    rw [if_pos (by omega), if_pos (by omega)]
    by_cases h1 : bt r i < 48
    · rw [if_pos h1]
    · rw [if_neg h1, if_pos (by omega)]
  · refine Ev.step (f := fun _ => some true) (fun k => ?_) (Ev.now _)
    simp only [peristyleref1_isInt.l0]
    rw [if_neg (by omega)]
/-- What the reference asks of what stands behind the sign. -/
def isR (r : ByteArray) : Bool := if r.toList = [] then false else if bt r 0 = 48 then false else if ∃ j, j < r.size ∧ badJ r j then false else true
theorem IsInt_j1 (r : ByteArray) (hs : r.size ≤ 9223372036854775807) : Ev (fun k => peristyleref1_isInt.j1 k r) (isR r) := by
  have no : ∀ v : Bool, v = true → Ev (fun k => peristyleref1_isInt.j2 k r v) false := by
    intro v hv; subst hv
    exact Ev.step (f := fun _ => some false) (fun k => by simp only [peristyleref1_isInt.j2, if_true]) (Ev.now _)
  unfold isR
  by_cases h0 : r.toList = []
  · rw [if_pos h0]
    exact Ev.step (f := fun k => peristyleref1_isInt.j2 k r true) (fun k => by simp only [peristyleref1_isInt.j1, if_pos h0]) (no true rfl)
  · rw [if_neg h0]
    have hp : 0 < r.size := by
      rw [← ul_len]; cases e : ul r with
      | nil => exact absurd (ul_nil.2 e) h0
      | cons _ _ => simp
    refine Ev.step (f := fun k => peristyleref1_isInt.j2 k r (bt r 0 == 48)) (fun k => by simp only [peristyleref1_isInt.j1, if_neg h0, if_pos (show (0 : Int) < (r.size : Int) by omega)]) ?_
    by_cases h1 : bt r 0 = 48
    · rw [if_pos h1]; exact no _ (by simpa using h1)
    · have e : (bt r 0 == 48) = false := by simpa using h1
      rw [if_neg h1, e]
      exact Ev.step (f := fun k => peristyleref1_isInt.l0 k r 0) (fun k => by simp only [peristyleref1_isInt.j2, Bool.false_eq_true, if_false]) (IsInt_l r hs)
theorem digR_2 (r : ByteArray) (m : Bool) (h : ¬ (bt r 0 = 48 ∧ r.size = 1 ∧ m = false)) : (digR r m).2 = isR r := by
  unfold digR isR
  by_cases h0 : r.toList = []
  · rw [if_pos h0, if_pos h0]
  · rw [if_neg h0, if_neg h0]
    have hp : 0 < r.size := by
      rw [← ul_len]; cases e : ul r with
      | nil => exact absurd (ul_nil.2 e) h0
      | cons _ _ => simp
    by_cases h1 : bt r 0 = 48
    · rw [if_pos h1, if_pos ⟨h1, by
        cases m with
        | true => exact .inr rfl
        | false => exact .inl (by
            have : r.size ≠ 1 := fun e => h ⟨h1, e, rfl⟩
            omega)⟩]
    · rw [if_neg h1, if_neg (fun k => h1 k.1)]
      split <;> rfl
theorem IsInt_ev (s : ByteArray) (hs : s.size ≤ 9223372036854775807) : Ev (fun k => peristyleref1_isInt.f k s) (isI s) := by
  unfold peristyleref1_isInt.f isI digS
  by_cases hz : s.toList = ([48] : List UInt8)
  · simp only [if_pos hz]
    have eu : ul s = [48] := by rw [Lib.toList_data] at hz; exact hz
    have e0 : bt s 0 = 48 := by rw [bt_cons eu]; rfl
    have ec : cutM s = (s, false) := by unfold cutM; rw [if_neg (by omega)]
    have es : s.size = 1 := by rw [← ul_len, eu]; rfl
    have : (digR (cutM s).1 (cutM s).2).2 = true := by
      rw [ec]
      show (digR s false).2 = true
      unfold digR
      rw [if_neg (by rw [hz]; simp), if_neg (show ¬ (bt s 0 = 48 ∧ (1 < s.size ∨ false = true)) from fun h => by rcases h.2 with h | h; omega; cases h), if_neg (not_bad (by rw [eu]; intro b hb; obtain rfl := List.mem_singleton.1 hb; exact ⟨by decide, by decide⟩))]
    rw [this]; exact Ev.now _
  · simp only [if_neg hz]
    have noz : ∀ m, m = false → ¬ (bt s 0 = 48 ∧ s.size = 1 ∧ m = false) := by
      rintro m _ ⟨h1, h2, _⟩
      refine hz ?_
      rw [Lib.toList_data]
      have hl : (ul s).length = 1 := by rw [ul_len]; exact h2
      show ul s = _
      cases e : ul s with
      | nil => rw [e] at hl; cases hl
      | cons b r =>
        rw [e] at hl
        have hr : r = [] := by cases r with | nil => rfl | cons _ _ => simp at hl
        rw [bt_cons e] at h1
        rw [hr, show b = 48 from UInt8.toNat_inj.1 (by show b.toNat = 48; omega)]
    by_cases h0 : (s.size : Int) > 0
    · simp only [if_pos h0]
      by_cases h1 : bt s 0 = 45
      · have ec : cutM s = (s.extract 1 s.size, true) := by unfold cutM; rw [if_pos h1]
        have e1 : (bt s 0 == 45) = true := by simpa using h1
        rw [ec, e1]
        show Ev _ (digR (s.extract 1 s.size) true).2
        rw [digR_2 _ _ (by rintro ⟨_, _, h⟩; cases h)]
        have hz2 : (s.extract 1 s.size).size ≤ 9223372036854775807 := by rw [← ul_len, ul_drop, List.length_drop, ul_len]; omega
        exact Ev.step (f := fun k => peristyleref1_isInt.j1 k (s.extract 1 s.size)) (fun k => by simp only [peristyleref1_isInt.j0, if_true, if_pos (show (1 : Int) ≤ (s.size : Int) by omega)]) (IsInt_j1 _ hz2)
      · have ec : cutM s = (s, false) := by unfold cutM; rw [if_neg h1]
        have e1 : (bt s 0 == 45) = false := by simpa using h1
        rw [ec, e1]
        show Ev _ (digR s false).2
        rw [digR_2 _ _ (noz false rfl)]
        exact Ev.step (f := fun k => peristyleref1_isInt.j1 k s) (fun k => by simp only [peristyleref1_isInt.j0, Bool.false_eq_true, if_false]) (IsInt_j1 _ hs)
    · simp only [if_neg h0]
      have ec : cutM s = (s, false) := by unfold cutM; rw [if_neg (by rw [show bt s 0 = 0 from bt_out s 0 (by omega)]; decide)]
      rw [ec]
      show Ev _ (digR s false).2
      rw [digR_2 _ _ (noz false rfl)]
      exact Ev.step (f := fun k => peristyleref1_isInt.j1 k s) (fun k => by simp only [peristyleref1_isInt.j0, Bool.false_eq_true, if_false]) (IsInt_j1 _ hs)
/-- What the reference reads is what Digits reads. -/
theorem ReadInt_ev (s : ByteArray) (hs : s.size ≤ 9223372036854775807) : Ev (fun k => peristyleref1_readInt.f k s) (if (digS s).2 = true then num (digS s).1 else bad 9) := by
  unfold peristyleref1_readInt.f
  refine Ev.bind (IsInt_ev s hs) ?_
  unfold isI
  by_cases hd : (digS s).2 = true
  · simp only [if_pos hd]
    have hcut := cutM_size s
    -- what stands behind the sign
    have hR : ∃ r m, cutM s = (r, m) ∧ allD (ul r) ∧ ul r ≠ [] ∧ (digS s).1 = numR r m ∧ (bt r 0 = 48 → r.size = 1 ∧ m = false) := by
      unfold digS at hd ⊢
      refine ⟨(cutM s).1, (cutM s).2, rfl, ?_⟩
      generalize (cutM s).1 = r at hd ⊢
      generalize (cutM s).2 = m at hd ⊢
      unfold digR at hd ⊢
      by_cases h0 : r.toList = []
      · rw [if_pos h0] at hd; cases hd
      · rw [if_neg h0] at hd ⊢
        by_cases h1 : bt r 0 = 48 ∧ (1 < r.size ∨ m = true)
        · rw [if_pos h1] at hd; cases hd
        · rw [if_neg h1] at hd ⊢
          by_cases h2 : ∃ j, j < r.size ∧ badJ r j
          · rw [if_pos h2] at hd; cases hd
          · rw [if_neg h2]
            refine ⟨allD_of h2, fun h => h0 (ul_nil.2 h), rfl, fun h => ?_⟩
            have hp : 0 < r.size := by
              rw [← ul_len]; cases e : ul r with
              | nil => exact absurd (ul_nil.2 e) h0
              | cons _ _ => simp
            constructor
            · have : ¬ 1 < r.size := fun k => h1 ⟨h, .inl k⟩
              omega
            · cases m with
              | false => rfl
              | true => exact absurd ⟨h, .inr rfl⟩ h1
    obtain ⟨r, m, ec, hall, hne, en, hlead⟩ := hR
    rw [en]
    have big : ∀ x : Int, ¬ (-1000000000000000 ≤ x ∧ x ≤ 1000000000000000) → num x = bad 1 := fun x hx => if_neg hx
    have hcutu : cutM s = if bt s 0 = 45 then (s.extract 1 s.size, true) else (s, false) := rfl
    by_cases h45 : bt s 0 = 45
    · rw [if_pos h45, ec] at hcutu
      obtain ⟨rfl, rfl⟩ := Prod.mk.inj hcutu
      have hsz : (s.extract 1 s.size).size = s.size - 1 := by rw [← ul_len, ul_drop, List.length_drop, ul_len]
      have hpos : 0 < (s.extract 1 s.size).size := by
        rw [← ul_len]; cases e : ul (s.extract 1 s.size) with
        | nil => exact absurd e hne
        | cons _ _ => simp
      have eu : ul s = 45 :: ul (s.extract 1 s.size) := by
        cases e : ul s with
        | nil => rw [← ul_len, ul_drop, e] at hpos; simp at hpos
        | cons b q =>
          rw [bt_cons e] at h45
          rw [ul_drop, e, show b = 45 from UInt8.toNat_inj.1 (by show b.toNat = 45; omega)]; rfl
      by_cases hl : (s.size : Int) > 17
      · rw [if_pos hl]
        have : num (numR (s.extract 1 s.size) true) = bad 1 := by
          refine big _ ?_
          unfold numR
          by_cases h17 : (s.extract 1 s.size).size ≤ 17
          · rw [if_pos h17, if_pos rfl]
            -- seventeen digits, the first of them not zero
            cases e : ul (s.extract 1 s.size) with
            | nil => exact absurd e hne
            | cons b q =>
              have hb := hall b (by rw [e]; exact List.mem_cons_self)
              have hb0 : bt (s.extract 1 s.size) 0 = (b.toNat : Int) := bt_cons e
              have hb48 : b.toNat ≠ 48 := fun h => by have := (hlead (by rw [hb0]; omega)).2; cases this
              have hq : q.length = 16 := by
                have : (ul (s.extract 1 s.size)).length = q.length + 1 := by rw [e]; rfl
                rw [ul_len] at this; omega
              have hge := valOf_ge q (0 * 10 + (b.toNat - 48))
              rw [hq] at hge
              have hp : (10 : Nat) ^ 16 = 10000000000000000 := by decide
              have h1 : 1 * 10 ^ 16 ≤ (0 * 10 + (b.toNat - 48)) * 10 ^ 16 := Nat.mul_le_mul_right _ (by omega)
              have ev : valOf 0 (b :: q) = valOf (0 * 10 + (b.toNat - 48)) q := rfl
              rw [ev]
              omega
          · rw [if_neg h17, if_pos rfl]; omega
        rw [this]; exact Ev.now _
      · rw [if_neg hl, AtoiNeg_f eu hall hne (by omega)]
        simp only [Option.bind_some, number_f]
        have : numR (s.extract 1 s.size) true = -(valOf 0 (ul (s.extract 1 s.size)) : Int) := by
          unfold numR; rw [if_pos (by omega), if_pos rfl]
        rw [this]; exact Ev.now _
    · rw [if_neg h45, ec] at hcutu
      obtain ⟨rfl, rfl⟩ := Prod.mk.inj hcutu
      by_cases hl : (r.size : Int) > 17
      · rw [if_pos hl]
        have : num (numR r false) = bad 1 := by
          refine big _ ?_
          unfold numR
          rw [if_neg (by omega), if_neg (by simp)]; omega
        rw [this]; exact Ev.now _
      · rw [if_neg hl, Atoi_f hall hne (by omega)]
        simp only [Option.bind_some, number_f]
        have : numR r false = (valOf 0 (ul r) : Int) := by
          unfold numR; rw [if_pos (by omega), if_neg (by simp)]
        rw [this]; exact Ev.now _
  · simp only [if_neg hd]; exact Ev.now _
theorem ReadBool_f (s : ByteArray) : peristyleref1_readBool.f s = some (if s.toList = lF then tv false else if s.toList = lT then tv true else bad 9) := by
  unfold peristyleref1_readBool.f
  simp only [tbool, Option.bind_some]
  by_cases hF : s.toList = lF
  · have e : (s.toList == lT) = false := by rw [hF]; rfl
    rw [if_pos hF, if_pos hF, e]; rfl
  · rw [if_neg hF, if_neg hF]
    by_cases hT : s.toList = lT
    · rw [if_pos hT, if_pos hT]; rfl
    · rw [if_neg hT, if_neg hT]; rfl
theorem CastR_ev (v : Val) (kind : Int) (hv : fits v) : Ev (fun k => peristyleref1_Cast.f k v.f0 v.f1 v.f2 kind) (castS v kind) := by
  unfold peristyleref1_Cast.f
  refine Ev.bind (CVr _ _ _ hv) ?_
  unfold castS
  show Ev _ (if cv v.f0 v.f1 v.f2 = 0 then _ else _)
  by_cases h : cv v.f0 v.f1 v.f2 = 0
  · have hr : cvV v = 0 := h
    simp only [if_pos h, within_f, Option.bind_some, decide_eq_true_eq]
    by_cases hk : 1 ≤ kind ∧ kind ≤ 3
    · simp only [if_pos hk]
      have same : ∀ b : Bool, b = true → Ev (fun k => peristyleref1_Cast.j0 k kind b v.f0 v.f1 v.f2) (v.f0, v.f1, v.f2, 0) := by
        intro b hb; subst hb
        exact Ev.step (f := fun _ => some (v.f0, v.f1, v.f2, 0)) (fun k => by simp only [peristyleref1_Cast.j0, if_true]) (Ev.now _)
      by_cases h0 : v.f0 = 0
      · rw [if_pos (Or.inl h0)]; simp only [if_pos h0]; exact same _ rfl
      · simp only [if_neg h0]
        by_cases h1 : v.f0 = kind
        · rw [if_pos (Or.inr h1)]; exact same _ (by simpa using h1)
        · rw [if_neg (show ¬ (v.f0 = 0 ∨ v.f0 = kind) from fun k => k.elim h0 h1)]
          have e : (v.f0 == kind) = false := by simpa using h1
          rw [e]
          by_cases k3 : kind = 3
          · have h3 : ¬ v.f0 = 3 := fun h => h1 (h.trans k3.symm)
            rw [if_neg h3, if_neg (show ¬ kind = 2 by omega), if_neg (show ¬ kind = 1 by omega)]
            have hw : peristyleref1_word.f v.f0 v.f1 v.f2 = some (if v.f0 = 1 then (if v.f1 = 1 then bT else bF) else itoaB v.f1) := by
              unfold peristyleref1_word.f
              by_cases hb : v.f0 = 2
              · rw [if_pos hb, Itoa_f (right2 hr hb).2, if_neg (show ¬ v.f0 = 1 by omega)]; rfl
              · have h1' : v.f0 = 1 := by have := kind_of hr; omega
                rw [if_neg hb, if_pos h1']
                split <;> rfl
            refine Ev.step (f := fun _ => some (3, 0, (if v.f0 = 1 then (if v.f1 = 1 then bT else bF) else itoaB v.f1), 0)) (fun k => by simp only [peristyleref1_Cast.j0, Bool.false_eq_true, if_false, if_pos k3, hw, Option.bind_some]) ?_
            by_cases hb : v.f0 = 1
            · rw [if_pos hb, if_pos hb]; exact Ev.now _
            · rw [if_neg hb, if_neg hb]; exact Ev.now _
          · by_cases h3 : v.f0 = 3
            · rw [if_pos h3]
              refine Ev.step (f := fun k => peristyleref1_Cast.j1 k kind (kind == 1) v.f0 v.f1 v.f2) (fun k => by simp only [peristyleref1_Cast.j0, Bool.false_eq_true, if_false, if_neg k3, if_pos h3]) ?_
              unfold fromT
              by_cases k1 : kind = 1
              · have e1 : (kind == 1) = true := by simpa using k1
                rw [e1, if_pos k1]
                exact Ev.step (f := fun _ => some (if v.f2.toList = lF then tv false else if v.f2.toList = lT then tv true else bad 9)) (fun k => by simp only [peristyleref1_Cast.j1, if_true, ReadBool_f, Option.bind_some]) (Ev.now _)
              · have e1 : (kind == 1) = false := by simpa using k1
                rw [e1, if_neg k1]
                exact Ev.step (f := fun k => (peristyleref1_readInt.f k v.f2).bind fun t => some (t.1, t.2.1, t.2.2.1, t.2.2.2)) (fun k => by simp only [peristyleref1_Cast.j1, Bool.false_eq_true, if_false, if_pos h3]) (Ev.bind (ReadInt_ev v.f2 hv) (Ev.now _))
            · rw [if_neg h3]
              refine Ev.step (f := fun k => peristyleref1_Cast.j1 k kind false v.f0 v.f1 v.f2) (fun k => by simp only [peristyleref1_Cast.j0, Bool.false_eq_true, if_false, if_neg k3, if_neg h3]) ?_
              by_cases k1 : kind = 1
              · rw [if_neg (show ¬ kind = 2 by omega), if_pos k1]
                exact Ev.step (f := fun _ => some (tv (v.f1 != 0))) (fun k => by simp only [peristyleref1_Cast.j1, Bool.false_eq_true, if_false, if_neg h3, if_pos k1, tbool, Option.bind_some]; rfl) (Ev.now _)
              · have k2 : kind = 2 := by omega
                rw [if_pos k2]
                have hx : rng v.f1 := by
                  have hh := kind_of hr
                  have hb : v.f0 = 1 := by omega
                  rcases right1 hr hb with e | e <;> rw [e] <;> exact ⟨by decide, by decide⟩
                refine Ev.step (f := fun _ => some (num v.f1)) (fun k => by simp only [peristyleref1_Cast.j1, Bool.false_eq_true, if_false, if_neg h3, if_neg k1, number_f, Option.bind_some]) ?_
                rw [num_at hx]; exact Ev.now _
    · simp only [if_neg hk]; exact Ev.now _
  · simp only [if_neg h]; exact Ev.now _
theorem CastsMatchSpec (v s p : Val) (kind : Int) (hv : Opn.PValue v) (hs : Opn.PValue s) (hp : Opn.PValue p) (hk : (Lit.int .i64 kind).wf = true) :
    Ev (fun k => peristylelaw1_CastsMatchSpec.f k v.f0 v.f1 v.f2 s.f0 s.f1 s.f2 p.f0 p.f1 p.f2 kind) true := by
  unfold peristylelaw1_CastsMatchSpec.f
  refine Ev.bind (Cast_ev v kind hv.2.2) (Ev.bind (CastR_ev v kind hv.2.2) (Ev.bind (Like_ev s p hs.2.2 hp.2.2) (Ev.bind (LikeR_ev s p hs.2.2 hp.2.2) ?_)))
  simp only [beq_self_eq_true, Bool.and_self, if_true]
  exact Ev.bind Ev_awake (Ev.now _)
end Go.Proofs.YtokphfhihhdfpaaDoor.Pure
