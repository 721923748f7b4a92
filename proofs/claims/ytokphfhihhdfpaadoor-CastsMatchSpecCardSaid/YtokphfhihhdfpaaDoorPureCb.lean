/- Plain laws, part Cb: casts. What value.Cast comes to; a numeral that strconv.Itoa writes is read as the number. -/
import Derived.Test.YtokphfhihhdfpaaDoorPureD
import Derived.Test.YtokphfhihhdfpaaDoorQxCasts
namespace Go.Proofs.YtokphfhihhdfpaaDoor.Pure
open Go.RowKit Go.Proofs.YtokphfhihhdfpaaDoor.Q Go.Proofs.YtokphfhihhdfpaaDoor.Ext Go.Proofs.YtokphfhihhdfpaaDoorW.PrintWords Go.Proofs.YtokphfhihhdfpaaDoorW.PrintLast Go.Proofs.YtokphfhihhdfpaaDoorW.PrintMore
set_option linter.unusedVariables false
set_option linter.unusedSimpArgs false

abbrev rng (x : Int) : Prop := -1000000000000000 ≤ x ∧ x ≤ 1000000000000000
theorem kbool (x : Bool) : kit_Bool.f x = some (1, (if x then 1 else 0), ee) := by unfold kit_Bool.f; cases x <;> rfl
theorem num_at {x : Int} (h : rng x) : num x = (2, x, ee, 0) := if_pos h
/-! ### numerals -/
theorem dec_small {u : Nat} (h : u < 10) : Lib.decDigits u = [UInt8.ofNat (48 + u)] := by rw [Lib.decDigits, dif_pos h]
theorem dec_big {u : Nat} (h : ¬ u < 10) : Lib.decDigits u = Lib.decDigits (u / 10) ++ [UInt8.ofNat (48 + u % 10)] := by rw [Lib.decDigits, dif_neg h]
theorem digit_toNat {d : Nat} (h : d < 10) : (UInt8.ofNat (48 + d)).toNat = 48 + d := by rw [UInt8.toNat_ofNat']; omega
theorem dec_spec (u : Nat) : allD (Lib.decDigits u) ∧ valOf 0 (Lib.decDigits u) = u ∧ ∃ b r, Lib.decDigits u = b :: r ∧ (u ≠ 0 → b.toNat ≠ 48) ∧ (u = 0 → r = []) := by
  induction u using Nat.strongRecOn with
  | _ u ih =>
    by_cases h : u < 10
    · rw [dec_small h]
      refine ⟨fun b hb => ?_, ?_, _, _, rfl, fun h0 => ?_, fun _ => rfl⟩
      · obtain rfl := List.mem_singleton.1 hb; rw [digit_toNat h]; omega
      · show 0 * 10 + ((UInt8.ofNat (48 + u)).toNat - 48) = u; rw [digit_toNat h]; omega
      · rw [digit_toNat h]; omega
    · rw [dec_big h]
      obtain ⟨h1, h2, b, r, h3, h4, _⟩ := ih (u / 10) (by omega)
      have hm : u % 10 < 10 := Nat.mod_lt _ (by decide)
      refine ⟨fun b hb => ?_, ?_, b, r ++ [UInt8.ofNat (48 + u % 10)], by rw [h3]; rfl, fun _ => h4 (by omega), fun h0 => by omega⟩
      · rcases List.mem_append.1 hb with hb | hb
        · exact h1 b hb
        · obtain rfl := List.mem_singleton.1 hb; rw [digit_toNat hm]; omega
      · unfold valOf at h2 ⊢
        rw [List.foldl_append, h2]
        show u / 10 * 10 + ((UInt8.ofNat (48 + u % 10)).toNat - 48) = u
        rw [digit_toNat hm]; omega
theorem dec_len : ∀ (k u : Nat), u < 10 ^ (k + 1) → (Lib.decDigits u).length ≤ k + 1
  | 0, u, h => by rw [dec_small (by simpa using h)]; simp
  | k + 1, u, h => by
    by_cases h10 : u < 10
    · rw [dec_small h10]; simp
    · rw [dec_big h10, List.length_append]
      have := dec_len k (u / 10) (by rw [Nat.pow_succ] at h; omega)
      simp only [List.length_singleton]; omega
abbrev itoaB (x : Int) : ByteArray := ⟨(Lib.itoa x).toArray⟩
theorem ul_itoa (x : Int) : ul (itoaB x) = Lib.itoa x := rfl
theorem Itoa_f {x : Int} (h : rng x) : strconv_Itoa.f x = some (itoaB x) := by
  unfold strconv_Itoa.f
  unfold rng at h
  rw [if_pos (by omega)]
theorem dig_itoa {x : Int} (h : rng x) : digS (itoaB x) = (x, true) ∧ (itoaB x).size ≤ 17 ∧ (∀ b ∈ ul (itoaB x), 32 ≤ b.toNat ∧ b.toNat ≤ 126) := by
  unfold rng at h
  have hp : (10 : Nat) ^ (15 + 1) = 10000000000000000 := by decide
  rcases Int.lt_or_le x 0 with hx | hx
  · have e : Lib.itoa x = 45 :: Lib.decDigits x.natAbs := if_pos hx
    obtain ⟨h1, h2, b, r, h3, h4, _⟩ := dec_spec x.natAbs
    have hl := dec_len 15 x.natAbs (by omega)
    have eu : ul (itoaB x) = 45 :: Lib.decDigits x.natAbs := e
    have hz : (itoaB x).size = (Lib.decDigits x.natAbs).length + 1 := by rw [← ul_len, eu]; rfl
    refine ⟨?_, by omega, fun c hc => ?_⟩
    · have ec : cutM (itoaB x) = ((itoaB x).extract 1 (itoaB x).size, true) := by
        unfold cutM
        rw [bt_cons eu, if_pos (show (((45 : UInt8).toNat : Nat) : Int) = 45 from rfl)]
      unfold digS
      rw [ec]
      have er : ul ((itoaB x).extract 1 (itoaB x).size) = Lib.decDigits x.natAbs := by rw [ul_drop, eu]; rfl
      generalize (itoaB x).extract 1 (itoaB x).size = q at er
      show digR q true = _
      have hq : ¬ q.toList = [] := by rw [ul_nil, er, h3]; simp
      have hb0 : bt q 0 = (b.toNat : Int) := bt_cons (by rw [er, h3])
      have hb := h4 (by omega)
      have hqs : q.size = (Lib.decDigits x.natAbs).length := by rw [← ul_len, er]
      unfold digR
      rw [if_neg hq, if_neg (show ¬ (bt q 0 = 48 ∧ (1 < q.size ∨ true = true)) from fun k => hb (by have := k.1; rw [hb0] at this; omega)), if_neg (not_bad (by rw [er]; exact h1))]
      unfold numR
      rw [if_pos (by omega), if_pos rfl, er, h2]
      congr 1; omega
    · rw [eu] at hc
      rcases List.mem_cons.1 hc with hc | hc
      · rw [hc]; decide
      · have := h1 c hc; omega
  · have e : Lib.itoa x = Lib.decDigits x.toNat := if_neg (by omega)
    obtain ⟨h1, h2, b, r, h3, h4, h5⟩ := dec_spec x.toNat
    have hl := dec_len 15 x.toNat (by omega)
    have eu : ul (itoaB x) = Lib.decDigits x.toNat := e
    have hz : (itoaB x).size = (Lib.decDigits x.toNat).length := by rw [← ul_len, eu]
    have hbd := h1 b (by rw [h3]; exact List.mem_cons_self)
    have hb0 : bt (itoaB x) 0 = (b.toNat : Int) := bt_cons (by rw [eu, h3])
    refine ⟨?_, by omega, fun c hc => ?_⟩
    · have ec : cutM (itoaB x) = (itoaB x, false) := by
        unfold cutM
        rw [hb0, if_neg (by omega)]
      unfold digS
      rw [ec]
      show digR (itoaB x) false = _
      unfold digR
      rw [if_neg (show ¬ (itoaB x).toList = [] by rw [ul_nil, eu, h3]; simp), if_neg (show ¬ (bt (itoaB x) 0 = 48 ∧ (1 < (itoaB x).size ∨ false = true)) from fun k => by
        have hx0 : x.toNat = 0 := by
          rcases Nat.eq_zero_or_pos x.toNat with h | h
          · exact h
          · exact absurd (by have := k.1; rw [hb0] at this; omega) (h4 (by omega))
        rcases k.2 with k2 | k2
        · rw [hz, h3, h5 hx0] at k2; simp at k2
        · cases k2), if_neg (not_bad (by rw [eu]; exact h1))]
      unfold numR
      rw [if_pos (by omega), if_neg (by simp), eu, h2]
      congr 1; omega
    · rw [eu] at hc
      have := h1 c hc; omega
/-! ### Cast -/
abbrev bF : ByteArray := ⟨#[102, 97, 108, 115, 101]⟩
abbrev bT : ByteArray := ⟨#[116, 114, 117, 101]⟩
abbrev lF : List UInt8 := [102, 97, 108, 115, 101]
abbrev lT : List UInt8 := [116, 114, 117, 101]
def fromT (s : ByteArray) (kind : Int) : Res := if kind = 1 then (if s.toList = lF then tv false else if s.toList = lT then tv true else bad 9) else if (digS s).2 = true then num (digS s).1 else bad 9
def castS (v : Val) (kind : Int) : Res :=
  if cvV v = 0 then (if 1 ≤ kind ∧ kind ≤ 3 then (if v.f0 = 0 ∨ v.f0 = kind then (v.f0, v.f1, v.f2, 0) else if v.f0 = 3 then fromT v.f2 kind else if kind = 2 then (2, v.f1, ee, 0) else if kind = 1 then tv (v.f1 != 0) else if v.f0 = 1 then (3, 0, (if v.f1 = 1 then bT else bF), 0) else (3, 0, itoaB v.f1, 0)) else bad 4) else bad (cvV v)
theorem result_num (x : Int) : Ev (fun k => value_result.f k 2 0 ee 2 0 ee x) (num x) := by
  unfold value_result.f
  simp only [kit_IsNull.f, Option.bind_some]
  have e : ((2 : Int) == 0) = false := rfl
  simp only [e, Bool.false_eq_true, if_false]
  refine Ev.step (f := fun _ => some (num x)) (fun k => ?_) (Ev.now _)
  simp only [value_result.j0, Bool.false_eq_true, if_false]
  rw [kit_In_f]
  simp only [Option.bind_some, decide_eq_true_eq, kit_Int.f]
  unfold num
  split <;> rfl
theorem FromText_ev (s : ByteArray) (kind : Int) (hs : s.size ≤ 9223372036854775807) : Ev (fun k => value_fromText.f k s kind) (fromT s kind) := by
  unfold value_fromText.f fromT
  by_cases h1 : kind = 1
  · simp only [if_pos h1, kbool, Option.bind_some]
    by_cases hF : s.toList = lF
    · have e : (s.toList == lT) = false := by rw [hF]; rfl
      rw [if_pos hF, if_pos hF, e]; exact Ev.now _
    · rw [if_neg hF, if_neg hF]
      by_cases hT : s.toList = lT
      · rw [if_pos hT, if_pos hT]; exact Ev.now _
      · rw [if_neg hT, if_neg hT]; exact Ev.now _
  · simp only [if_neg h1]
    refine Ev.bind (Digits_ev s hs) ?_
    by_cases h2 : (digS s).2 = true
    · simp only [if_pos h2, kit_Int.f, Option.bind_some]
      exact Ev.bind (result_num _) (Ev.now _)
    · simp only [if_neg h2]; exact Ev.now _
theorem Cast_ev (v : Val) (kind : Int) (hv : fits v) : Ev (fun k => value_Cast.f k v.f0 v.f1 v.f2 kind) (castS v kind) := by
  unfold value_Cast.f
  refine Ev.bind (CV _ _ _ hv) ?_
  unfold castS
  show Ev _ (if cv v.f0 v.f1 v.f2 = 0 then _ else _)
  by_cases h : cv v.f0 v.f1 v.f2 = 0
  · have hr : cvV v = 0 := h
    simp only [if_pos h, kit_In_f, Option.bind_some, decide_eq_true_eq]
    by_cases hk : 1 ≤ kind ∧ kind ≤ 3
    · simp only [if_pos hk, kit_IsNull.f, Option.bind_some, beq_iff_eq]
      have same : ∀ b : Bool, b = true → Ev (fun k => value_Cast.j0 k kind b v.f0 v.f1 v.f2) (v.f0, v.f1, v.f2, 0) := by
        intro b hb; subst hb
        exact Ev.step (f := fun _ => some (v.f0, v.f1, v.f2, 0)) (fun k => by simp only [value_Cast.j0, if_true]) (Ev.now _)
      by_cases h0 : v.f0 = 0
      · rw [if_pos (Or.inl h0)]; simp only [if_pos h0]; exact same _ rfl
      · simp only [if_neg h0]
        by_cases h1 : v.f0 = kind
        · rw [if_pos (Or.inr h1)]; exact same _ (by simpa using h1)
        · rw [if_neg (show ¬ (v.f0 = 0 ∨ v.f0 = kind) from fun k => k.elim h0 h1)]
          have e : (v.f0 == kind) = false := by simpa using h1
          rw [e]
          by_cases h3 : v.f0 = 3
          · rw [if_pos h3]
            refine Ev.step (f := fun k => (value_fromText.f k v.f2 kind).bind fun t => some (t.1, t.2.1, t.2.2.1, t.2.2.2)) (fun k => by simp only [value_Cast.j0, Bool.false_eq_true, if_false, if_pos h3]) (Ev.bind (FromText_ev v.f2 kind hv) (Ev.now _))
          · rw [if_neg h3]
            by_cases k2 : kind = 2
            · rw [if_pos k2]
              exact Ev.step (f := fun _ => some (2, v.f1, ee, 0)) (fun k => by simp only [value_Cast.j0, Bool.false_eq_true, if_false, if_neg h3, if_pos k2, kit_Int.f, Option.bind_some]) (Ev.now _)
            · rw [if_neg k2]
              by_cases k1 : kind = 1
              · rw [if_pos k1]
                exact Ev.step (f := fun _ => some (tv (v.f1 != 0))) (fun k => by simp only [value_Cast.j0, Bool.false_eq_true, if_false, if_neg h3, if_neg k2, if_pos k1, kbool, Option.bind_some]; rfl) (Ev.now _)
              · rw [if_neg k1]
                by_cases hb : v.f0 = 1
                · rw [if_pos hb]
                  rcases right1 hr hb with e1 | e1 <;> subst e1 <;> exact Ev.step (f := fun _ => some _) (fun k => by simp only [value_Cast.j0, Bool.false_eq_true, if_false, if_neg k2, if_neg k1]; rfl) (Ev.now _)
                · rw [if_neg hb]
                  have h2 : v.f0 = 2 := by have := kind_of hr; omega
                  have hx := (right2 hr h2).2
                  exact Ev.step (f := fun _ => some (3, 0, itoaB v.f1, 0)) (fun k => by simp only [value_Cast.j0, Bool.false_eq_true, if_false, if_neg h3, if_neg k2, if_neg k1, if_neg hb, Itoa_f hx, kit_Text.f, Option.bind_some]) (Ev.now _)
    · simp only [if_neg hk]; exact Ev.now _
  · simp only [if_neg h]; exact Ev.now _
end Go.Proofs.YtokphfhihhdfpaaDoor.Pure
