/- slices.Clone of columns: the same columns in memory of the call's own. -/
import Derived.Test.YtokphfhihhdfpaaDoorSrtI
import Derived.Test.YtokphfhihhdfpaaDoorY2
import Derived.Test.YtokphfhihhdfpaaDoorQx0
namespace Go.Proofs.YtokphfhihhdfpaaDoor.Ext
open Go.Shelf Go.RowKit Go.Lib Go.Proofs Go.Proofs.YtokphfhihhdfpaaDoor.Q Go.Proofs.YtokphfhihhdfpaaDoorW.PrintWords Go.Proofs.YtokphfhihhdfpaaDoorW.PrintLast Go.Proofs.YtokphfhihhdfpaaDoorW.PrintMore
set_option linter.unusedVariables false
section
variable {α : Type} {cs : α → List Value} {size : Nat}
theorem flat_length (hl : ∀ x, (cs x).length = size) : ∀ l : List α, (l.flatMap cs).length = l.length * size
  | [] => by simp
  | x :: l => by rw [List.flatMap_cons, List.length_append, hl, flat_length hl l, List.length_cons, Nat.add_mul, Nat.one_mul, Nat.add_comm]
theorem reps_flat (R : α → List Value → Prop) (hl : ∀ x, (cs x).length = size) : ∀ l : List α, (∀ x ∈ l, R x (cs x)) → Reps R size l (l.flatMap cs)
  | [], _ => Reps.none R size
  | x :: l, h => by
    have h1 : Reps R size ([] ++ [x]) ([] ++ cs x) := Reps.snoc (Reps.none R size) (h x List.mem_cons_self) (hl x)
    have h2 := reps_flat R hl l (fun y hy => h y (List.mem_cons_of_mem _ hy))
    have := Kd.reps_append h1 h2
    simpa using this
theorem cells_flat (hl : ∀ x, (cs x).length = size) {w : World} {ad : Addr} : ∀ (l : List α) (q : Nat), (∀ (j : Nat) p, l[j]? = some p → ∀ (i : Nat) u, (cs p)[i]? = some u → w.cell? (ad.add ((q + j) * size + i)) = some u) →
    ∀ (t : Nat) u, (l.flatMap cs)[t]? = some u → w.cell? (ad.add (q * size + t)) = some u
  | [], q, _, t, u, h => by simp at h
  | x :: l, q, hc, t, u, h => by
    rw [List.flatMap_cons] at h
    rcases Nat.lt_or_ge t (cs x).length with ht | ht
    · rw [List.getElem?_append_left ht] at h
      exact hc 0 x rfl t u h
    · rw [List.getElem?_append_right ht, hl] at h
      have := cells_flat hl l (q + 1) (fun j p hj i u hu => by
        have := hc (j + 1) p hj i u hu
        rw [show q + 1 + j = q + (j + 1) by omega]
        exact this) (t - size) u h
      rw [hl] at ht
      rw [show q * size + t = (q + 1) * size + (t - size) by rw [Nat.add_mul, Nat.one_mul]; omega]
      exact this
end
def slices_CloneC.f (l : List S80) : Option (List S80) := if 0 < l.length ∧ l.length ≤ 1000000 then some l else none
theorem slices_CloneC.calls (A0 : Option Addr) (c0 : Nat) (l0 : List S80) (r : List S80) (w : World) (hr0 : Kd.C k80 w A0 l0.length l0) (hc0 : l0.length ≤ c0) (h : slices_CloneC.f l0 = some r) :
    Calls Tryd.prog 104 #[.slice A0 l0.length c0] w fun e w' => ∃ v0_ : Value, e = .returned v0_ ∧ Kd.R k80 80 w' w.heap.size (fun _ => True) v0_ r ∧ Below w.heap.size w w' := by
  unfold slices_CloneC.f at h
  split at h
  · rename_i hb
    obtain rfl := Option.some.inj h
    obtain ⟨hlen, hn9, hcells⟩ := hr0
    obtain ⟨ad, rfl, hel⟩ := hcells hb.1
    have hl : ∀ x : S80, ([Value.string x.f0, .int .i64 x.f1]).length = 2 := fun _ => rfl
    have hat : ∀ (t : Nat) u, (l0.flatMap fun x : S80 => [Value.string x.f0, .int .i64 x.f1])[t]? = some u → w.cell? (ad.add (0 * 2 + t)) = some u := cells_flat hl l0 0 fun j p hj i u hu => by
      obtain ⟨c, _, hK, hcc⟩ := hel j p hj
      obtain rfl := k80_open hK
      have := hcc i u hu
      rw [Nat.zero_add]
      exact this
    have hfl := flat_length hl l0
    -- the address is a plain one
    have hsp : ad.spot = none := by
      obtain ⟨x, hx⟩ : ∃ x, l0[0]? = some x := ⟨l0[0]'hb.1, List.getElem?_eq_getElem hb.1⟩
      have h0 : (l0.flatMap fun x : S80 => [Value.string x.f0, .int .i64 x.f1])[0]? = some (Value.string x.f0) := by
        cases l0 with
        | nil => cases hx
        | cons y l => injection hx with hx; subst hx; rfl
      have := hat 0 _ h0
      unfold World.cell? at this
      split at this
      · split at this
        · cases this
        · rename_i hs
          cases hsp : ad.spot with
          | none => rfl
          | some q => exfalso; apply hs; unfold Addr.add; simp [hsp]
      · cases this
    obtain ⟨b, off, sp⟩ := ad
    simp only at hsp
    subst hsp
    obtain ⟨i0, hi, hz0, hz1, hz2⟩ := info_parts info80
    have hcl := AnyE.slices_Clone Tryd.cloneC i0 _ 2 24 hi hz0 hz1 hz2 rfl (by decide) Tryd.sizeOf80 b off l0.length c0 (l0.flatMap fun x : S80 => [Value.string x.f0, .int .i64 x.f1]) w hfl (by unfold maxLen; omega) (by omega)
      (fun j u hu => by
        have := hat j u hu
        rw [Nat.zero_mul, Nat.zero_add] at this
        rw [Addr.add_lit] at this
        exact this)
      (fun u hu => by
        rw [List.mem_flatMap] at hu
        obtain ⟨x, _, hx⟩ := hu
        simp only [List.mem_cons, List.not_mem_nil, or_false] at hx
        rcases hx with rfl | rfl <;> rfl)
    refine hcl.mono fun e w' ⟨v', he, how, _, hbl⟩ => ⟨v', he, ⟨fun _ _ => trivial, _, how, ?_⟩, hbl⟩
    exact reps_flat _ hl l0 fun x _ => k80_mkM _ _ _ x
  · cases h
end Go.Proofs.YtokphfhihhdfpaaDoor.Ext
