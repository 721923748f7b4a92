/- How an argument of a law is read: out of the form's own reading of data to the words that the contracts are stated in (a row of structs, a row of rows), type by type. Holds for every program; the types are this seat's. -/
import Derived.Test.YtokphfhihhdfpaaDoorQx0
import Derived.Deep.Slices
import Derived.ProofKit
import Derived.OpenShut
namespace Go.Proofs.YtokphfhihhdfpaaDoor.Opn
open Go.ChangeShapes Go.WideShapes Go.ChangeAt Go.RowKit Go.Deep
open Go.Proofs.YtokphfhihhdfpaaDoorW.PrintWords Go.Proofs.YtokphfhihhdfpaaDoorW.PrintLast Go.Proofs.YtokphfhihhdfpaaDoorW.PrintMore Go.Proofs.YtokphfhihhdfpaaDoor.Q
set_option linter.unusedVariables false

structure Opens (P : Program) (t : TypeId) {α : Type} (d : Kd α) (p : α → Prop) : Prop where
  out : ∀ {H : Type} {enc : TypeId × Value → H} {w : World} {base : Nat} {spare : Nat → Bool} {held : Bool} {fuel : Nat} {cs : List Value} {x : DataW H × List MemPlace},
    DataW.trod enc P w base spare held fuel t cs = some x → ∃ a : α, d.K w a cs ∧ p a

section
variable {P : Program} {t e : TypeId} {α β γ : Type} {d : Kd α} {d1 : Kd β} {d2 : Kd γ} {p : α → Prop} {p1 : β → Prop} {p2 : γ → Prop} {q : List α → Prop}

theorem opens_int {k : IntKind} (ht : P.underlying t = some (.int k)) : Opens P t (Kd.int k) (fun n => (Lit.int k n).wf = true) :=
  ⟨fun h => by obtain ⟨n, rfl, _, hw⟩ := DataW.trod_int ht h; exact ⟨n, rfl, hw⟩⟩
theorem opens_bool (ht : P.underlying t = some .bool) : Opens P t Kd.bool (fun _ => True) :=
  ⟨fun h => by obtain ⟨b, rfl, _⟩ := DataW.trod_bool ht h; exact ⟨b, rfl, trivial⟩⟩
theorem opens_string (ht : P.underlying t = some .string) : Opens P t Kd.string (fun s => s.size ≤ maxLen) :=
  ⟨fun h => by obtain ⟨s, rfl, _, hs⟩ := DataW.trod_string ht h; exact ⟨s, rfl, hs⟩⟩

theorem list_of {Q : Nat → α → Prop} (n : Nat) (h : ∀ i, i < n → ∃ b, Q i b) : ∃ xs : List α, xs.length = n ∧ ∀ (j : Nat) b, xs[j]? = some b → Q j b := by
  induction n with
  | zero => exact ⟨[], rfl, fun j b hb => by simp at hb⟩
  | succ n ih =>
    obtain ⟨xs, hl, hx⟩ := ih (fun i hi => h i (by omega))
    obtain ⟨b, hb⟩ := h n (by omega)
    refine ⟨xs ++ [b], by simp [hl], fun j c hc => ?_⟩
    rcases Nat.lt_or_ge j xs.length with hj | hj
    · rw [List.getElem?_append_left hj] at hc
      exact hx j c hc
    · have hlt := (List.getElem?_eq_some_iff.1 hc).1
      rw [List.length_append, List.length_singleton] at hlt
      have e : j = xs.length := by omega
      subst e
      simp at hc
      subst hc
      rw [hl]
      exact hb

theorem opens_slice (ht : P.underlying t = some (.slice e)) (hc : P.cellsOf e = d.sz) (hd : Opens P e d p) :
    Opens P t (Kd.slice e d) (fun xs => xs.length ≤ maxLen ∧ ∀ a ∈ xs, p a) :=
  ⟨fun {H enc w base spare held fuel cs x} h => by
    rcases open_slice ht h with ⟨rfl, _⟩ | ⟨a, len, cap, m, n, D, Pl, rfl, _, hl, hm, hmm, _, hi⟩
    · exact ⟨[], ⟨none, 0, rfl, Nat.le_refl _, ⟨rfl, by simp, fun hn => absurd hn (by simp)⟩⟩, by simp, by simp⟩
    · have hlm : len ≤ m := by subst hmm; split <;> omega
      obtain ⟨xs, hxl, hx⟩ := list_of (Q := fun i b => (∃ c, c.length = d.sz ∧ d.K w b c ∧ ∀ j u, c[j]? = some u → w.cell? (a.add (i * d.sz + j)) = some u) ∧ p b) len (by
        intro i him
        obtain ⟨cs', hcs, ht'⟩ := hi i (by omega)
        obtain ⟨b, hb, hp⟩ := hd.out ht'
        refine ⟨b, ⟨cs', d.K_len hb, hb, fun j u hu => ?_⟩, hp⟩
        rw [hc] at hcs
        obtain ⟨_, hcl, hat⟩ := World.cells?_some hcs
        have hj : j < d.sz := by have := (List.getElem?_eq_some_iff.1 hu).1; omega
        rw [← Go.Deep.add_add, hat j hj, hu])
      have hml : len ≤ maxLen := by omega
      refine ⟨xs, ⟨some a, cap, by rw [hxl], by omega, ⟨rfl, by unfold maxLen at hml; omega, fun _ => ⟨a, rfl, fun j b hj => (hx j b hj).1⟩⟩⟩, by omega, fun b hb => ?_⟩
      obtain ⟨j, hj⟩ := List.getElem?_of_mem hb
      exact (hx j b hj).2⟩

theorem field_at {fs : Array Field} (ht : P.underlying t = some (.struct fs)) (i : Nat) (f : Field) (hf : fs[i]? = some f) (hs : P.cellsOf f.type = d.sz) (hd : Opens P f.type d p)
    {H : Type} {enc : TypeId × Value → H} {w : World} {base : Nat} {spare : Nat → Bool} {held : Bool} {fuel : Nat} {cs : List Value} {x : DataW H × List MemPlace}
    (h : DataW.trod enc P w base spare held fuel t cs = some x) : ∃ a : α, d.K w a ((cs.drop f.offset).take d.sz) ∧ p a := by
  obtain ⟨xs, n, _, _, _, hlen, hg⟩ := DataW.trod_struct ht h
  have hi : i < xs.length := by rw [hlen]; exact (Array.getElem?_eq_some_iff.1 hf).1
  have h1 := hg i f hf
  rw [List.getElem?_eq_getElem hi, hs] at h1
  exact hd.out h1
theorem length_of {fs : Array Field} (ht : P.underlying t = some (.struct fs))
    {H : Type} {enc : TypeId × Value → H} {w : World} {base : Nat} {spare : Nat → Bool} {held : Bool} {fuel : Nat} {cs : List Value} {x : DataW H × List MemPlace}
    (h : DataW.trod enc P w base spare held fuel t cs = some x) : cs.length = P.cellsOf t := by
  obtain ⟨xs, n, _, _, hl, _⟩ := DataW.trod_struct ht h
  exact hl

theorem opens_struct1 {f0 : Field} (ht : P.underlying t = some (.struct #[f0])) (o0 : f0.offset = 0) (s0 : P.cellsOf f0.type = d.sz) (hC : P.cellsOf t = d.sz) (h0 : Opens P f0.type d p) : Opens P t d p :=
  ⟨fun {H enc w base spare held fuel cs x} h => by
    obtain ⟨a, ha, hp⟩ := field_at ht 0 f0 rfl s0 h0 h
    have hl := (length_of ht h).trans hC
    rw [o0, List.drop_zero, List.take_of_length_le (by omega)] at ha
    exact ⟨a, ha, hp⟩⟩
theorem opens_struct2 {f0 f1 : Field} (ht : P.underlying t = some (.struct #[f0, f1])) (o0 : f0.offset = 0) (o1 : f1.offset = d.sz) (s0 : P.cellsOf f0.type = d.sz) (s1 : P.cellsOf f1.type = d1.sz) (hC : P.cellsOf t = d.sz + d1.sz)
    (h0 : Opens P f0.type d p) (h1 : Opens P f1.type d1 p1) : Opens P t (Kd.pair d d1) (fun x => p x.1 ∧ p1 x.2) :=
  ⟨fun {H enc w base spare held fuel cs x} h => by
    obtain ⟨a, ha, hp⟩ := field_at ht 0 f0 rfl s0 h0 h
    obtain ⟨b, hb, hq⟩ := field_at ht 1 f1 rfl s1 h1 h
    have hl := (length_of ht h).trans hC
    rw [o0, List.drop_zero] at ha
    rw [o1, List.take_of_length_le (by rw [List.length_drop]; omega)] at hb
    exact ⟨(a, b), ⟨_, _, (List.take_append_drop d.sz cs).symm, ha, hb⟩, hp, hq⟩⟩
theorem opens_struct3 {f0 f1 f2 : Field} (ht : P.underlying t = some (.struct #[f0, f1, f2])) (o0 : f0.offset = 0) (o1 : f1.offset = d.sz) (o2 : f2.offset = d.sz + d1.sz) (s0 : P.cellsOf f0.type = d.sz) (s1 : P.cellsOf f1.type = d1.sz) (s2 : P.cellsOf f2.type = d2.sz)
    (hC : P.cellsOf t = d.sz + d1.sz + d2.sz) (h0 : Opens P f0.type d p) (h1 : Opens P f1.type d1 p1) (h2 : Opens P f2.type d2 p2) : Opens P t (Kd.pair d (Kd.pair d1 d2)) (fun x => p x.1 ∧ p1 x.2.1 ∧ p2 x.2.2) :=
  ⟨fun {H enc w base spare held fuel cs x} h => by
    obtain ⟨a, ha, hp⟩ := field_at ht 0 f0 rfl s0 h0 h
    obtain ⟨b, hb, hq⟩ := field_at ht 1 f1 rfl s1 h1 h
    obtain ⟨c, hc, hr⟩ := field_at ht 2 f2 rfl s2 h2 h
    have hl := (length_of ht h).trans hC
    rw [o0, List.drop_zero] at ha
    rw [o1] at hb
    rw [o2, List.take_of_length_le (by rw [List.length_drop]; omega), ← List.drop_drop] at hc
    exact ⟨(a, b, c), ⟨_, _, (List.take_append_drop d.sz cs).symm, ha, ⟨_, _, (List.take_append_drop d1.sz (cs.drop d.sz)).symm, hb, hc⟩⟩, hp, hq, hr⟩⟩
theorem opens_iso (f : β → α) (g : α → β) (hfg : ∀ a, f (g a) = a) (h : Opens P t d p) : Opens P t (Kd.iso d f) (fun b => p (f b)) :=
  ⟨fun {H enc w base spare held fuel cs x} hh => by
    obtain ⟨a, ha, hp⟩ := h.out hh
    exact ⟨g a, show d.K w (f (g a)) cs by rw [hfg]; exact ha, by rw [hfg]; exact hp⟩⟩

section
variable {H : Type} {enc : TypeId × Value → H} {w : World} {base b0 : Nat} {r : Reach} {spare : Nat → Bool} {held : Bool} {v : Value} {dd : DataW H} {ps : List MemPlace}
theorem arg_struct {fs : Array Field} (hs : P.underlying t = some (.struct fs)) (ho : Opens P t d p) (hv : Value.okWide P w r b0 t v) (h : DataW.Trod enc P w base spare held t v dd ps) :
    ∃ (a : α) (cs : List Value), v = .agg cs.toArray ∧ d.K w a cs ∧ p a := by
  obtain ⟨cs, rfl, _⟩ := okWide_struct hs hv
  obtain ⟨fuel, hf⟩ := h
  obtain ⟨a, ha, hp⟩ := ho.out hf
  exact ⟨a, cs.toList, by simp, by simpa [Value.cells] using ha, hp⟩
theorem arg_slice (ht : P.underlying t = some (.slice e)) (ho : Opens P t (Kd.slice e d) q) (hv : Value.okWide P w r b0 t v) (h : DataW.Trod enc P w base spare held t v dd ps) :
    ∃ (xs : List α) (A : Option Addr) (c : Nat), v = .slice A xs.length c ∧ xs.length ≤ c ∧ d.C w A xs.length xs ∧ q xs := by
  obtain ⟨A, n, c, rfl⟩ := okWide_slice ht hv
  obtain ⟨fuel, hf⟩ := h
  obtain ⟨xs, ⟨A', c', he, hl, hC⟩, hp⟩ := ho.out hf
  simp only [Value.cells, List.cons.injEq, Value.slice.injEq, and_true] at he
  obtain ⟨rfl, rfl, rfl⟩ := he
  exact ⟨xs, A, c, rfl, hl, hC, hp⟩
end
end

/-! the types of this seat -/
set_option maxRecDepth 100000
def PValue (a : S23) : Prop := (Lit.int .i64 a.f0).wf = true ∧ (Lit.int .i64 a.f1).wf = true ∧ a.f2.size ≤ maxLen
theorem opens_Value : Opens Tryd.prog 23 k23 PValue :=
  opens_iso _ (fun a => ⟨a.1, a.2.1, a.2.2⟩) (fun _ => rfl) (opens_struct3 Tryd.underlying23 rfl rfl rfl (by kernel_rfl) (by kernel_rfl) (by kernel_rfl) (by kernel_rfl) (opens_int Tryd.underlying3) (opens_int Tryd.underlying3) (opens_string Tryd.underlying9))
def PColumn (a : S80) : Prop := a.f0.size ≤ maxLen ∧ (Lit.int .i64 a.f1).wf = true
theorem opens_Column : Opens Tryd.prog 80 k80 PColumn :=
  opens_iso _ (fun a => ⟨a.1, a.2⟩) (fun _ => rfl) (opens_struct2 Tryd.underlying80 rfl rfl (by kernel_rfl) (by kernel_rfl) (by kernel_rfl) (opens_string Tryd.underlying9) (opens_int Tryd.underlying3))
def PKey (a : S138) : Prop := (Lit.int .i64 a.f0).wf = true ∧ True ∧ True
theorem opens_Key : Opens Tryd.prog 138 k138 PKey :=
  opens_iso _ (fun a => ⟨a.1, a.2.1, a.2.2⟩) (fun _ => rfl) (opens_struct3 Tryd.underlying138 rfl rfl rfl (by kernel_rfl) (by kernel_rfl) (by kernel_rfl) (by kernel_rfl) (opens_int Tryd.underlying3) (opens_bool Tryd.underlying4) (opens_bool Tryd.underlying4))
def PRow (a : S50) : Prop := a.f0.length ≤ maxLen ∧ ∀ x ∈ a.f0, PValue x
theorem opens_Row : Opens Tryd.prog 50 k50 PRow :=
  opens_iso _ (fun a => ⟨a⟩) (fun _ => rfl) (opens_struct1 Tryd.underlying50 rfl (by kernel_rfl) (by kernel_rfl) (opens_slice Tryd.underlying48 (by kernel_rfl) opens_Value))
def PColumns (l : List S80) : Prop := l.length ≤ maxLen ∧ ∀ x ∈ l, PColumn x
theorem opens_Columns : Opens Tryd.prog 35 (Kd.slice 80 k80) PColumns := opens_slice Tryd.underlying35 (by kernel_rfl) opens_Column
def PKeys (l : List S138) : Prop := l.length ≤ maxLen ∧ ∀ x ∈ l, PKey x
theorem opens_Keys : Opens Tryd.prog 47 (Kd.slice 138 k138) PKeys := opens_slice Tryd.underlying47 (by kernel_rfl) opens_Key
def PRows (l : List S50) : Prop := l.length ≤ maxLen ∧ ∀ x ∈ l, PRow x
theorem opens_Rows : Opens Tryd.prog 36 (Kd.slice 50 k50) PRows := opens_slice Tryd.underlying36 (by kernel_rfl) opens_Row
def PTable (a : List S80 × List S50) : Prop := PColumns a.1 ∧ PRows a.2
theorem opens_Table : Opens Tryd.prog 38 (Kd.pair (Kd.slice 80 k80) (Kd.slice 50 k50)) PTable :=
  opens_struct2 Tryd.underlying38 rfl rfl (by kernel_rfl) (by kernel_rfl) (by kernel_rfl) opens_Columns opens_Rows

section
variable {H : Type} {enc : TypeId × Value → H} {w : World} {base b0 : Nat} {r : Reach} {spare : Nat → Bool} {held : Bool} {v : Value} {dd : DataW H} {ps : List MemPlace}
theorem arg_Value (hv : Value.okWide Tryd.prog w r b0 23 v) (h : DataW.Trod enc Tryd.prog w base spare held 23 v dd ps) :
    ∃ a : S23, v = .agg #[.int .i64 a.f0, .int .i64 a.f1, .string a.f2] ∧ PValue a := by
  obtain ⟨a, cs, rfl, hK, hp⟩ := arg_struct (P := Tryd.prog) Tryd.underlying23 opens_Value hv h
  obtain rfl := k23_open hK
  exact ⟨a, rfl, hp⟩
theorem arg_Row (hv : Value.okWide Tryd.prog w r b0 50 v) (h : DataW.Trod enc Tryd.prog w base spare held 50 v dd ps) :
    ∃ (xs : List S23) (A : Option Addr) (c : Nat), v = .agg #[.slice A xs.length c] ∧ xs.length ≤ c ∧ k23.C w A xs.length xs ∧ PRow ⟨xs⟩ := by
  obtain ⟨a, cs, rfl, hK, hp⟩ := arg_struct (P := Tryd.prog) Tryd.underlying50 opens_Row hv h
  obtain ⟨A, c, rfl, hl, hC⟩ := k50_open hK
  exact ⟨a.f0, A, c, rfl, hl, hC, hp⟩
theorem arg_Columns (hv : Value.okWide Tryd.prog w r b0 35 v) (h : DataW.Trod enc Tryd.prog w base spare held 35 v dd ps) :
    ∃ (xs : List S80) (A : Option Addr) (c : Nat), v = .slice A xs.length c ∧ xs.length ≤ c ∧ k80.C w A xs.length xs ∧ PColumns xs := arg_slice (P := Tryd.prog) Tryd.underlying35 opens_Columns hv h
theorem arg_Keys (hv : Value.okWide Tryd.prog w r b0 47 v) (h : DataW.Trod enc Tryd.prog w base spare held 47 v dd ps) :
    ∃ (xs : List S138) (A : Option Addr) (c : Nat), v = .slice A xs.length c ∧ xs.length ≤ c ∧ k138.C w A xs.length xs ∧ PKeys xs := arg_slice (P := Tryd.prog) Tryd.underlying47 opens_Keys hv h
theorem arg_Table (hv : Value.okWide Tryd.prog w r b0 38 v) (h : DataW.Trod enc Tryd.prog w base spare held 38 v dd ps) :
    ∃ (xs : List S80) (A : Option Addr) (c : Nat) (ys : List S50) (B : Option Addr) (d : Nat), v = .agg #[.slice A xs.length c, .slice B ys.length d] ∧ xs.length ≤ c ∧ k80.C w A xs.length xs ∧
      ys.length ≤ d ∧ k50.C w B ys.length ys ∧ PColumns xs ∧ PRows ys := by
  obtain ⟨a, cs, rfl, hK, hp⟩ := arg_struct (P := Tryd.prog) Tryd.underlying38 opens_Table hv h
  obtain ⟨_, _, rfl, ⟨A, c, rfl, hl, hC⟩, ⟨B, d, rfl, hl', hC'⟩⟩ := hK
  exact ⟨a.1, A, c, a.2, B, d, rfl, hl, hC, hl', hC', hp.1, hp.2⟩
end
end Go.Proofs.YtokphfhihhdfpaaDoor.Opn
