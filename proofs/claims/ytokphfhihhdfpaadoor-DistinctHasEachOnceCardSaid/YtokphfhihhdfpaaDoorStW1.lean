/- The stable sort's walks (swapRange, rotate, symMerge, stable of package slices) at elements of one cell: from a world of the sort's to a world of the sort's, whatever the comparison. Over every program that bears the bodies. -/
import Derived.Test.YtokphfhihhdfpaaDoorProg
import Derived.Test.YtokphfhihhdfpaaDoorStabC
import Derived.Shelf.SlSortCmp.Kit1
import Derived.Sort.WalkB2
import Derived.Sort.WalkB12
import Derived.Deep.LoopGhost
import Derived.Deep.DeepCutAuto
import Derived.Deep.CutBlock
namespace Go.Proofs.YtokphfhihhdfpaaDoor.StW1
open Go.Shelf Go.RowKit Go.Lib Go.Sort Go.Proofs Go.Proofs.YtokphfhihhdfpaaDoor.Stab
set_option linter.unusedVariables false
set_option linter.unusedSimpArgs false
variable {P : Program} {α : Type} [Inhabited α]
theorem bs1_spec_le (p : Nat → Bool) : ∀ a b, a ≤ b → a ≤ bs1 p a b ∧ bs1 p a b ≤ b := fun a b h => by
  have key : ∀ k i j, j - i ≤ k → i ≤ j → i ≤ bs1 p i j ∧ bs1 p i j ≤ j := by
    intro k
    induction k with
    | zero => intro i j h1 h2; rw [bs1, dif_neg (by omega)]; omega
    | succ k ih =>
      intro i j h1 h2
      rw [bs1]
      split
      · split
        · have := ih ((i + j) / 2 + 1) j (by omega) (by omega); omega
        · have := ih i ((i + j) / 2) (by omega) (by omega); omega
      · omega
  exact key _ a b (Nat.le_refl _) h
structure B1 (P : Program) : Prop where
  mixed : P.follows .mixedOrders = true
  fswa : P.funcs[197]? = some Tryd.f197
  frot : P.funcs[175]? = some Tryd.f175
  fsym : P.funcs[146]? = some Tryd.f146
  fsta : P.funcs[130]? = some Tryd.f130
  t0 : P.underlying 0 = some (TypeDesc.tuple #[])
  a0 : ∀ w, (isAgg 0).run P w = .ok false w
  z0 : ∀ w, (Go.sizeOf 0).run P w = .ok 1 w
  v0 : ∀ w, (zeroValue 0).run P w = .ok (Value.tuple #[]) w
  t3 : P.underlying 3 = some (TypeDesc.int IntKind.i64)
  a3 : ∀ w, (isAgg 3).run P w = .ok false w
  z3 : ∀ w, (Go.sizeOf 3).run P w = .ok 1 w
  v3 : ∀ w, (zeroValue 3).run P w = .ok (Value.int IntKind.i64 0) w
  t4 : P.underlying 4 = some (TypeDesc.bool)
  a4 : ∀ w, (isAgg 4).run P w = .ok false w
  z4 : ∀ w, (Go.sizeOf 4).run P w = .ok 1 w
  v4 : ∀ w, (zeroValue 4).run P w = .ok (Value.bool false) w
  tU : P.underlying 149 = some (TypeDesc.int IntKind.u64)
  aU : ∀ w, (isAgg 149).run P w = .ok false w
  zU : ∀ w, (Go.sizeOf 149).run P w = .ok 1 w
  vU : ∀ w, (zeroValue 149).run P w = .ok (Value.int IntKind.u64 0) w
  tS : P.underlying 101 = some (TypeDesc.slice 3)
  aS : ∀ w, (isAgg 101).run P w = .ok false w
  zS : ∀ w, (Go.sizeOf 101).run P w = .ok 1 w
  vS : ∀ w, (zeroValue 101).run P w = .ok (Value.slice none 0 0) w
  tF : P.underlying 90 = some (TypeDesc.func #[3, 3] #[3] false)
  aF : ∀ w, (isAgg 90).run P w = .ok false w
  zF : ∀ w, (Go.sizeOf 90).run P w = .ok 1 w
  vF : ∀ w, (zeroValue 90).run P w = .ok (Value.nilFunc) w
set_option maxHeartbeats 16000000 in
set_option maxRecDepth 1000000 in
theorem swapRange (L : B1 P) (enc : α → Value) (g : Nat) (cb : Array Value) (blk off cap a b n : Nat) (d0 d : Array α) (w0 w : World) (R : Row1 enc w0 blk off d0) (hs : d0.size = d.size) (S : SW enc w0 blk off d w) (ha : a + n ≤ d.size) (hb : b + n ≤ d.size) (hsz : d.size < 4611686018427387904) :
    Calls P 197 #[.slice (some ⟨blk, off, none⟩) d.size cap, .int .i64 a, .int .i64 b, .int .i64 n, .func (.func g) #[] cb] w fun e w' => e = .returned (.tuple #[]) ∧ SW enc w0 blk off (swapR a b n 0 d) w' := by
  have mixed := L.mixed
  have t0 := L.t0; have a0 := L.a0; have z0 := L.z0; have v0 := L.v0
  have t3 := L.t3; have a3 := L.a3; have z3 := L.z3; have v3 := L.v3
  have t4 := L.t4; have a4 := L.a4; have z4 := L.z4; have v4 := L.v4
  have tU := L.tU; have aU := L.aU; have zU := L.zU; have vU := L.vU
  have tS := L.tS; have aS := L.aS; have zS := L.zS; have vS := L.vS
  have tF := L.tF; have aF := L.aF; have zF := L.zF; have vF := L.vF
  have u0 := run_underlying L.t0
  have u3 := run_underlying L.t3
  have u4 := run_underlying L.t4
  have uU := run_underlying L.tU
  have uS := run_underlying L.tS
  have uF := run_underlying L.tF
  have hcl0 := R.hO.cells
  simp only [Value.cells] at hcl0
  have hst := R.hO.store P
  have FG := L.fswa
  have S0 : Aside (SW enc w0 blk off d w) := S
  clear S
  go_enter FG, Tryd.ntmps197
  go_wp2
  go_loopg [10] n (fun kx s5 wr => ∃ (i : Nat) (dk : Array α), s5 = .int .i64 i ∧ i ≤ n ∧ n - i ≤ kx ∧ dk.size = d.size ∧ Aside (SW enc w0 blk off dk wr) ∧ Hid (swapR a b n i dk = swapR a b n 0 d))
  case atStart => exact ⟨0, d, rfl, Nat.zero_le _, by omega, rfl, S0, rfl⟩
  case round =>
    clear S0
    obtain ⟨i, dk, rfl, hin, hkx, hds, S1, HE⟩ := hrel
    by_cases hlt : i < n
    · have hltz : (i : Int) < (n : Int) := by omega
      go_wp2_with fail
      obtain ⟨iN101, hiN101⟩ : ∃ z_, z_ = a + i := ⟨_, rfl⟩
      obtain ⟨jN101, hjN101⟩ : ∃ z_, z_ = b + i := ⟨_, rfl⟩
      have ea101 : ((a : Int) + (i : Int)).toNat = iN101 := by omega
      have pa101 : (0 : Int) ≤ (a : Int) + (i : Int) := by omega
      have ba101 : (a : Int) + (i : Int) < (d.size : Int) := by omega
      have ra101 : IntKind.i64.wrap ((a : Int) + (i : Int)) = (a : Int) + (i : Int) := by rw [IntKind.wrap_i64]; omega
      have ec101 : ((b : Int) + (i : Int)).toNat = jN101 := by omega
      have pc101 : (0 : Int) ≤ (b : Int) + (i : Int) := by omega
      have bc101 : (b : Int) + (i : Int) < (d.size : Int) := by omega
      have rc101 : IntKind.i64.wrap ((b : Int) + (i : Int)) = (b : Int) + (i : Int) := by rw [IntKind.wrap_i64]; omega
      obtain ⟨x101, hx101⟩ : ∃ x, x = dk[a + i]! := ⟨_, rfl⟩
      obtain ⟨y101, hy101⟩ : ∃ x, x = dk[b + i]! := ⟨_, rfl⟩
      have S2 : Aside (SW enc w0 blk off (swp dk (a + i) (b + i)) ((wr.setCell ⟨blk, off + iN101, none⟩ (enc y101)).setCell ⟨blk, off + jN101, none⟩ (enc x101)).drew) := by rw [hiN101, hjN101, hx101, hy101]; exact S1.out.swapped R (a + i) (b + i) (by omega) (by omega)
      have c101a := S1.out.c1 R (by omega) (a + i) (by omega)
      have c101b := S1.out.c1 R (by omega) (b + i) (by omega)
      have f101a := S1.out.f1 R (by omega) (a + i) (by omega)
      have f101b := S1.out.f1 R (by omega) (b + i) (by omega)
      obtain ⟨u101, c101c⟩ : ∃ u, (wr.setCell ⟨blk, off + iN101, none⟩ (enc y101)).cell? ⟨blk, off + jN101, none⟩ = some u := by rw [hiN101, hjN101]; exact S1.out.c2 R (by omega) (a + i) (b + i) (by omega) (by omega) (enc y101)
      rw [← hx101, ← hiN101] at c101a
      rw [← hy101, ← hjN101] at c101b
      rw [← hiN101] at f101a
      rw [← hjN101] at f101b
      clear S1 hx101 hy101 hiN101 hjN101
      go_wp2_with fail
      go_big_region_o
      clear c101a c101b c101c f101a f101b
      generalize ((wr.setCell ⟨blk, off + iN101, none⟩ (enc y101)).setCell ⟨blk, off + jN101, none⟩ (enc x101)).drew = w2 at S2 ⊢
      clear ea101 ec101
      clear pa101 ba101 ra101 pc101 bc101 rc101
      go_wp2
      go_roundg (n - (i + 1))
      case measure => omega
      case rel => exact ⟨i + 1, swp dk (a + i) (b + i), by go_num, by omega, Nat.le_refl _, by rw [size_swp]; exact hds, S2, (show Hid _ from by rw [← HE.out]; show _ = swapR a b n i dk; rw [swapR.eq_def a b n i, if_pos hlt])⟩
    · have hltz : ¬ (i : Int) < (n : Int) := by omega
      go_wp2
      go_end0
      refine ⟨rfl, ?_⟩
      have e := HE.out
      rw [swapR, if_neg hlt] at e
      rw [← e]
      exact S1.out
set_option maxHeartbeats 16000000 in
set_option maxRecDepth 1000000 in
theorem rotate (L : B1 P) (enc : α → Value) (g : Nat) (cb : Array Value) (blk off cap a m b : Nat) (d0 d : Array α) (w0 w : World) (R : Row1 enc w0 blk off d0) (hs : d0.size = d.size) (S : SW enc w0 blk off d w) (ham : a < m) (hmb : m < b) (hb : b ≤ d.size) (hsz : d.size < 4611686018427387904) :
    Calls P 175 #[.slice (some ⟨blk, off, none⟩) d.size cap, .int .i64 a, .int .i64 m, .int .i64 b, .func (.func g) #[] cb] w fun e w' => e = .returned (.tuple #[]) ∧ SW enc w0 blk off (rot a m b d) w' := by
  have mixed := L.mixed
  have t0 := L.t0; have a0 := L.a0; have z0 := L.z0; have v0 := L.v0
  have t3 := L.t3; have a3 := L.a3; have z3 := L.z3; have v3 := L.v3
  have t4 := L.t4; have a4 := L.a4; have z4 := L.z4; have v4 := L.v4
  have tU := L.tU; have aU := L.aU; have zU := L.zU; have vU := L.vU
  have tS := L.tS; have aS := L.aS; have zS := L.zS; have vS := L.vS
  have tF := L.tF; have aF := L.aF; have zF := L.zF; have vF := L.vF
  have u0 := run_underlying L.t0
  have u3 := run_underlying L.t3
  have u4 := run_underlying L.t4
  have uU := run_underlying L.tU
  have uS := run_underlying L.tS
  have uF := run_underlying L.tF
  have hcl0 := R.hO.cells
  simp only [Value.cells] at hcl0
  have hst := R.hO.store P
  have FG := L.frot
  have S0 : Aside (SW enc w0 blk off d w) := S
  clear S
  have eS : ∀ args w, (callFunc 197 args).run P w = .ok (.enter 197 args) w := enters_of L.fswa (by kernel_rfl) rfl
  have E1 : (m : Int) - (a : Int) = ((m - a : Nat) : Int) := by omega
  have E2 : (b : Int) - (m : Int) = ((b - m : Nat) : Int) := by omega
  obtain ⟨i0, hi0⟩ : ∃ q, q = m - a := ⟨_, rfl⟩
  obtain ⟨j0, hj0⟩ : ∃ q, q = b - m := ⟨_, rfl⟩
  rw [← hi0] at E1
  rw [← hj0] at E2
  have HR : Hid (rot a m b d = rotGo m i0 j0 d) := by show _ = _; rw [hi0, hj0]; rfl
  have b1 : 0 < i0 ∧ i0 ≤ m ∧ 0 < j0 ∧ m + j0 ≤ d.size := by omega
  obtain ⟨b1, b2, b3, b4⟩ := b1
  have w1 : IntKind.i64.wrap ((m : Int) - (a : Int)) = (i0 : Int) := by rw [IntKind.wrap_i64]; omega
  have w2 : IntKind.i64.wrap ((b : Int) - (m : Int)) = (j0 : Int) := by rw [IntKind.wrap_i64]; omega
  clear hi0 hj0
  go_enter FG, Tryd.ntmps175
  go_wp2
  go_loopg [10, 11] (i0 + j0) (fun kx s5 s6 wr => ∃ (i j : Nat) (dk : Array α), s5 = .int .i64 i ∧ s6 = .int .i64 j ∧ 0 < i ∧ 0 < j ∧ i ≤ m ∧ m + j ≤ d.size ∧ i + j ≤ kx ∧ dk.size = d.size ∧ Aside (SW enc w0 blk off dk wr) ∧ Hid (rotGo m i j dk = rotGo m i0 j0 d))
  case atStart => exact ⟨i0, j0, d, by first | rfl | (rw [E1]) | (simp [E1]), by first | rfl | (rw [E2]) | (simp [E2]), b1, b3, b2, b4, Nat.le_refl _, rfl, S0, rfl⟩
  case round =>
    clear S0 E1 E2 w1 w2
    obtain ⟨i, j, dk, rfl, rfl, hi, hj, him, hmj, hkx, hds, S1, HE⟩ := hrel
    obtain ⟨p, hp⟩ : ∃ q, q = m - i := ⟨_, rfl⟩
    have E1 : ((p : Nat) : Int) = (m : Int) - (i : Int) := by omega
    by_cases hij : i = j
    · have hz : (i : Int) = (j : Int) := by omega
      have hzb : ((i : Int) != (j : Int)) = false := by rw [hz]; simp
      have hzb2 : ((i : Int) == (j : Int)) = true := by rw [hz]; simp
      have hcall := swapRange L enc g cb blk off cap p m i d0 dk w0 wr R (by omega) S1.out (by omega) (by omega) (by omega)
      rw [hds, E1] at hcall
      clear S1
      have HZ : Hid (i = j) := hij
      clear hij hz
      go_wp2_with (go_at_fn 197; refine hcall.mono ?_; rintro e w1 ⟨rfl, S3⟩)
      go_end0
      refine ⟨rfl, ?_⟩
      have e := HE.out
      rw [rotGo, if_pos HZ.out] at e
      rw [HR.out, ← e, ← hp]
      exact S3
    · have hz : ¬ (i : Int) = (j : Int) := by omega
      have hzb : ((i : Int) != (j : Int)) = true := by rw [bne_iff_ne]; omega
      have hzb2 : ((i : Int) == (j : Int)) = false := by rw [beq_eq_false_iff_ne]; omega
      by_cases hji : j < i
      · have hjz : (j : Int) < (i : Int) := by omega
        have hcall := swapRange L enc g cb blk off cap p m j d0 dk w0 wr R (by omega) S1.out (by omega) (by omega) (by omega)
        rw [hds, E1] at hcall
        clear S1
        go_wp2_with (go_at_fn 197; refine hcall.mono ?_; rintro e w1 ⟨rfl, S3⟩)
        go_roundg (i - j + j)
        case measure => omega
        case rel => exact ⟨i - j, j, swapR p m j 0 dk, by first | rfl | (congr 1; omega), rfl, by omega, hj, by omega, hmj, by omega, by rw [swapR_size]; exact hds, S3, (show Hid _ from by rw [← HE.out]; show _ = rotGo m i j dk; rw [rotGo.eq_def m i j, if_neg hij, if_pos ⟨hj, hji⟩, hp])⟩
      · have hjz : ¬ (j : Int) < (i : Int) := by omega
        obtain ⟨q, hq⟩ : ∃ q, q = m + j - i := ⟨_, rfl⟩
        have E2 : ((q : Nat) : Int) = (m : Int) + (j : Int) - (i : Int) := by omega
        have hcall := swapRange L enc g cb blk off cap p q i d0 dk w0 wr R (by omega) S1.out (by omega) (by omega) (by omega)
        rw [hds, E1, E2] at hcall
        clear S1
        go_wp2_with (go_at_fn 197; refine hcall.mono ?_; rintro e w1 ⟨rfl, S3⟩)
        go_roundg (i + (j - i))
        case measure => omega
        case rel => exact ⟨i, j - i, swapR p q i 0 dk, rfl, by first | rfl | (congr 1; omega), hi, by omega, him, by omega, by omega, by rw [swapR_size]; exact hds, S3, (show Hid _ from by rw [← HE.out]; show _ = rotGo m i j dk; rw [rotGo.eq_def m i j, if_neg hij, if_neg (by omega), if_pos ⟨hi, by omega⟩, hp, hq])⟩
set_option maxHeartbeats 16000000 in
set_option maxRecDepth 1000000 in
theorem symA (L : B1 P) (enc : α → Value) (cf : α → α → Int) (g : Nat) (cb : Array Value) (blk off cap a m b : Nat) (d0 d : Array α) (w0 w : World) (eg : ∀ args w, (callFunc g args).run P w = .ok (.enter g args) w) (hcmp : CmpLays1 P g cb enc cf blk off d0.size w0) (R : Row1 enc w0 blk off d0) (hs : d0.size = d.size) (S : SW enc w0 blk off d w) (ham : a < m) (hmb : m < b) (hb : b ≤ d.size) (hsz : d.size < 1152921504606846976) (h1 : m = a + 1) :
    Calls P 146 #[.slice (some ⟨blk, off, none⟩) d.size cap, .int .i64 a, .int .i64 m, .int .i64 b, .func (.func g) #[] cb] w fun e w' => e = .returned (.tuple #[]) ∧ SW enc w0 blk off (symM (ltOf cf) a m b d) w' := by
  have mixed := L.mixed
  have t0 := L.t0; have a0 := L.a0; have z0 := L.z0; have v0 := L.v0
  have t3 := L.t3; have a3 := L.a3; have z3 := L.z3; have v3 := L.v3
  have t4 := L.t4; have a4 := L.a4; have z4 := L.z4; have v4 := L.v4
  have tU := L.tU; have aU := L.aU; have zU := L.zU; have vU := L.vU
  have tS := L.tS; have aS := L.aS; have zS := L.zS; have vS := L.vS
  have tF := L.tF; have aF := L.aF; have zF := L.zF; have vF := L.vF
  have u0 := run_underlying L.t0
  have u3 := run_underlying L.t3
  have u4 := run_underlying L.t4
  have uU := run_underlying L.tU
  have uS := run_underlying L.tS
  have uF := run_underlying L.tF
  have hcl0 := R.hO.cells
  simp only [Value.cells] at hcl0
  have hst := R.hO.store P
  have FG := L.fsym
  have HC : Aside _ := hcmp
  have S0 : Aside (SW enc w0 blk off d w) := S
  clear S hcmp
  have E0 : (m : Int) - (a : Int) = 1 := by omega
  have h1a : a + 1 ≤ m := by omega
  have h1b : m ≤ a + 1 := by omega
  clear h1
  go_enter FG, Tryd.ntmps146
  go_wp2
  go_loopg [10, 11] (b - m) (fun kx si sj wr => ∃ i j : Nat, si = .int .i64 i ∧ sj = .int .i64 j ∧ m ≤ i ∧ i ≤ j ∧ j ≤ b ∧ j - i ≤ kx ∧ Aside (SW enc w0 blk off d wr) ∧ Hid (bs1 (fun h => ltOf cf d[h]! d[a]!) i j = bs1 (fun h => ltOf cf d[h]! d[a]!) m b))
  case atStart => exact ⟨m, b, rfl, rfl, Nat.le_refl _, by omega, Nat.le_refl _, by omega, S0, rfl⟩
  case round =>
    clear S0
    obtain ⟨i, j, rfl, rfl, hil, hij, hjh, hkx, S1, HB⟩ := hrel
    by_cases hlt : i < j
    · have hltz : (i : Int) < (j : Int) := by omega
      obtain ⟨c, hc⟩ : ∃ c, c = (i + j) / 2 := ⟨_, rfl⟩
      have EC : ((i : Int) + (j : Int)) / 2 = (c : Int) := by omega
      have hci : i ≤ c := by omega
      have hcj : c < j := by omega
      have HCC : Hid (c = (i + j) / 2) := hc
      clear hc
      cases hlv : ltOf cf d[c]! d[a]! with
      | true =>
        go_wp2_with fail
        obtain ⟨iN103, hiN103⟩ : ∃ z_, z_ = c := ⟨_, rfl⟩
        obtain ⟨jN103, hjN103⟩ : ∃ z_, z_ = a := ⟨_, rfl⟩
        have ea103 : ((c : Int)).toNat = iN103 := by omega
        have pa103 : (0 : Int) ≤ (c : Int) := by omega
        have ba103 : (c : Int) < (d.size : Int) := by omega
        have ra103 : IntKind.i64.wrap ((c : Int)) = (c : Int) := by rw [IntKind.wrap_i64]; omega
        have ec103 : ((a : Int)).toNat = jN103 := by omega
        have pc103 : (0 : Int) ≤ (a : Int) := by omega
        have bc103 : (a : Int) < (d.size : Int) := by omega
        have rc103 : IntKind.i64.wrap ((a : Int)) = (a : Int) := by rw [IntKind.wrap_i64]; omega
        obtain ⟨x103, hx103⟩ : ∃ x, x = d[c]! := ⟨_, rfl⟩
        obtain ⟨y103, hy103⟩ : ∃ x, x = d[a]! := ⟨_, rfl⟩
        have l103a := S1.out.cl R (by omega) (c) (by omega)
        have l103b := S1.out.cl R (by omega) (a) (by omega)
        rw [← hx103, ← hiN103] at l103a
        rw [← hy103, ← hjN103] at l103b
        have hc103 := S1.out.cmp HC.out (by omega) x103 y103
        have hv103 : cf x103 y103 < 0 := by rw [hx103, hy103]; exact of_decide_eq_true hlv
        have hd103 : decide (cf x103 y103 < 0) = true := decide_eq_true hv103
        clear hx103 hy103 hiN103 hjN103
        go_wp2_with fail
        go_quiet_grown (first | (go_at_fn g; refine Calls.grown_of (hc103 _ _)))
        have S2 : Aside (SW enc w0 blk off d (grow (wr.drewN nq) osq)) := S1.out.grown nq osq
        clear l103a l103b hc103 S1
        generalize grow (wr.drewN nq) osq = w2 at S2 ⊢
        clear nq osq
        clear ea103 ec103
        clear pa103 ba103 ra103 pc103 bc103 rc103
        go_wp2
        go_roundg (j - (c + 1))
        case measure => omega
        case rel => exact ⟨c + 1, j, by go_num, rfl, by omega, by omega, by omega, Nat.le_refl _, S2, (show Hid _ from by rw [← HB.out]; show _ = bs1 _ i j; rw [bs1.eq_def _ i j, dif_pos hlt, ← HCC.out, if_pos (by simp [hlv])])⟩
      | false =>
        go_wp2_with fail
        obtain ⟨iN104, hiN104⟩ : ∃ z_, z_ = c := ⟨_, rfl⟩
        obtain ⟨jN104, hjN104⟩ : ∃ z_, z_ = a := ⟨_, rfl⟩
        have ea104 : ((c : Int)).toNat = iN104 := by omega
        have pa104 : (0 : Int) ≤ (c : Int) := by omega
        have ba104 : (c : Int) < (d.size : Int) := by omega
        have ra104 : IntKind.i64.wrap ((c : Int)) = (c : Int) := by rw [IntKind.wrap_i64]; omega
        have ec104 : ((a : Int)).toNat = jN104 := by omega
        have pc104 : (0 : Int) ≤ (a : Int) := by omega
        have bc104 : (a : Int) < (d.size : Int) := by omega
        have rc104 : IntKind.i64.wrap ((a : Int)) = (a : Int) := by rw [IntKind.wrap_i64]; omega
        obtain ⟨x104, hx104⟩ : ∃ x, x = d[c]! := ⟨_, rfl⟩
        obtain ⟨y104, hy104⟩ : ∃ x, x = d[a]! := ⟨_, rfl⟩
        have l104a := S1.out.cl R (by omega) (c) (by omega)
        have l104b := S1.out.cl R (by omega) (a) (by omega)
        rw [← hx104, ← hiN104] at l104a
        rw [← hy104, ← hjN104] at l104b
        have hc104 := S1.out.cmp HC.out (by omega) x104 y104
        have hv104 : ¬ cf x104 y104 < 0 := by rw [hx104, hy104]; exact of_decide_eq_false hlv
        have hd104 : decide (cf x104 y104 < 0) = false := decide_eq_false hv104
        clear hx104 hy104 hiN104 hjN104
        go_wp2_with fail
        go_quiet_grown (first | (go_at_fn g; refine Calls.grown_of (hc104 _ _)))
        have S2 : Aside (SW enc w0 blk off d (grow (wr.drewN nq) osq)) := S1.out.grown nq osq
        clear l104a l104b hc104 S1
        generalize grow (wr.drewN nq) osq = w2 at S2 ⊢
        clear nq osq
        clear ea104 ec104
        clear pa104 ba104 ra104 pc104 bc104 rc104
        go_wp2
        go_roundg (c - i)
        case measure => omega
        case rel => exact ⟨i, c, rfl, rfl, by omega, by omega, by omega, Nat.le_refl _, S2, (show Hid _ from by rw [← HB.out]; show _ = bs1 _ i j; rw [bs1.eq_def _ i j, dif_pos hlt, ← HCC.out, if_neg (by simp [hlv])])⟩
    · obtain rfl : i = j := by omega
      have hltz : ¬ (i : Int) < (i : Int) := by omega
      have HB2 : Hid (i = bs1 (fun h => ltOf cf d[h]! d[a]!) m b) := by show _ = _; rw [← HB.out, bs1.eq_def, dif_neg hlt]
      clear HB hij hkx
      obtain ⟨e, he⟩ : ∃ e, e + 1 = i := ⟨i - 1, by omega⟩
      have EE : (i : Int) - 1 = (e : Int) := by omega
      have hae : a ≤ e ∧ e < b := by omega
      obtain ⟨hae, heb⟩ := hae
      have HE0 : Hid (e = i - 1) := by show _ = _; omega
      clear he
      go_wp2_with fail
      go_loopg [13] (e - a) (fun kx sk wq => ∃ (q : Nat) (dk : Array α), sk = .int .i64 q ∧ a ≤ q ∧ q ≤ e ∧ e - q ≤ kx ∧ dk.size = d.size ∧ Aside (SW enc w0 blk off dk wq) ∧ Hid (shU e q dk = shU e a d))
      case atStart => exact ⟨a, d, rfl, Nat.le_refl _, hae, Nat.le_refl _, rfl, S1, rfl⟩
      case round =>
        clear S1
        obtain ⟨q, dk, rfl, haq, hqe, hkx2, hds, S3, HU⟩ := hrel
        by_cases hqlt : q < e
        · have hqz : (q : Int) < (e : Int) := by omega
          go_wp2_with fail
          obtain ⟨iN102, hiN102⟩ : ∃ z_, z_ = q := ⟨_, rfl⟩
          obtain ⟨jN102, hjN102⟩ : ∃ z_, z_ = q + 1 := ⟨_, rfl⟩
          have ea102 : ((q : Int)).toNat = iN102 := by omega
          have pa102 : (0 : Int) ≤ (q : Int) := by omega
          have ba102 : (q : Int) < (d.size : Int) := by omega
          have ra102 : IntKind.i64.wrap ((q : Int)) = (q : Int) := by rw [IntKind.wrap_i64]; omega
          have ec102 : ((q : Int) + 1).toNat = jN102 := by omega
          have pc102 : (0 : Int) ≤ (q : Int) + 1 := by omega
          have bc102 : (q : Int) + 1 < (d.size : Int) := by omega
          have rc102 : IntKind.i64.wrap ((q : Int) + 1) = (q : Int) + 1 := by rw [IntKind.wrap_i64]; omega
          obtain ⟨x102, hx102⟩ : ∃ x, x = dk[q]! := ⟨_, rfl⟩
          obtain ⟨y102, hy102⟩ : ∃ x, x = dk[q + 1]! := ⟨_, rfl⟩
          have S4 : Aside (SW enc w0 blk off (swp dk (q) (q + 1)) ((wr.setCell ⟨blk, off + iN102, none⟩ (enc y102)).setCell ⟨blk, off + jN102, none⟩ (enc x102)).drew) := by rw [hiN102, hjN102, hx102, hy102]; exact S3.out.swapped R (q) (q + 1) (by omega) (by omega)
          have c102a := S3.out.c1 R (by omega) (q) (by omega)
          have c102b := S3.out.c1 R (by omega) (q + 1) (by omega)
          have f102a := S3.out.f1 R (by omega) (q) (by omega)
          have f102b := S3.out.f1 R (by omega) (q + 1) (by omega)
          obtain ⟨u102, c102c⟩ : ∃ u, (wr.setCell ⟨blk, off + iN102, none⟩ (enc y102)).cell? ⟨blk, off + jN102, none⟩ = some u := by rw [hiN102, hjN102]; exact S3.out.c2 R (by omega) (q) (q + 1) (by omega) (by omega) (enc y102)
          rw [← hx102, ← hiN102] at c102a
          rw [← hy102, ← hjN102] at c102b
          rw [← hiN102] at f102a
          rw [← hjN102] at f102b
          clear S3 hx102 hy102 hiN102 hjN102
          go_wp2_with fail
          go_big_region_o
          clear c102a c102b c102c f102a f102b
          generalize ((wr.setCell ⟨blk, off + iN102, none⟩ (enc y102)).setCell ⟨blk, off + jN102, none⟩ (enc x102)).drew = w4 at S4 ⊢
          clear ea102 ec102
          clear pa102 ba102 ra102 pc102 bc102 rc102
          go_wp2
          go_roundg (e - (q + 1))
          case measure => omega
          case rel => exact ⟨q + 1, swp dk q (q + 1), by go_num, by omega, by omega, Nat.le_refl _, by rw [size_swp]; exact hds, S4, (show Hid _ from by rw [← HU.out]; show _ = shU e q dk; rw [shU.eq_def e q, if_pos hqlt])⟩
        · have hqz : ¬ (q : Int) < (e : Int) := by omega
          go_wp2
          (try simp only [Exit.inBlock, Exit.then]); refine bodyPost_ret (results_none rfl _ _ _) rfl ?_
          refine ⟨rfl, ?_⟩
          have x := HU.out
          rw [shU, if_neg hqlt] at x
          rw [symM, if_pos (by omega), ← HB2.out, ← HE0.out, ← x]
          exact S3.out
set_option maxHeartbeats 16000000 in
set_option maxRecDepth 1000000 in
theorem symB (L : B1 P) (enc : α → Value) (cf : α → α → Int) (g : Nat) (cb : Array Value) (blk off cap a m b : Nat) (d0 d : Array α) (w0 w : World) (eg : ∀ args w, (callFunc g args).run P w = .ok (.enter g args) w) (hcmp : CmpLays1 P g cb enc cf blk off d0.size w0) (R : Row1 enc w0 blk off d0) (hs : d0.size = d.size) (S : SW enc w0 blk off d w) (ham : a < m) (hmb : m < b) (hb : b ≤ d.size) (hsz : d.size < 1152921504606846976) (h1 : ¬ m - a = 1) (h2 : b - m = 1) :
    Calls P 146 #[.slice (some ⟨blk, off, none⟩) d.size cap, .int .i64 a, .int .i64 m, .int .i64 b, .func (.func g) #[] cb] w fun e w' => e = .returned (.tuple #[]) ∧ SW enc w0 blk off (symM (ltOf cf) a m b d) w' := by
  have mixed := L.mixed
  have t0 := L.t0; have a0 := L.a0; have z0 := L.z0; have v0 := L.v0
  have t3 := L.t3; have a3 := L.a3; have z3 := L.z3; have v3 := L.v3
  have t4 := L.t4; have a4 := L.a4; have z4 := L.z4; have v4 := L.v4
  have tU := L.tU; have aU := L.aU; have zU := L.zU; have vU := L.vU
  have tS := L.tS; have aS := L.aS; have zS := L.zS; have vS := L.vS
  have tF := L.tF; have aF := L.aF; have zF := L.zF; have vF := L.vF
  have u0 := run_underlying L.t0
  have u3 := run_underlying L.t3
  have u4 := run_underlying L.t4
  have uU := run_underlying L.tU
  have uS := run_underlying L.tS
  have uF := run_underlying L.tF
  have hcl0 := R.hO.cells
  simp only [Value.cells] at hcl0
  have hst := R.hO.store P
  have FG := L.fsym
  have HC : Aside _ := hcmp
  have S0 : Aside (SW enc w0 blk off d w) := S
  clear S hcmp
  have E0 : ((m : Int) - (a : Int) == 1) = false := by rw [beq_eq_false_iff_ne]; omega
  have E1 : (b : Int) - (m : Int) = 1 := by omega
  have H1 : Aside (¬ m - a = 1) := h1
  have H2 : Hid (b - m = 1) := h2
  have h2a : m + 1 ≤ b := by omega
  have h2b : b ≤ m + 1 := by omega
  clear h1 h2
  go_enter FG, Tryd.ntmps146
  go_wp2
  go_loopg [14, 15] (m - a) (fun kx si sj wr => ∃ i j : Nat, si = .int .i64 i ∧ sj = .int .i64 j ∧ a ≤ i ∧ i ≤ j ∧ j ≤ m ∧ j - i ≤ kx ∧ Aside (SW enc w0 blk off d wr) ∧ Hid (bs1 (fun h => !ltOf cf d[m]! d[h]!) i j = bs1 (fun h => !ltOf cf d[m]! d[h]!) a m))
  case atStart => exact ⟨a, m, rfl, rfl, Nat.le_refl _, by omega, Nat.le_refl _, by omega, S0, rfl⟩
  case round =>
    clear S0
    obtain ⟨i, j, rfl, rfl, hil, hij, hjh, hkx, S1, HB⟩ := hrel
    by_cases hlt : i < j
    · have hltz : (i : Int) < (j : Int) := by omega
      obtain ⟨c, hc⟩ : ∃ c, c = (i + j) / 2 := ⟨_, rfl⟩
      have EC : ((i : Int) + (j : Int)) / 2 = (c : Int) := by omega
      have hci : i ≤ c := by omega
      have hcj : c < j := by omega
      have HCC : Hid (c = (i + j) / 2) := hc
      clear hc
      cases hlv : ltOf cf d[m]! d[c]! with
      | true =>
        go_wp2_with fail
        obtain ⟨iN106, hiN106⟩ : ∃ z_, z_ = m := ⟨_, rfl⟩
        obtain ⟨jN106, hjN106⟩ : ∃ z_, z_ = c := ⟨_, rfl⟩
        have ea106 : ((m : Int)).toNat = iN106 := by omega
        have pa106 : (0 : Int) ≤ (m : Int) := by omega
        have ba106 : (m : Int) < (d.size : Int) := by omega
        have ra106 : IntKind.i64.wrap ((m : Int)) = (m : Int) := by rw [IntKind.wrap_i64]; omega
        have ec106 : ((c : Int)).toNat = jN106 := by omega
        have pc106 : (0 : Int) ≤ (c : Int) := by omega
        have bc106 : (c : Int) < (d.size : Int) := by omega
        have rc106 : IntKind.i64.wrap ((c : Int)) = (c : Int) := by rw [IntKind.wrap_i64]; omega
        obtain ⟨x106, hx106⟩ : ∃ x, x = d[m]! := ⟨_, rfl⟩
        obtain ⟨y106, hy106⟩ : ∃ x, x = d[c]! := ⟨_, rfl⟩
        have l106a := S1.out.cl R (by omega) (m) (by omega)
        have l106b := S1.out.cl R (by omega) (c) (by omega)
        rw [← hx106, ← hiN106] at l106a
        rw [← hy106, ← hjN106] at l106b
        have hc106 := S1.out.cmp HC.out (by omega) x106 y106
        have hv106 : cf x106 y106 < 0 := by rw [hx106, hy106]; exact of_decide_eq_true hlv
        have hd106 : decide (cf x106 y106 < 0) = true := decide_eq_true hv106
        clear hx106 hy106 hiN106 hjN106
        go_wp2_with fail
        go_quiet_grown (first | (go_at_fn g; refine Calls.grown_of (hc106 _ _)))
        have S2 : Aside (SW enc w0 blk off d (grow (wr.drewN nq) osq)) := S1.out.grown nq osq
        clear l106a l106b hc106 S1
        generalize grow (wr.drewN nq) osq = w2 at S2 ⊢
        clear nq osq
        clear ea106 ec106
        clear pa106 ba106 ra106 pc106 bc106 rc106
        go_wp2
        go_roundg (c - i)
        case measure => omega
        case rel => exact ⟨i, c, rfl, rfl, by omega, by omega, by omega, Nat.le_refl _, S2, (show Hid _ from by rw [← HB.out]; show _ = bs1 _ i j; rw [bs1.eq_def _ i j, dif_pos hlt, ← HCC.out, if_neg (by simp [hlv])])⟩
      | false =>
        go_wp2_with fail
        obtain ⟨iN107, hiN107⟩ : ∃ z_, z_ = m := ⟨_, rfl⟩
        obtain ⟨jN107, hjN107⟩ : ∃ z_, z_ = c := ⟨_, rfl⟩
        have ea107 : ((m : Int)).toNat = iN107 := by omega
        have pa107 : (0 : Int) ≤ (m : Int) := by omega
        have ba107 : (m : Int) < (d.size : Int) := by omega
        have ra107 : IntKind.i64.wrap ((m : Int)) = (m : Int) := by rw [IntKind.wrap_i64]; omega
        have ec107 : ((c : Int)).toNat = jN107 := by omega
        have pc107 : (0 : Int) ≤ (c : Int) := by omega
        have bc107 : (c : Int) < (d.size : Int) := by omega
        have rc107 : IntKind.i64.wrap ((c : Int)) = (c : Int) := by rw [IntKind.wrap_i64]; omega
        obtain ⟨x107, hx107⟩ : ∃ x, x = d[m]! := ⟨_, rfl⟩
        obtain ⟨y107, hy107⟩ : ∃ x, x = d[c]! := ⟨_, rfl⟩
        have l107a := S1.out.cl R (by omega) (m) (by omega)
        have l107b := S1.out.cl R (by omega) (c) (by omega)
        rw [← hx107, ← hiN107] at l107a
        rw [← hy107, ← hjN107] at l107b
        have hc107 := S1.out.cmp HC.out (by omega) x107 y107
        have hv107 : ¬ cf x107 y107 < 0 := by rw [hx107, hy107]; exact of_decide_eq_false hlv
        have hd107 : decide (cf x107 y107 < 0) = false := decide_eq_false hv107
        clear hx107 hy107 hiN107 hjN107
        go_wp2_with fail
        go_quiet_grown (first | (go_at_fn g; refine Calls.grown_of (hc107 _ _)))
        have S2 : Aside (SW enc w0 blk off d (grow (wr.drewN nq) osq)) := S1.out.grown nq osq
        clear l107a l107b hc107 S1
        generalize grow (wr.drewN nq) osq = w2 at S2 ⊢
        clear nq osq
        clear ea107 ec107
        clear pa107 ba107 ra107 pc107 bc107 rc107
        go_wp2
        go_roundg (j - (c + 1))
        case measure => omega
        case rel => exact ⟨c + 1, j, by go_num, rfl, by omega, by omega, by omega, Nat.le_refl _, S2, (show Hid _ from by rw [← HB.out]; show _ = bs1 _ i j; rw [bs1.eq_def _ i j, dif_pos hlt, ← HCC.out, if_pos (by simp [hlv])])⟩
    · obtain rfl : i = j := by omega
      have hltz : ¬ (i : Int) < (i : Int) := by omega
      have HB2 : Hid (i = bs1 (fun h => !ltOf cf d[m]! d[h]!) a m) := by show _ = _; rw [← HB.out, bs1.eq_def, dif_neg hlt]
      clear HB hij hkx
      have hib : i ≤ m := by have := HB2.out; have := (bs1_spec_le (fun h => !ltOf cf d[m]! d[h]!) a m (by omega)); omega
      go_wp2_with fail
      go_loopg [17] (m - i) (fun kx sk wq => ∃ (q : Nat) (dk : Array α), sk = .int .i64 q ∧ i ≤ q ∧ q ≤ m ∧ q - i ≤ kx ∧ dk.size = d.size ∧ Aside (SW enc w0 blk off dk wq) ∧ Hid (shD i q dk = shD i m d))
      case atStart => exact ⟨m, d, rfl, hib, Nat.le_refl _, Nat.le_refl _, rfl, S1, rfl⟩
      case round =>
        clear S1
        obtain ⟨q, dk, rfl, hiq, hqm, hkx2, hds, S3, HU⟩ := hrel
        by_cases hqlt : i < q
        · have hqz : (i : Int) < (q : Int) := by omega
          obtain ⟨qp, rfl⟩ : ∃ x, q = x + 1 := ⟨q - 1, by omega⟩
          have hqz2 : (i : Int) < (qp : Int) + 1 := by omega
          clear hqz
          go_wp2_with fail
          obtain ⟨iN105, hiN105⟩ : ∃ z_, z_ = qp + 1 := ⟨_, rfl⟩
          obtain ⟨jN105, hjN105⟩ : ∃ z_, z_ = qp := ⟨_, rfl⟩
          have ea105 : ((qp : Int) + 1).toNat = iN105 := by omega
          have pa105 : (0 : Int) ≤ (qp : Int) + 1 := by omega
          have ba105 : (qp : Int) + 1 < (d.size : Int) := by omega
          have ra105 : IntKind.i64.wrap ((qp : Int) + 1) = (qp : Int) + 1 := by rw [IntKind.wrap_i64]; omega
          have ec105 : ((qp : Int)).toNat = jN105 := by omega
          have pc105 : (0 : Int) ≤ (qp : Int) := by omega
          have bc105 : (qp : Int) < (d.size : Int) := by omega
          have rc105 : IntKind.i64.wrap ((qp : Int)) = (qp : Int) := by rw [IntKind.wrap_i64]; omega
          obtain ⟨x105, hx105⟩ : ∃ x, x = dk[qp + 1]! := ⟨_, rfl⟩
          obtain ⟨y105, hy105⟩ : ∃ x, x = dk[qp]! := ⟨_, rfl⟩
          have S4 : Aside (SW enc w0 blk off (swp dk (qp + 1) (qp)) ((wr.setCell ⟨blk, off + iN105, none⟩ (enc y105)).setCell ⟨blk, off + jN105, none⟩ (enc x105)).drew) := by rw [hiN105, hjN105, hx105, hy105]; exact S3.out.swapped R (qp + 1) (qp) (by omega) (by omega)
          have c105a := S3.out.c1 R (by omega) (qp + 1) (by omega)
          have c105b := S3.out.c1 R (by omega) (qp) (by omega)
          have f105a := S3.out.f1 R (by omega) (qp + 1) (by omega)
          have f105b := S3.out.f1 R (by omega) (qp) (by omega)
          obtain ⟨u105, c105c⟩ : ∃ u, (wr.setCell ⟨blk, off + iN105, none⟩ (enc y105)).cell? ⟨blk, off + jN105, none⟩ = some u := by rw [hiN105, hjN105]; exact S3.out.c2 R (by omega) (qp + 1) (qp) (by omega) (by omega) (enc y105)
          rw [← hx105, ← hiN105] at c105a
          rw [← hy105, ← hjN105] at c105b
          rw [← hiN105] at f105a
          rw [← hjN105] at f105b
          clear S3 hx105 hy105 hiN105 hjN105
          go_wp2_with fail
          go_big_region_o
          clear c105a c105b c105c f105a f105b
          generalize ((wr.setCell ⟨blk, off + iN105, none⟩ (enc y105)).setCell ⟨blk, off + jN105, none⟩ (enc x105)).drew = w4 at S4 ⊢
          clear ea105 ec105
          clear pa105 ba105 ra105 pc105 bc105 rc105
          go_wp2
          go_roundg (qp - i)
          case measure => omega
          case rel => exact ⟨qp, swp dk (qp + 1) qp, by first | rfl | go_num | (congr 1; omega), by omega, by omega, Nat.le_refl _, by rw [size_swp]; exact hds, S4, (show Hid _ from by rw [← HU.out]; show _ = shD i (qp + 1) dk; rw [shD, if_pos hqlt])⟩
        · have hqz : ¬ (i : Int) < (q : Int) := by omega
          go_wp2
          (try simp only [Exit.inBlock, Exit.then]); refine bodyPost_ret (results_none rfl _ _ _) rfl ?_
          refine ⟨rfl, ?_⟩
          have x : shD i q dk = dk := by cases q with | zero => rfl | succ q => rw [shD, if_neg hqlt]
          rw [symM, if_neg H1.out, if_pos H2.out, ← HB2.out, ← HU.out, x]
          exact S3.out
set_option maxHeartbeats 16000000 in
set_option maxRecDepth 1000000 in
theorem symC (L : B1 P) (enc : α → Value) (cf : α → α → Int) (g : Nat) (cb : Array Value) (blk off cap a m b : Nat) (d0 d : Array α) (w0 w : World) (eg : ∀ args w, (callFunc g args).run P w = .ok (.enter g args) w) (hcmp : CmpLays1 P g cb enc cf blk off d0.size w0) (R : Row1 enc w0 blk off d0) (hs : d0.size = d.size) (S : SW enc w0 blk off d w) (ham : a < m) (hmb : m < b) (hb : b ≤ d.size) (hsz : d.size < 1152921504606846976) (h1 : ¬ m - a = 1) (h2 : ¬ b - m = 1) (IH : ∀ (a' m' b' : Nat) (d' : Array α) (w' : World), b' - a' < b - a → d'.size = d.size → SW enc w0 blk off d' w' → a' < m' → m' < b' → b' ≤ d.size → Calls P 146 #[.slice (some ⟨blk, off, none⟩) d.size cap, .int .i64 a', .int .i64 m', .int .i64 b', .func (.func g) #[] cb] w' fun e w2 => e = .returned (.tuple #[]) ∧ SW enc w0 blk off (symM (ltOf cf) a' m' b' d') w2) :
    Calls P 146 #[.slice (some ⟨blk, off, none⟩) d.size cap, .int .i64 a, .int .i64 m, .int .i64 b, .func (.func g) #[] cb] w fun e w' => e = .returned (.tuple #[]) ∧ SW enc w0 blk off (symM (ltOf cf) a m b d) w' := by
  have mixed := L.mixed
  have t0 := L.t0; have a0 := L.a0; have z0 := L.z0; have v0 := L.v0
  have t3 := L.t3; have a3 := L.a3; have z3 := L.z3; have v3 := L.v3
  have t4 := L.t4; have a4 := L.a4; have z4 := L.z4; have v4 := L.v4
  have tU := L.tU; have aU := L.aU; have zU := L.zU; have vU := L.vU
  have tS := L.tS; have aS := L.aS; have zS := L.zS; have vS := L.vS
  have tF := L.tF; have aF := L.aF; have zF := L.zF; have vF := L.vF
  have u0 := run_underlying L.t0
  have u3 := run_underlying L.t3
  have u4 := run_underlying L.t4
  have uU := run_underlying L.tU
  have uS := run_underlying L.tS
  have uF := run_underlying L.tF
  have hcl0 := R.hO.cells
  simp only [Value.cells] at hcl0
  have hst := R.hO.store P
  have FG := L.fsym
  have HC : Aside _ := hcmp
  have S0 : Aside (SW enc w0 blk off d w) := S
  clear S hcmp
  have IHA : Aside _ := IH
  clear IH
  have E0 : ((m : Int) - (a : Int) == 1) = false := by rw [beq_eq_false_iff_ne]; omega
  have E1 : ((b : Int) - (m : Int) == 1) = false := by rw [beq_eq_false_iff_ne]; omega
  have H1 : Aside (¬ m - a = 1) := h1
  have H2 : Aside (¬ b - m = 1) := h2
  have k1 : a + 2 ≤ m := by omega
  have k2 : m + 2 ≤ b := by omega
  clear h1 h2
  have eR : ∀ args w, (callFunc 175 args).run P w = .ok (.enter 175 args) w := enters_of L.frot (by kernel_rfl) rfl
  have eM : ∀ args w, (callFunc 146 args).run P w = .ok (.enter 146 args) w := enters_of L.fsym (by kernel_rfl) rfl
  obtain ⟨M, hM⟩ : ∃ z_, z_ = (a + b) / 2 := ⟨_, rfl⟩
  have EM : ((a : Int) + (b : Int)) / 2 = (M : Int) := by omega
  have hMa : a < M := by omega
  have hMb : M < b := by omega
  have hM1 : 2 * M ≤ a + b := by omega
  have hM2 : a + b ≤ 2 * M + 1 := by omega
  have HM : Hid (M = (a + b) / 2) := hM
  clear hM
  obtain ⟨p, hp⟩ : ∃ z_, z_ + 1 = M + m := ⟨M + m - 1, by omega⟩
  have EP : (M : Int) + (m : Int) - 1 = (p : Int) := by omega
  have hp1 : p + 1 ≤ M + m := by omega
  have hp2 : M + m ≤ p + 1 := by omega
  clear hp
  by_cases hm : M < m
  · have hmz : (M : Int) < (m : Int) := by omega
    obtain ⟨L0, hL0⟩ : ∃ z_, z_ = M + m - b := ⟨_, rfl⟩
    have EB : (M : Int) + (m : Int) - (b : Int) = (L0 : Int) := by omega
    have hL1 : L0 + b ≤ M + m := by omega
    have hL2 : M + m ≤ L0 + b := by omega
    have HL : Hid (L0 = M + m - b) := hL0
    clear hL0
    go_enter FG, Tryd.ntmps146
    go_wp2
    go_loopg [20, 21] (M - (L0)) (fun kx si sj wq => ∃ i j : Nat, si = .int .i64 i ∧ sj = .int .i64 j ∧ L0 ≤ i ∧ i ≤ j ∧ j ≤ M ∧ j - i ≤ kx ∧ Aside (SW enc w0 blk off d wq) ∧ Hid (bs1 (fun c => !ltOf cf d[M + m - 1 - c]! d[c]!) i j = bs1 (fun c => !ltOf cf d[M + m - 1 - c]! d[c]!) (L0) (M)))
    case atStart => exact ⟨L0, M, by first | rfl | go_num | (congr 1; omega), rfl, by omega, by omega, Nat.le_refl _, by omega, S0, rfl⟩
    case round =>
      clear S0
      obtain ⟨i, j, rfl, rfl, hil, hij, hjh, hkx, S1, HB⟩ := hrel
      by_cases hlt : i < j
      · have hltz : (i : Int) < (j : Int) := by omega
        obtain ⟨c, hc⟩ : ∃ c, c = (i + j) / 2 := ⟨_, rfl⟩
        have EC : ((i : Int) + (j : Int)) / 2 = (c : Int) := by omega
        have hci : i ≤ c := by omega
        have hcj : c < j := by omega
        have HCC : Hid (c = (i + j) / 2) := hc
        clear hc
        have hq1 : c ≤ p ∧ p - c < d.size := by omega
        obtain ⟨hq1, hq2⟩ := hq1
        have HPC : Hid (M + m - 1 - c = p - c) := by show _ = _; omega
        cases hlv : ltOf cf d[p - c]! d[c]! with
        | true =>
          go_wp2_with fail
          obtain ⟨iN108, hiN108⟩ : ∃ z_, z_ = p - c := ⟨_, rfl⟩
          obtain ⟨jN108, hjN108⟩ : ∃ z_, z_ = c := ⟨_, rfl⟩
          have ea108 : ((p : Int) - (c : Int)).toNat = iN108 := by omega
          have pa108 : (0 : Int) ≤ (p : Int) - (c : Int) := by omega
          have ba108 : (p : Int) - (c : Int) < (d.size : Int) := by omega
          have ra108 : IntKind.i64.wrap ((p : Int) - (c : Int)) = (p : Int) - (c : Int) := by rw [IntKind.wrap_i64]; omega
          have ec108 : ((c : Int)).toNat = jN108 := by omega
          have pc108 : (0 : Int) ≤ (c : Int) := by omega
          have bc108 : (c : Int) < (d.size : Int) := by omega
          have rc108 : IntKind.i64.wrap ((c : Int)) = (c : Int) := by rw [IntKind.wrap_i64]; omega
          obtain ⟨x108, hx108⟩ : ∃ x, x = d[p - c]! := ⟨_, rfl⟩
          obtain ⟨y108, hy108⟩ : ∃ x, x = d[c]! := ⟨_, rfl⟩
          have l108a := S1.out.cl R (by omega) (p - c) (by omega)
          have l108b := S1.out.cl R (by omega) (c) (by omega)
          rw [← hx108, ← hiN108] at l108a
          rw [← hy108, ← hjN108] at l108b
          have hc108 := S1.out.cmp HC.out (by omega) x108 y108
          have hv108 : cf x108 y108 < 0 := by rw [hx108, hy108]; exact of_decide_eq_true hlv
          have hd108 : decide (cf x108 y108 < 0) = true := decide_eq_true hv108
          clear hx108 hy108 hiN108 hjN108
          go_wp2_with fail
          go_quiet_grown (first | (go_at_fn g; refine Calls.grown_of (hc108 _ _)))
          have S2 : Aside (SW enc w0 blk off d (grow (wr.drewN nq) osq)) := S1.out.grown nq osq
          clear l108a l108b hc108 S1
          generalize grow (wr.drewN nq) osq = w2 at S2 ⊢
          clear nq osq
          clear ea108 ec108
          clear pa108 ba108 ra108 pc108 bc108 rc108
          go_wp2
          go_roundg (c - i)
          case measure => omega
          case rel => exact ⟨i, c, rfl, rfl, by omega, by omega, by omega, Nat.le_refl _, S2, (show Hid _ from by rw [← HB.out]; show _ = bs1 _ i j; rw [bs1.eq_def _ i j, dif_pos hlt, ← HCC.out, if_neg (by rw [HPC.out]; simp [hlv])])⟩
        | false =>
          go_wp2_with fail
          obtain ⟨iN109, hiN109⟩ : ∃ z_, z_ = p - c := ⟨_, rfl⟩
          obtain ⟨jN109, hjN109⟩ : ∃ z_, z_ = c := ⟨_, rfl⟩
          have ea109 : ((p : Int) - (c : Int)).toNat = iN109 := by omega
          have pa109 : (0 : Int) ≤ (p : Int) - (c : Int) := by omega
          have ba109 : (p : Int) - (c : Int) < (d.size : Int) := by omega
          have ra109 : IntKind.i64.wrap ((p : Int) - (c : Int)) = (p : Int) - (c : Int) := by rw [IntKind.wrap_i64]; omega
          have ec109 : ((c : Int)).toNat = jN109 := by omega
          have pc109 : (0 : Int) ≤ (c : Int) := by omega
          have bc109 : (c : Int) < (d.size : Int) := by omega
          have rc109 : IntKind.i64.wrap ((c : Int)) = (c : Int) := by rw [IntKind.wrap_i64]; omega
          obtain ⟨x109, hx109⟩ : ∃ x, x = d[p - c]! := ⟨_, rfl⟩
          obtain ⟨y109, hy109⟩ : ∃ x, x = d[c]! := ⟨_, rfl⟩
          have l109a := S1.out.cl R (by omega) (p - c) (by omega)
          have l109b := S1.out.cl R (by omega) (c) (by omega)
          rw [← hx109, ← hiN109] at l109a
          rw [← hy109, ← hjN109] at l109b
          have hc109 := S1.out.cmp HC.out (by omega) x109 y109
          have hv109 : ¬ cf x109 y109 < 0 := by rw [hx109, hy109]; exact of_decide_eq_false hlv
          have hd109 : decide (cf x109 y109 < 0) = false := decide_eq_false hv109
          clear hx109 hy109 hiN109 hjN109
          go_wp2_with fail
          go_quiet_grown (first | (go_at_fn g; refine Calls.grown_of (hc109 _ _)))
          have S2 : Aside (SW enc w0 blk off d (grow (wr.drewN nq) osq)) := S1.out.grown nq osq
          clear l109a l109b hc109 S1
          generalize grow (wr.drewN nq) osq = w2 at S2 ⊢
          clear nq osq
          clear ea109 ec109
          clear pa109 ba109 ra109 pc109 bc109 rc109
          go_wp2
          go_roundg (j - (c + 1))
          case measure => omega
          case rel => exact ⟨c + 1, j, by go_num, rfl, by omega, by omega, by omega, Nat.le_refl _, S2, (show Hid _ from by rw [← HB.out]; show _ = bs1 _ i j; rw [bs1.eq_def _ i j, dif_pos hlt, ← HCC.out, if_pos (by rw [HPC.out]; simp [hlv])])⟩
      · have hltz : ¬ (i : Int) < (j : Int) := by omega
        have HS : Hid (mid3 (ltOf cf) a m b d = i) := by
          show _ = _
          have x := HB.out
          rw [bs1.eq_def _ i, dif_neg hlt] at x
          rw [x]
          unfold mid3
          rw [← HM.out]
          rw [if_pos (by omega), if_pos (by omega), ← HL.out]
        clear HB
        obtain ⟨e, he⟩ : ∃ z_, z_ = M + m - i := ⟨_, rfl⟩
        have EE : (M : Int) + (m : Int) - (i : Int) = (e : Int) := by omega
        have he1 : e + i ≤ M + m := by omega
        have he2 : M + m ≤ e + i := by omega
        have heb : e ≤ b := by omega
        have HE : Hid (e = M + m - i) := he
        clear he
        have HSY : Hid (symM (ltOf cf) a m b d = (if M < e ∧ e < b then symM (ltOf cf) M e b (if a < i ∧ i < M then symM (ltOf cf) a i M (if i < m ∧ m < e then rot i m e d else d) else (if i < m ∧ m < e then rot i m e d else d)) else (if a < i ∧ i < M then symM (ltOf cf) a i M (if i < m ∧ m < e then rot i m e d else d) else (if i < m ∧ m < e then rot i m e d else d)))) := by
          show _ = _
          rw [symM, if_neg H1.out, if_neg H2.out]
          simp only [HS.out, ← HM.out, ← HE.out, dite_eq_ite]
        clear HS
        by_cases x1 : i < m
        · by_cases x2 : i < M
          · by_cases x3 : a < i
            · by_cases x4 : e < b
              · have y1a : (i : Int) < (m : Int) := by omega
                have y1b : (M : Int) < (e : Int) := by omega
                have y2a : (i : Int) < (M : Int) := by omega
                have y2b : (m : Int) < (e : Int) := by omega
                have y3a : (a : Int) < (i : Int) := by omega
                have y4a : (e : Int) < (b : Int) := by omega
                have hc1 := rotate L enc g cb blk off cap i m e d0 d w0 wr R hs S1.out (by omega) (by omega) (by omega) (by omega)
                clear S1
                go_wp2_with (go_at_fn 175; refine hc1.mono ?_; rintro e w1 ⟨rfl, S2⟩)
                have hc2 := IHA.out a i M (rot i m e d) w1 (by omega) (rot_size i m e d) S2 (by omega) (by omega) (by omega)
                clear S2
                go_wp2_with (go_at_fn 146; refine hc2.mono ?_; rintro e w2 ⟨rfl, S3⟩)
                have hc3 := IHA.out M e b (symM (ltOf cf) a i M (rot i m e d)) w2 (by omega) ((symM_size (ltOf cf) _ a i M (rot i m e d) (Nat.le_refl _)).trans (rot_size i m e d)) S3 (by omega) (by omega) (by omega)
                clear S3
                go_wp2_with (go_at_fn 146; refine hc3.mono ?_; rintro e w3 ⟨rfl, S4⟩)
                go_end0
                refine ⟨rfl, ?_⟩
                rw [HSY.out, if_pos (show (M < e ∧ e < b) by omega), if_pos (show (a < i ∧ i < M) by omega), if_pos (show (i < m ∧ m < e) by omega)]
                exact S4
              · have y1a : (i : Int) < (m : Int) := by omega
                have y1b : (M : Int) < (e : Int) := by omega
                have y2a : (i : Int) < (M : Int) := by omega
                have y2b : (m : Int) < (e : Int) := by omega
                have y3a : (a : Int) < (i : Int) := by omega
                have y4a : ¬ (e : Int) < (b : Int) := by omega
                have hc1 := rotate L enc g cb blk off cap i m e d0 d w0 wr R hs S1.out (by omega) (by omega) (by omega) (by omega)
                clear S1
                go_wp2_with (go_at_fn 175; refine hc1.mono ?_; rintro e w1 ⟨rfl, S2⟩)
                have hc2 := IHA.out a i M (rot i m e d) w1 (by omega) (rot_size i m e d) S2 (by omega) (by omega) (by omega)
                clear S2
                go_wp2_with (go_at_fn 146; refine hc2.mono ?_; rintro e w2 ⟨rfl, S3⟩)
                go_end0
                refine ⟨rfl, ?_⟩
                rw [HSY.out, if_neg (show ¬ (M < e ∧ e < b) by omega), if_pos (show (a < i ∧ i < M) by omega), if_pos (show (i < m ∧ m < e) by omega)]
                exact S3
            · by_cases x4 : e < b
              · exfalso; omega
              · have y1a : (i : Int) < (m : Int) := by omega
                have y1b : (M : Int) < (e : Int) := by omega
                have y2a : (i : Int) < (M : Int) := by omega
                have y2b : (m : Int) < (e : Int) := by omega
                have y3a : ¬ (a : Int) < (i : Int) := by omega
                have y4a : ¬ (e : Int) < (b : Int) := by omega
                have hc1 := rotate L enc g cb blk off cap i m e d0 d w0 wr R hs S1.out (by omega) (by omega) (by omega) (by omega)
                clear S1
                go_wp2_with (go_at_fn 175; refine hc1.mono ?_; rintro e w1 ⟨rfl, S2⟩)
                go_end0
                refine ⟨rfl, ?_⟩
                rw [HSY.out, if_neg (show ¬ (M < e ∧ e < b) by omega), if_neg (show ¬ (a < i ∧ i < M) by omega), if_pos (show (i < m ∧ m < e) by omega)]
                exact S2
          · by_cases x3 : a < i
            · by_cases x4 : e < b
              · have y1a : (i : Int) < (m : Int) := by omega
                have y1b : (M : Int) < (e : Int) := by omega
                have y2a : ¬ (i : Int) < (M : Int) := by omega
                have y2b : ¬ (m : Int) < (e : Int) := by omega
                have y3a : (a : Int) < (i : Int) := by omega
                have y4a : (e : Int) < (b : Int) := by omega
                have hc3 := IHA.out M e b d wr (by omega) rfl S1.out (by omega) (by omega) (by omega)
                clear S1
                go_wp2_with (go_at_fn 146; refine hc3.mono ?_; rintro e w3 ⟨rfl, S4⟩)
                go_end0
                refine ⟨rfl, ?_⟩
                rw [HSY.out, if_pos (show (M < e ∧ e < b) by omega), if_neg (show ¬ (a < i ∧ i < M) by omega), if_neg (show ¬ (i < m ∧ m < e) by omega)]
                exact S4
              · exfalso; omega
            · exfalso; omega
        · exfalso; omega
  · have hmz : ¬ (M : Int) < (m : Int) := by omega
    go_enter FG, Tryd.ntmps146
    go_wp2
    go_loopg [20, 21] (m - (a)) (fun kx si sj wq => ∃ i j : Nat, si = .int .i64 i ∧ sj = .int .i64 j ∧ a ≤ i ∧ i ≤ j ∧ j ≤ m ∧ j - i ≤ kx ∧ Aside (SW enc w0 blk off d wq) ∧ Hid (bs1 (fun c => !ltOf cf d[M + m - 1 - c]! d[c]!) i j = bs1 (fun c => !ltOf cf d[M + m - 1 - c]! d[c]!) (a) (m)))
    case atStart => exact ⟨a, m, by first | rfl | go_num | (congr 1; omega), rfl, by omega, by omega, Nat.le_refl _, by omega, S0, rfl⟩
    case round =>
      clear S0
      obtain ⟨i, j, rfl, rfl, hil, hij, hjh, hkx, S1, HB⟩ := hrel
      by_cases hlt : i < j
      · have hltz : (i : Int) < (j : Int) := by omega
        obtain ⟨c, hc⟩ : ∃ c, c = (i + j) / 2 := ⟨_, rfl⟩
        have EC : ((i : Int) + (j : Int)) / 2 = (c : Int) := by omega
        have hci : i ≤ c := by omega
        have hcj : c < j := by omega
        have HCC : Hid (c = (i + j) / 2) := hc
        clear hc
        have hq1 : c ≤ p ∧ p - c < d.size := by omega
        obtain ⟨hq1, hq2⟩ := hq1
        have HPC : Hid (M + m - 1 - c = p - c) := by show _ = _; omega
        cases hlv : ltOf cf d[p - c]! d[c]! with
        | true =>
          go_wp2_with fail
          obtain ⟨iN110, hiN110⟩ : ∃ z_, z_ = p - c := ⟨_, rfl⟩
          obtain ⟨jN110, hjN110⟩ : ∃ z_, z_ = c := ⟨_, rfl⟩
          have ea110 : ((p : Int) - (c : Int)).toNat = iN110 := by omega
          have pa110 : (0 : Int) ≤ (p : Int) - (c : Int) := by omega
          have ba110 : (p : Int) - (c : Int) < (d.size : Int) := by omega
          have ra110 : IntKind.i64.wrap ((p : Int) - (c : Int)) = (p : Int) - (c : Int) := by rw [IntKind.wrap_i64]; omega
          have ec110 : ((c : Int)).toNat = jN110 := by omega
          have pc110 : (0 : Int) ≤ (c : Int) := by omega
          have bc110 : (c : Int) < (d.size : Int) := by omega
          have rc110 : IntKind.i64.wrap ((c : Int)) = (c : Int) := by rw [IntKind.wrap_i64]; omega
          obtain ⟨x110, hx110⟩ : ∃ x, x = d[p - c]! := ⟨_, rfl⟩
          obtain ⟨y110, hy110⟩ : ∃ x, x = d[c]! := ⟨_, rfl⟩
          have l110a := S1.out.cl R (by omega) (p - c) (by omega)
          have l110b := S1.out.cl R (by omega) (c) (by omega)
          rw [← hx110, ← hiN110] at l110a
          rw [← hy110, ← hjN110] at l110b
          have hc110 := S1.out.cmp HC.out (by omega) x110 y110
          have hv110 : cf x110 y110 < 0 := by rw [hx110, hy110]; exact of_decide_eq_true hlv
          have hd110 : decide (cf x110 y110 < 0) = true := decide_eq_true hv110
          clear hx110 hy110 hiN110 hjN110
          go_wp2_with fail
          go_quiet_grown (first | (go_at_fn g; refine Calls.grown_of (hc110 _ _)))
          have S2 : Aside (SW enc w0 blk off d (grow (wr.drewN nq) osq)) := S1.out.grown nq osq
          clear l110a l110b hc110 S1
          generalize grow (wr.drewN nq) osq = w2 at S2 ⊢
          clear nq osq
          clear ea110 ec110
          clear pa110 ba110 ra110 pc110 bc110 rc110
          go_wp2
          go_roundg (c - i)
          case measure => omega
          case rel => exact ⟨i, c, rfl, rfl, by omega, by omega, by omega, Nat.le_refl _, S2, (show Hid _ from by rw [← HB.out]; show _ = bs1 _ i j; rw [bs1.eq_def _ i j, dif_pos hlt, ← HCC.out, if_neg (by rw [HPC.out]; simp [hlv])])⟩
        | false =>
          go_wp2_with fail
          obtain ⟨iN111, hiN111⟩ : ∃ z_, z_ = p - c := ⟨_, rfl⟩
          obtain ⟨jN111, hjN111⟩ : ∃ z_, z_ = c := ⟨_, rfl⟩
          have ea111 : ((p : Int) - (c : Int)).toNat = iN111 := by omega
          have pa111 : (0 : Int) ≤ (p : Int) - (c : Int) := by omega
          have ba111 : (p : Int) - (c : Int) < (d.size : Int) := by omega
          have ra111 : IntKind.i64.wrap ((p : Int) - (c : Int)) = (p : Int) - (c : Int) := by rw [IntKind.wrap_i64]; omega
          have ec111 : ((c : Int)).toNat = jN111 := by omega
          have pc111 : (0 : Int) ≤ (c : Int) := by omega
          have bc111 : (c : Int) < (d.size : Int) := by omega
          have rc111 : IntKind.i64.wrap ((c : Int)) = (c : Int) := by rw [IntKind.wrap_i64]; omega
          obtain ⟨x111, hx111⟩ : ∃ x, x = d[p - c]! := ⟨_, rfl⟩
          obtain ⟨y111, hy111⟩ : ∃ x, x = d[c]! := ⟨_, rfl⟩
          have l111a := S1.out.cl R (by omega) (p - c) (by omega)
          have l111b := S1.out.cl R (by omega) (c) (by omega)
          rw [← hx111, ← hiN111] at l111a
          rw [← hy111, ← hjN111] at l111b
          have hc111 := S1.out.cmp HC.out (by omega) x111 y111
          have hv111 : ¬ cf x111 y111 < 0 := by rw [hx111, hy111]; exact of_decide_eq_false hlv
          have hd111 : decide (cf x111 y111 < 0) = false := decide_eq_false hv111
          clear hx111 hy111 hiN111 hjN111
          go_wp2_with fail
          go_quiet_grown (first | (go_at_fn g; refine Calls.grown_of (hc111 _ _)))
          have S2 : Aside (SW enc w0 blk off d (grow (wr.drewN nq) osq)) := S1.out.grown nq osq
          clear l111a l111b hc111 S1
          generalize grow (wr.drewN nq) osq = w2 at S2 ⊢
          clear nq osq
          clear ea111 ec111
          clear pa111 ba111 ra111 pc111 bc111 rc111
          go_wp2
          go_roundg (j - (c + 1))
          case measure => omega
          case rel => exact ⟨c + 1, j, by go_num, rfl, by omega, by omega, by omega, Nat.le_refl _, S2, (show Hid _ from by rw [← HB.out]; show _ = bs1 _ i j; rw [bs1.eq_def _ i j, dif_pos hlt, ← HCC.out, if_pos (by rw [HPC.out]; simp [hlv])])⟩
      · have hltz : ¬ (i : Int) < (j : Int) := by omega
        have HS : Hid (mid3 (ltOf cf) a m b d = i) := by
          show _ = _
          have x := HB.out
          rw [bs1.eq_def _ i, dif_neg hlt] at x
          rw [x]
          unfold mid3
          rw [← HM.out]
          rw [if_neg (by omega), if_neg (by omega)]
        clear HB
        obtain ⟨e, he⟩ : ∃ z_, z_ = M + m - i := ⟨_, rfl⟩
        have EE : (M : Int) + (m : Int) - (i : Int) = (e : Int) := by omega
        have he1 : e + i ≤ M + m := by omega
        have he2 : M + m ≤ e + i := by omega
        have heb : e ≤ b := by omega
        have HE : Hid (e = M + m - i) := he
        clear he
        have HSY : Hid (symM (ltOf cf) a m b d = (if M < e ∧ e < b then symM (ltOf cf) M e b (if a < i ∧ i < M then symM (ltOf cf) a i M (if i < m ∧ m < e then rot i m e d else d) else (if i < m ∧ m < e then rot i m e d else d)) else (if a < i ∧ i < M then symM (ltOf cf) a i M (if i < m ∧ m < e then rot i m e d else d) else (if i < m ∧ m < e then rot i m e d else d)))) := by
          show _ = _
          rw [symM, if_neg H1.out, if_neg H2.out]
          simp only [HS.out, ← HM.out, ← HE.out, dite_eq_ite]
        clear HS
        by_cases x1 : i < m
        · by_cases x2 : i < M
          · by_cases x3 : a < i
            · by_cases x4 : e < b
              · have y1a : (i : Int) < (m : Int) := by omega
                have y1b : (M : Int) < (e : Int) := by omega
                have y2a : (i : Int) < (M : Int) := by omega
                have y2b : (m : Int) < (e : Int) := by omega
                have y3a : (a : Int) < (i : Int) := by omega
                have y4a : (e : Int) < (b : Int) := by omega
                have hc1 := rotate L enc g cb blk off cap i m e d0 d w0 wr R hs S1.out (by omega) (by omega) (by omega) (by omega)
                clear S1
                go_wp2_with (go_at_fn 175; refine hc1.mono ?_; rintro e w1 ⟨rfl, S2⟩)
                have hc2 := IHA.out a i M (rot i m e d) w1 (by omega) (rot_size i m e d) S2 (by omega) (by omega) (by omega)
                clear S2
                go_wp2_with (go_at_fn 146; refine hc2.mono ?_; rintro e w2 ⟨rfl, S3⟩)
                have hc3 := IHA.out M e b (symM (ltOf cf) a i M (rot i m e d)) w2 (by omega) ((symM_size (ltOf cf) _ a i M (rot i m e d) (Nat.le_refl _)).trans (rot_size i m e d)) S3 (by omega) (by omega) (by omega)
                clear S3
                go_wp2_with (go_at_fn 146; refine hc3.mono ?_; rintro e w3 ⟨rfl, S4⟩)
                go_end0
                refine ⟨rfl, ?_⟩
                rw [HSY.out, if_pos (show (M < e ∧ e < b) by omega), if_pos (show (a < i ∧ i < M) by omega), if_pos (show (i < m ∧ m < e) by omega)]
                exact S4
              · exfalso; omega
            · by_cases x4 : e < b
              · have y1a : (i : Int) < (m : Int) := by omega
                have y1b : (M : Int) < (e : Int) := by omega
                have y2a : (i : Int) < (M : Int) := by omega
                have y2b : (m : Int) < (e : Int) := by omega
                have y3a : ¬ (a : Int) < (i : Int) := by omega
                have y4a : (e : Int) < (b : Int) := by omega
                have hc1 := rotate L enc g cb blk off cap i m e d0 d w0 wr R hs S1.out (by omega) (by omega) (by omega) (by omega)
                clear S1
                go_wp2_with (go_at_fn 175; refine hc1.mono ?_; rintro e w1 ⟨rfl, S2⟩)
                have hc3 := IHA.out M e b (rot i m e d) w1 (by omega) (rot_size i m e d) S2 (by omega) (by omega) (by omega)
                clear S2
                go_wp2_with (go_at_fn 146; refine hc3.mono ?_; rintro e w3 ⟨rfl, S4⟩)
                go_end0
                refine ⟨rfl, ?_⟩
                rw [HSY.out, if_pos (show (M < e ∧ e < b) by omega), if_neg (show ¬ (a < i ∧ i < M) by omega), if_pos (show (i < m ∧ m < e) by omega)]
                exact S4
              · have y1a : (i : Int) < (m : Int) := by omega
                have y1b : (M : Int) < (e : Int) := by omega
                have y2a : (i : Int) < (M : Int) := by omega
                have y2b : (m : Int) < (e : Int) := by omega
                have y3a : ¬ (a : Int) < (i : Int) := by omega
                have y4a : ¬ (e : Int) < (b : Int) := by omega
                have hc1 := rotate L enc g cb blk off cap i m e d0 d w0 wr R hs S1.out (by omega) (by omega) (by omega) (by omega)
                clear S1
                go_wp2_with (go_at_fn 175; refine hc1.mono ?_; rintro e w1 ⟨rfl, S2⟩)
                go_end0
                refine ⟨rfl, ?_⟩
                rw [HSY.out, if_neg (show ¬ (M < e ∧ e < b) by omega), if_neg (show ¬ (a < i ∧ i < M) by omega), if_pos (show (i < m ∧ m < e) by omega)]
                exact S2
          · exfalso; omega
        · by_cases x2 : i < M
          · by_cases x3 : a < i
            · by_cases x4 : e < b
              · have y1a : ¬ (i : Int) < (m : Int) := by omega
                have y1b : ¬ (M : Int) < (e : Int) := by omega
                have y2a : (i : Int) < (M : Int) := by omega
                have y2b : (m : Int) < (e : Int) := by omega
                have y3a : (a : Int) < (i : Int) := by omega
                have y4a : (e : Int) < (b : Int) := by omega
                have hc2 := IHA.out a i M d wr (by omega) rfl S1.out (by omega) (by omega) (by omega)
                clear S1
                go_wp2_with (go_at_fn 146; refine hc2.mono ?_; rintro e w2 ⟨rfl, S3⟩)
                go_end0
                refine ⟨rfl, ?_⟩
                rw [HSY.out, if_neg (show ¬ (M < e ∧ e < b) by omega), if_pos (show (a < i ∧ i < M) by omega), if_neg (show ¬ (i < m ∧ m < e) by omega)]
                exact S3
              · exfalso; omega
            · exfalso; omega
          · by_cases x3 : a < i
            · by_cases x4 : e < b
              · have y1a : ¬ (i : Int) < (m : Int) := by omega
                have y1b : ¬ (M : Int) < (e : Int) := by omega
                have y2a : ¬ (i : Int) < (M : Int) := by omega
                have y2b : ¬ (m : Int) < (e : Int) := by omega
                have y3a : (a : Int) < (i : Int) := by omega
                have y4a : (e : Int) < (b : Int) := by omega
                go_wp2
                go_end0
                refine ⟨rfl, ?_⟩
                rw [HSY.out, if_neg (show ¬ (M < e ∧ e < b) by omega), if_neg (show ¬ (a < i ∧ i < M) by omega), if_neg (show ¬ (i < m ∧ m < e) by omega)]
                exact S1.out
              · exfalso; omega
            · exfalso; omega
theorem symMerge (L : B1 P) (enc : α → Value) (cf : α → α → Int) (g : Nat) (cb : Array Value) (blk off cap : Nat) (d0 : Array α) (w0 : World) (eg : ∀ args w, (callFunc g args).run P w = .ok (.enter g args) w) (hcmp : CmpLays1 P g cb enc cf blk off d0.size w0) (R : Row1 enc w0 blk off d0) (hsz : d0.size < 1152921504606846976) :
    ∀ (n a m b : Nat) (d : Array α) (w : World), b - a ≤ n → d.size = d0.size → SW enc w0 blk off d w → a < m → m < b → b ≤ d0.size → Calls P 146 #[.slice (some ⟨blk, off, none⟩) d0.size cap, .int .i64 a, .int .i64 m, .int .i64 b, .func (.func g) #[] cb] w fun e w' => e = .returned (.tuple #[]) ∧ SW enc w0 blk off (symM (ltOf cf) a m b d) w' := by
  intro n
  induction n with
  | zero => intro a m b d w h; omega
  | succ n ih =>
    intro a m b d w h hs S ham hmb hb
    by_cases h1 : m - a = 1
    · have := symA L enc cf g cb blk off cap a m b d0 d w0 w eg hcmp R hs.symm S ham hmb (by omega) (by omega) (by omega)
      rwa [hs] at this
    · by_cases h2 : b - m = 1
      · have := symB L enc cf g cb blk off cap a m b d0 d w0 w eg hcmp R hs.symm S ham hmb (by omega) (by omega) h1 h2
        rwa [hs] at this
      · have := symC L enc cf g cb blk off cap a m b d0 d w0 w eg hcmp R hs.symm S ham hmb (by omega) (by omega) h1 h2 (fun a' m' b' d' w' q1 q2 q3 q4 q5 q6 => by rw [hs]; exact ih a' m' b' d' w' (by omega) (by omega) q3 q4 q5 (by omega))
        rwa [hs] at this
end Go.Proofs.YtokphfhihhdfpaaDoor.StW1
