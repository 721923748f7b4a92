/- The stable sort's walk (stable of package slices) at elements of one cell: the row holds what the plain stable sort makes of it. Over every program that bears the bodies. -/
import Derived.Test.YtokphfhihhdfpaaDoorStW1
namespace Go.Proofs.YtokphfhihhdfpaaDoor.StW1
open Go.Shelf Go.RowKit Go.Lib Go.Sort Go.Proofs Go.Proofs.YtokphfhihhdfpaaDoor.Stab
set_option linter.unusedVariables false
set_option linter.unusedSimpArgs false
variable {P : Program} {α : Type} [Inhabited α]
set_option maxHeartbeats 16000000 in
set_option maxRecDepth 1000000 in
theorem stableC (L : B1 P) (enc : α → Value) (cf : α → α → Int) (g : Nat) (cb : Array Value) (blk off cap : Nat) (d0 : Array α) (w0 : World) (eg : ∀ args w, (callFunc g args).run P w = .ok (.enter g args) w) (eI : ∀ args w, (callFunc 145 args).run P w = .ok (.enter 145 args) w) (hcmp : CmpLays1 P g cb enc cf blk off d0.size w0) (R : Row1 enc w0 blk off d0) (hsz : d0.size < 1000000) (hins : ∀ (a b : Nat) (d : Array α) (w : World), d.size = d0.size → SW enc w0 blk off d w → a ≤ b → b ≤ d0.size → Calls P 145 #[.slice (some ⟨blk, off, none⟩) d0.size cap, .int .i64 a, .int .i64 b, .func (.func g) #[] cb] w fun e w' => e = .returned (.tuple #[]) ∧ SW enc w0 blk off (Go.Sort.insertionSort (ltOf cf) d a b) w')
    (w : World) (S : SW enc w0 blk off d0 w) : Calls P 130 #[.slice (some ⟨blk, off, none⟩) d0.size cap, .int .i64 d0.size, .func (.func g) #[] cb] w fun e w' => e = .returned (.tuple #[]) ∧ SW enc w0 blk off (stable (ltOf cf) d0) w' := by
  have mixed := L.mixed
  have t0 := L.t0; have a0 := L.a0; have z0 := L.z0; have v0 := L.v0
  have t3 := L.t3; have a3 := L.a3; have z3 := L.z3; have v3 := L.v3
  have t4 := L.t4; have a4 := L.a4; have z4 := L.z4; have v4 := L.v4
  have tU := L.tU; have aU := L.aU; have zU := L.zU; have vU := L.vU
  have tS := L.tS; have aS := L.aS; have zS := L.zS; have vS := L.vS
  have tF := L.tF; have aF := L.aF; have zF := L.zF; have vF := L.vF
  have u0 := run_underlying L.t0
  have u3 := run_underlying L.t3
  have u4 := run_underlying L.t4
  have uU := run_underlying L.tU
  have uS := run_underlying L.tS
  have uF := run_underlying L.tF
  have hcl0 := R.hO.cells
  simp only [Value.cells] at hcl0
  have hst := R.hO.store P
  have FG := L.fsta
  have S0 : Aside (SW enc w0 blk off d0 w) := S
  have HI : Aside _ := hins
  have HM : Aside _ := symMerge L enc cf g cb blk off cap d0 w0 eg hcmp R (by omega)
  clear S hins hcmp
  have eM : ∀ args w, (callFunc 146 args).run P w = .ok (.enter 146 args) w := enters_of L.fsym (by kernel_rfl) rfl
  obtain ⟨N, hN⟩ : ∃ z_, z_ = d0.size := ⟨_, rfl⟩
  have HN : Hid (N = d0.size) := hN
  rw [← hN] at hsz ⊢
  clear hN
  go_enter FG, Tryd.ntmps130
  go_wp2
  go_loopg [7, 8] N (fun kx sa sb wq => ∃ (a : Nat) (dk : Array α), sa = .int .i64 a ∧ sb = .int .i64 ((a : Int) + 20) ∧ a ≤ N ∧ N - a ≤ kx ∧ Aside (dk.size = d0.size) ∧ Aside (SW enc w0 blk off dk wq) ∧ Hid (blocks (ltOf cf) 20 N a dk = blocks (ltOf cf) 20 N 0 d0))
  case atStart => exact ⟨0, d0, rfl, by first | rfl | (simp; done) | go_num, Nat.zero_le _, by omega, rfl, S0, rfl⟩
  case round =>
    clear S0
    obtain ⟨a, dk, rfl, rfl, haN, hkx, hds, S1, HB⟩ := hrel
    by_cases hle : a + 20 ≤ N
    · have hlz : (a : Int) + 20 ≤ (N : Int) := by omega
      have hc := HI.out a (a + 20) dk wr hds.out S1.out (by omega) (by rw [← HN.out]; exact hle)
      rw [← HN.out] at hc
      have ec : ((a + 20 : Nat) : Int) = (a : Int) + 20 := by omega
      rw [ec] at hc
      clear S1 ec
      go_wp2_with (go_at_fn 145; refine hc.mono ?_; rintro e w1 ⟨rfl, S2⟩)
      go_roundg (N - (a + 20))
      case measure => omega
      case rel => exact ⟨a + 20, Go.Sort.insertionSort (ltOf cf) dk a (a + 20), by first | rfl | go_num, by first | rfl | go_num | (congr 1; omega), hle, Nat.le_refl _, (ins_size _ a (a + 20) dk (by rw [hds.out, ← HN.out]; exact hle)).trans hds.out, S2, (show Hid _ from by rw [← HB.out]; show _ = blocks (ltOf cf) 20 N a dk; rw [blocks.eq_def _ 20 N a, dif_pos ⟨by decide, hle⟩])⟩
    · have hlz : ¬ (a : Int) + 20 ≤ (N : Int) := by omega
      have hc := HI.out a N dk wr hds.out S1.out haN (by rw [← HN.out]; exact Nat.le_refl _)
      rw [← HN.out] at hc
      clear S1
      obtain ⟨d1, hd1⟩ : ∃ z_, z_ = Go.Sort.insertionSort (ltOf cf) dk a N := ⟨_, rfl⟩
      rw [← hd1] at hc
      have HD : Hid (d1 = blocks (ltOf cf) 20 N 0 d0) := by show _ = _; rw [← HB.out, blocks, dif_neg (fun x => hle x.2), hd1]
      have HZ : Aside (d1.size = d0.size) := by show _ = _; rw [hd1]; exact (ins_size _ a N dk (by rw [hds.out, ← HN.out]; exact Nat.le_refl _)).trans hds.out
      clear hd1 HB hds
      go_wp2_with (go_at_fn 145; refine hc.mono ?_; rintro e w1 ⟨rfl, S2⟩)
      have S3 : Aside _ := S2
      clear S2 hle hlz hkx
      go_loopg [6] N (fun kx sb wq => ∃ (bs : Nat) (dk : Array α), sb = .int .i64 bs ∧ 0 < bs ∧ bs ≤ 2000000 ∧ N - bs ≤ kx ∧ Aside (dk.size = d0.size) ∧ Aside (SW enc w0 blk off dk wq) ∧ Hid (passes (ltOf cf) bs N dk = passes (ltOf cf) 20 N d1))
      case atStart => exact ⟨20, d1, rfl, by omega, by omega, by omega, HZ, S3, rfl⟩
      case round =>
        clear S3
        obtain ⟨bs, dk, rfl, hb0, hb1, hkx, hds, S1, HP⟩ := hrel
        by_cases hlt : bs < N
        · have hlz : (bs : Int) < (N : Int) := by omega
          go_wp2
          go_loopg [7, 8] N (fun ky sa sb wq => ∃ (a : Nat) (dj : Array α), sa = .int .i64 a ∧ sb = .int .i64 ((a : Int) + 2 * (bs : Int)) ∧ a ≤ N ∧ N - a ≤ ky ∧ Aside (dj.size = d0.size) ∧ Aside (SW enc w0 blk off dj wq) ∧ Hid (pass (ltOf cf) bs N a dj = pass (ltOf cf) bs N 0 dk))
          case atStart => exact ⟨0, dk, rfl, by first | rfl | (simp; done) | go_num, Nat.zero_le _, by omega, hds, S1, rfl⟩
          case round =>
            clear S1
            obtain ⟨a, dj, rfl, rfl, haN, hky, hdj, S1, HA⟩ := hrel
            by_cases hle : a + 2 * bs ≤ N
            · have hlz2 : (a : Int) + 2 * (bs : Int) ≤ (N : Int) := by omega
              have hc := HM.out _ a (a + bs) (a + 2 * bs) dj wr (Nat.le_refl _) hdj.out S1.out (by omega) (by omega) (by rw [← HN.out]; exact hle)
              rw [← HN.out] at hc
              have ec : ((a + 2 * bs : Nat) : Int) = (a : Int) + 2 * (bs : Int) := by omega
              have ec2 : ((a + bs : Nat) : Int) = (a : Int) + (bs : Int) := by omega
              rw [ec, ec2] at hc
              clear S1 ec ec2
              go_wp2_with (go_at_fn 146; refine hc.mono ?_; rintro e w1 ⟨rfl, S2⟩)
              go_roundg (N - (a + 2 * bs))
              case measure => omega
              case rel => exact ⟨a + 2 * bs, symM (ltOf cf) a (a + bs) (a + 2 * bs) dj, by first | rfl | go_num | (congr 1; omega), by first | rfl | go_num | (congr 1; omega), hle, Nat.le_refl _, (symM_size _ _ _ _ _ dj (Nat.le_refl _)).trans hdj.out, S2, (show Hid _ from by rw [← HA.out]; show _ = pass (ltOf cf) bs N a dj; rw [pass.eq_def _ bs N a, dif_pos ⟨hb0, hle⟩])⟩
            · have hlz2 : ¬ (a : Int) + 2 * (bs : Int) ≤ (N : Int) := by omega
              by_cases hm : a + bs < N
              · have hmz : (a : Int) + (bs : Int) < (N : Int) := by omega
                have hc := HM.out _ a (a + bs) N dj wr (Nat.le_refl _) hdj.out S1.out (by omega) hm (by rw [← HN.out]; exact Nat.le_refl _)
                rw [← HN.out] at hc
                have ec2 : ((a + bs : Nat) : Int) = (a : Int) + (bs : Int) := by omega
                rw [ec2] at hc
                clear S1 ec2
                go_wp2_with (go_at_fn 146; refine hc.mono ?_; rintro e w1 ⟨rfl, S2⟩)
                go_roundg (N - bs * 2)
                case measure => omega
                case rel => exact ⟨bs * 2, symM (ltOf cf) a (a + bs) N dj, by first | rfl | go_num | (congr 1; omega), by omega, by omega, Nat.le_refl _, (symM_size _ _ _ _ _ dj (Nat.le_refl _)).trans hdj.out, S2, (show Hid _ from by rw [← HP.out]; show _ = passes (ltOf cf) bs N dk; rw [passes.eq_def _ bs N dk, dif_pos ⟨hb0, hlt⟩, ← HA.out, pass.eq_def _ bs N a, dif_neg (fun x => hle x.2), if_pos hm])⟩
              · have hmz : ¬ (a : Int) + (bs : Int) < (N : Int) := by omega
                go_wp2
                go_roundg (N - bs * 2)
                case measure => omega
                case rel => exact ⟨bs * 2, dj, by first | rfl | go_num | (congr 1; omega), by omega, by omega, Nat.le_refl _, hdj, S1, (show Hid _ from by rw [← HP.out]; show _ = passes (ltOf cf) bs N dk; rw [passes.eq_def _ bs N dk, dif_pos ⟨hb0, hlt⟩, ← HA.out, pass.eq_def _ bs N a, dif_neg (fun x => hle x.2), if_neg hm])⟩
        · have hlz : ¬ (bs : Int) < (N : Int) := by omega
          go_wp2
          go_end0
          refine ⟨rfl, ?_⟩
          have x := HP.out
          rw [passes, dif_neg (fun x => hlt x.2)] at x
          rw [stable, ← HN.out, ← HD.out, ← x]
          exact S1.out
end Go.Proofs.YtokphfhihhdfpaaDoor.StW1
