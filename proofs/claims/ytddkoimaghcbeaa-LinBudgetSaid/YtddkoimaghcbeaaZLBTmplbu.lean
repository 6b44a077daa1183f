/- A part of what the law LinBudget stands on, only as far as it is needed (the words and walks were printed or written in this seat; this text was cut by a program of this session, wip/bin/trim.py). No condition beyond what each theorem says. -/
import Derived.Test.YtddkoimaghcbeaaZLBPVmStepsx0
import Derived.Test.YtddkoimaghcbeaaZLBPVmStepsx2
import Derived.Test.YtddkoimaghcbeaaZLBPVmStepsx3
import Derived.Test.YtddkoimaghcbeaaZLBPVmStepsx4
import Derived.Test.YtddkoimaghcbeaaZLBPVmStepsx5
import Derived.Test.YtddkoimaghcbeaaZLBTmplbs
import Derived.Test.YtddkoimaghcbeaaZLBTmplje
namespace Go.Proofs.Ytddkoimaghcbeaa.PVmSteps
open Go.RowKit Go.Proofs.YtddkoimaghcbeaaW.PrintWords Go.Proofs.YtddkoimaghcbeaaW.PrintLast Go.Proofs.YtddkoimaghcbeaaW.PrintMore
set_option linter.unusedVariables false
set_option linter.unusedSimpArgs false
theorem enZ_eZ : ∀ n : Nat, n < 7 → enZ (n : Int) = (eZ n : Int) ∧ eZ n ≤ 1073741824 := by decide +kernel
theorem newE_bud {L : List S36} {f b b' : Int} {ops : List S65} (h : newE L f b ops = 0) (h0 : 0 ≤ b') (h1 : b' ≤ 1073741824) : newE L f b' ops = 0 := by
  obtain ⟨e1, e2, e3, e4⟩ := newE_0 h
  unfold newE
  simp only [e1, e4]
  simp
  omega
set_option maxRecDepth 100000 in
set_option maxHeartbeats 8000000 in
theorem inquestlaw18_LinBudget.any (A : Option Addr) (cap : Nat) (l : List S36) (fuel budget : Int) (A2 : Option Addr) (c2 : Nat) (ops0 : List S65) (w : World) (hr : Kd.C k36 w A l.length l) (hc : l.length ≤ cap) (hm : l.length ≤ maxLen) {P0 : Prop} (_ : P0) {P1 : Prop} (_ : P1) {P2 : Prop} (_ : P2) (hr2 : Kd.C k65 w A2 ops0.length ops0) (hc2 : ops0.length ≤ c2) {P3 : Prop} (_ : P3) {P4 : Prop} (_ : P4) :
    Calls Try.prog 17 #[.slice A l.length cap, .int .i64 fuel, .int .i64 budget, .slice A2 ops0.length c2] w fun e w' => e = .returned (.bool true) ∧ Below w.heap.size w w' := by
  have hF := Aside0.mk (few15 l hm)
  have hF2 := Aside0.mk (few17 ops0 6 (by decide) (by decide))
  have hL2 : (l.take 210).length ≤ 210 := by rw [List.length_take]; omega
  have hO2 : (ops0.take (6 : Int).toNat).length < 7 := by rw [List.length_take]; show min 6 _ < 7; omega
  generalize l.take 210 = L at *
  generalize ops0.take (6 : Int).toNat = ops at *
  have hL3 : Aside0 (L.length ≤ 300) := ⟨by omega⟩
  replace hr := Aside0.mk hr
  replace hr2 := Aside0.mk hr2
  obtain ⟨f, hf, hf0, hf1⟩ := least01 fuel 0 300 (by decide)
  obtain ⟨b, hb, hb0, hb1⟩ := least01 budget 0 3000 (by decide)
  replace hf := Aside0.mk hf
  replace hb := Aside0.mk hb
  have hez := enZ_eZ ops.length hO2
  obtain ⟨kE, hkE⟩ := lin_en (ops.length : Int) (by omega)
  obtain ⟨bE, hbE⟩ : ∃ x, x = enZ (ops.length : Int) := ⟨_, rfl⟩
  rw [← hbE] at hkE hez
  replace hkE := Aside0.mk hkE
  clear hL2 hm hO2
  by_cases hE : newE L f bE ops = 0
  rotate_left
  · have hwn : Aside0 (∀ (AF AG : Option Addr) (cF cG : Nat) (W : World), Kd.C k36 W AF L.length L → L.length ≤ cF → Kd.C k65 W AG ops.length ops → ops.length ≤ cG → Calls Try.prog 48 #[.slice AF L.length cF, .int .i64 f, .int .i64 bE, .slice AG ops.length cG] W fun e w' => e = .returned (.tuple #[.agg #[.int .i64 0, .slice none 0 0, .int .i64 0], .bool false]) ∧ Below W.heap.size W w') := ⟨fun AF AG cF cG W h1 h2 h3 h4 => lin_whole_n AF AG cF cG L f bE ops W h1 h2 hL3.out h3 h4 hE⟩
    clear hf0 hf1 hb0 hb1 hE hez hbE
    go_enter Try.func17, Try.ntmps17
    go_wp2_with (first | (go_at_call 22; (with_reducible refine (inquestref15_Few.calls A cap l L _ hr.out hc hF.out).mono ?_); rintro e W1 ⟨vF, rfl, hRF, hB1⟩; obtain ⟨AF, cF, rfl⟩ := Kd.R_slice hRF; obtain ⟨_, hcF, hCF⟩ := Kd.R_reads' hRF; replace hCF := Aside0.mk hCF; replace hB1 := Aside0.mk hB1; replace hcF := Aside0.mk hcF; clear hRF) | (go_at_call 31; (with_reducible refine (inquestref17_Few.calls A2 c2 ops0 6 ops _ (Kd.C_below hr2.out hB1.out) hc2 hF2.out).mono ?_); rintro e W2 ⟨vG, rfl, hRG, hB2⟩; obtain ⟨AG, cG, rfl⟩ := Kd.R_slice hRG; obtain ⟨_, hcG, hCG⟩ := Kd.R_reads' hRG; have hCF2 := Aside0.mk (Kd.C_below hCF.out hB2); have hB02 := Aside0.mk (below_step hB1.out hB2); replace hCG := Aside0.mk hCG; replace hcG := Aside0.mk hcG; clear hRG hB2) | (go_at_call 30; (with_reducible refine (inquestref01_Least.calls fuel 0 300 f _ hf.out).mono ?_); rintro e W3 ⟨rfl, ⟨nW3, rfl⟩⟩) | (go_at_call 30; (with_reducible refine (inquestref01_Least.calls budget 0 3000 b _ hb.out).mono ?_); rintro e W4 ⟨rfl, ⟨nW4, rfl⟩⟩) | (go_at_call 49; (with_reducible refine (lin_Enough.calls kE (ops.length : Int) bE _ hkE.out).mono ?_); rintro e WE ⟨rfl, ⟨nE, rfl⟩⟩) | (go_at_call 48; (with_reducible refine (hwn.out _ _ _ _ _ (Kd.C_below hCF2.out (by repeat (first | exact Below.refl _ _ | apply pw_below_drewN))) hcF.out (Kd.C_below hCG.out (by repeat (first | exact Below.refl _ _ | apply pw_below_drewN))) hcG.out).mono ?_); rintro e W5 ⟨rfl, hB5⟩; replace hB5 := Aside0.mk hB5) | (go_at_call 41; (with_reducible refine (lin_lives _).mono ?_); rintro e WZ ⟨rfl, hBZ⟩; replace hBZ := Aside0.mk hBZ))
    go_ret
    exact ⟨rfl, below_step (below_alloc (below_step hB02.out (below_step (by repeat (first | exact Below.refl _ _ | apply pw_below_drewN)) hB5.out)) _) hBZ.out⟩
  have hEb := newE_bud hE hb0 (show b ≤ 1073741824 by omega)
  have hSI := fullZ_SI hE
  have hWf := fullZ_W hE
  have hov := fullZ_over hE
  have hk9 : (fullZ ⟨L, f, bE, ops⟩).kind ≠ 4 := fun e => by
    have y := hSI.k4 hov e
    have y2 := hez.1
    have y3 : ((fullZ ⟨L, f, bE, ops⟩).tries : Int) = bE := y.1
    have y4 : (fullZ ⟨L, f, bE, ops⟩).tries < eZ ops.length := y.2
    omega
  have hbud := full_bud hE hb0 (show b ≤ 1073741824 by omega) hk9
  have hwb0 := fun (AF AG : Option Addr) (cF cG : Nat) (W : World) h1 h2 h3 h4 => lin_whole_y AF AG cF cG L f b ops W h1 h2 hL3.out h3 h4 hEb
  obtain ⟨S, hS⟩ : ∃ S, S = fullZ ⟨L, f, bE, ops⟩ := ⟨_, rfl⟩
  rw [← hS] at hSI hWf hov hk9 hbud
  obtain ⟨kd, hkd⟩ : ∃ k, k = S.kind := ⟨_, rfl⟩
  obtain ⟨td, htd⟩ : ∃ t : Int, t = (S.tries : Int) := ⟨_, rfl⟩
  obtain ⟨od, hod⟩ : ∃ od, od = (if kd = 1 then S.order else []) := ⟨_, rfl⟩
  have hol : Aside0 (od.length ≤ 1073741825) := ⟨by
    have y1 := hWf.ol
    have y2 := hWf.tb
    have y3 := hWf.b1
    rw [hod]
    split
    · omega
    · simp⟩
  have hwy : Aside0 (∀ (AF AG : Option Addr) (cF cG : Nat) (W : World), Kd.C k36 W AF L.length L → L.length ≤ cF → Kd.C k65 W AG ops.length ops → ops.length ≤ cG → Calls Try.prog 48 #[.slice AF L.length cF, .int .i64 f, .int .i64 bE, .slice AG ops.length cG] W fun e w' => ∃ v, e = .returned (.tuple #[.agg #[.int .i64 kd, v, .int .i64 td], .bool true]) ∧ Kd.R (Kd.int .i64) 3 w' W.heap.size (fun _ => True) v od ∧ Below W.heap.size W w') := ⟨fun AF AG cF cG W h1 h2 h3 h4 => by
    have y := lin_whole_y AF AG cF cG L f bE ops W h1 h2 hL3.out h3 h4 hE
    rw [← hS, ← hkd, ← htd, ← hod] at y
    exact y⟩
  have hk4 : (kd == 4) = false := by rw [hkd]; simpa using hk9
  by_cases ht : td ≤ b
  · have hwb : Aside0 (∀ (AF AG : Option Addr) (cF cG : Nat) (W : World), Kd.C k36 W AF L.length L → L.length ≤ cF → Kd.C k65 W AG ops.length ops → ops.length ≤ cG → Calls Try.prog 48 #[.slice AF L.length cF, .int .i64 f, .int .i64 b, .slice AG ops.length cG] W fun e w' => ∃ v, e = .returned (.tuple #[.agg #[.int .i64 kd, v, .int .i64 td], .bool true]) ∧ Kd.R (Kd.int .i64) 3 w' W.heap.size (fun _ => True) v od ∧ Below W.heap.size W w') := ⟨fun AF AG cF cG W h1 h2 h3 h4 => by
      have y := hwb0 AF AG cF cG W h1 h2 h3 h4
      rw [hbud.1 (by rw [← htd]; exact ht), ← hkd, ← htd, ← hod] at y
      exact y⟩
    have ht1 : decide (td ≤ b) = true := decide_eq_true ht
    clear hf0 hf1 hb0 hb1 hE hEb hSI hWf hov hS hkd htd hod hk9 ht hez hbE hbud hwb0
    go_enter Try.func17, Try.ntmps17
    go_wp2_with (first | (go_at_call 22; (with_reducible refine (inquestref15_Few.calls A cap l L _ hr.out hc hF.out).mono ?_); rintro e W1 ⟨vF, rfl, hRF, hB1⟩; obtain ⟨AF, cF, rfl⟩ := Kd.R_slice hRF; obtain ⟨_, hcF, hCF⟩ := Kd.R_reads' hRF; replace hCF := Aside0.mk hCF; replace hB1 := Aside0.mk hB1; replace hcF := Aside0.mk hcF; clear hRF) | (go_at_call 31; (with_reducible refine (inquestref17_Few.calls A2 c2 ops0 6 ops _ (Kd.C_below hr2.out hB1.out) hc2 hF2.out).mono ?_); rintro e W2 ⟨vG, rfl, hRG, hB2⟩; obtain ⟨AG, cG, rfl⟩ := Kd.R_slice hRG; obtain ⟨_, hcG, hCG⟩ := Kd.R_reads' hRG; have hCF2 := Aside0.mk (Kd.C_below hCF.out hB2); have hB02 := Aside0.mk (below_step hB1.out hB2); replace hCG := Aside0.mk hCG; replace hcG := Aside0.mk hcG; clear hRG hB2) | (go_at_call 30; (with_reducible refine (inquestref01_Least.calls fuel 0 300 f _ hf.out).mono ?_); rintro e W3 ⟨rfl, ⟨nW3, rfl⟩⟩) | (go_at_call 30; (with_reducible refine (inquestref01_Least.calls budget 0 3000 b _ hb.out).mono ?_); rintro e W4 ⟨rfl, ⟨nW4, rfl⟩⟩) | (go_at_call 49; (with_reducible refine (lin_Enough.calls kE (ops.length : Int) bE _ hkE.out).mono ?_); rintro e WE ⟨rfl, ⟨nE, rfl⟩⟩) | (go_at_call 48; (with_reducible refine (hwy.out _ _ _ _ _ (Kd.C_below hCF2.out (by repeat (first | exact Below.refl _ _ | apply pw_below_drewN))) hcF.out (Kd.C_below hCG.out (by repeat (first | exact Below.refl _ _ | apply pw_below_drewN))) hcG.out).mono ?_); rintro e W5 ⟨v, rfl, hv, hB5⟩; obtain ⟨A8, c8_, rfl⟩ := Kd.R_slice hv; obtain ⟨_, hc8, hC8⟩ := Kd.R_reads' hv; have hCF5 := Aside0.mk (Kd.C_below (Kd.C_below hCF2.out (by repeat (first | exact Below.refl _ _ | apply pw_below_drewN))) hB5); have hCG5 := Aside0.mk (Kd.C_below (Kd.C_below hCG.out (by repeat (first | exact Below.refl _ _ | apply pw_below_drewN))) hB5); replace hC8 := Aside0.mk hC8; replace hc8 := Aside0.mk hc8; replace hB5 := Aside0.mk hB5; clear hv) | (go_at_call 48; (with_reducible refine (hwb.out _ _ _ _ _ (Kd.C_alloc hCF5.out _) hcF.out (Kd.C_alloc hCG5.out _) hcG.out).mono ?_); rintro e W6 ⟨v6, rfl, hv6, hB6⟩; have hbs := blk_below (blk_new W5 (.cells #[.int .i64 kd, .slice A8 od.length c8_, .int .i64 td] 75)) hB6; obtain ⟨A9, c9_, rfl⟩ := Kd.R_slice hv6; have b0 := blk_alloc hbs (.cells #[.int .i64 kd, .slice A9 od.length c9_, .int .i64 td] 75); have s0 : (W6.alloc (.cells #[.int .i64 kd, .slice A9 od.length c9_, .int .i64 td] 75)).cell? ⟨W5.heap.size, 0, none⟩ = some (.int .i64 kd) := blk_cell b0 0; have s1 : (W6.alloc (.cells #[.int .i64 kd, .slice A9 od.length c9_, .int .i64 td] 75)).cell? ⟨W5.heap.size, 1, none⟩ = some (.slice A8 od.length c8_) := blk_cell b0 1; have s2 : (W6.alloc (.cells #[.int .i64 kd, .slice A9 od.length c9_, .int .i64 td] 75)).cell? ⟨W5.heap.size, 2, none⟩ = some (.int .i64 td) := blk_cell b0 2; obtain ⟨_, hc9, hC9⟩ := Kd.R_reads' hv6; have hC86 := Aside0.mk (Kd.C_below (Kd.C_alloc hC8.out _) hB6); replace hC9 := Aside0.mk hC9; replace hc9 := Aside0.mk hc9; replace hB6 := Aside0.mk hB6; replace hbs := Aside0.mk hbs; clear hv6) | (go_at_call 45; (with_reducible refine (r18_Same_self kd td od A9 A8 c9_ c8_ _ (Kd.C_alloc hC9.out _) hc9.out (Kd.C_alloc hC86.out _) hc8.out hol.out).mono ?_); rintro e W7 ⟨rfl, hB7⟩; replace hB7 := Aside0.mk hB7) | (go_at_call 41; (with_reducible refine (lin_lives _).mono ?_); rintro e WZ ⟨rfl, hBZ⟩; replace hBZ := Aside0.mk hBZ))
    go_ret
    exact ⟨rfl, below_step (below_step (below_alloc (below_step (below_alloc (below_step hB02.out (below_step (by repeat (first | exact Below.refl _ _ | apply pw_below_drewN)) hB5.out)) _) hB6.out) _) hB7.out) hBZ.out⟩
  · have hwb : Aside0 (∀ (AF AG : Option Addr) (cF cG : Nat) (W : World), Kd.C k36 W AF L.length L → L.length ≤ cF → Kd.C k65 W AG ops.length ops → ops.length ≤ cG → Calls Try.prog 48 #[.slice AF L.length cF, .int .i64 f, .int .i64 b, .slice AG ops.length cG] W fun e w' => ∃ v, e = .returned (.tuple #[.agg #[.int .i64 4, v, .int .i64 b], .bool true]) ∧ Kd.R (Kd.int .i64) 3 w' W.heap.size (fun _ => True) v [] ∧ Below W.heap.size W w') := ⟨fun AF AG cF cG W h1 h2 h3 h4 => by
      have y := hwb0 AF AG cF cG W h1 h2 h3 h4
      obtain ⟨_, y2, y3⟩ := hbud.2 (by rw [← htd]; omega)
      rw [y2, y3, if_neg (by decide)] at y
      exact y⟩
    have ht1 : decide (td ≤ b) = false := decide_eq_false ht
    clear hf0 hf1 hb0 hb1 hE hEb hSI hWf hov hS hkd htd hod hk9 ht hez hbE hbud hwb0
    go_enter Try.func17, Try.ntmps17
    go_wp2_with (first | (go_at_call 22; (with_reducible refine (inquestref15_Few.calls A cap l L _ hr.out hc hF.out).mono ?_); rintro e W1 ⟨vF, rfl, hRF, hB1⟩; obtain ⟨AF, cF, rfl⟩ := Kd.R_slice hRF; obtain ⟨_, hcF, hCF⟩ := Kd.R_reads' hRF; replace hCF := Aside0.mk hCF; replace hB1 := Aside0.mk hB1; replace hcF := Aside0.mk hcF; clear hRF) | (go_at_call 31; (with_reducible refine (inquestref17_Few.calls A2 c2 ops0 6 ops _ (Kd.C_below hr2.out hB1.out) hc2 hF2.out).mono ?_); rintro e W2 ⟨vG, rfl, hRG, hB2⟩; obtain ⟨AG, cG, rfl⟩ := Kd.R_slice hRG; obtain ⟨_, hcG, hCG⟩ := Kd.R_reads' hRG; have hCF2 := Aside0.mk (Kd.C_below hCF.out hB2); have hB02 := Aside0.mk (below_step hB1.out hB2); replace hCG := Aside0.mk hCG; replace hcG := Aside0.mk hcG; clear hRG hB2) | (go_at_call 30; (with_reducible refine (inquestref01_Least.calls fuel 0 300 f _ hf.out).mono ?_); rintro e W3 ⟨rfl, ⟨nW3, rfl⟩⟩) | (go_at_call 30; (with_reducible refine (inquestref01_Least.calls budget 0 3000 b _ hb.out).mono ?_); rintro e W4 ⟨rfl, ⟨nW4, rfl⟩⟩) | (go_at_call 49; (with_reducible refine (lin_Enough.calls kE (ops.length : Int) bE _ hkE.out).mono ?_); rintro e WE ⟨rfl, ⟨nE, rfl⟩⟩) | (go_at_call 48; (with_reducible refine (hwy.out _ _ _ _ _ (Kd.C_below hCF2.out (by repeat (first | exact Below.refl _ _ | apply pw_below_drewN))) hcF.out (Kd.C_below hCG.out (by repeat (first | exact Below.refl _ _ | apply pw_below_drewN))) hcG.out).mono ?_); rintro e W5 ⟨v, rfl, hv, hB5⟩; obtain ⟨A8, c8_, rfl⟩ := Kd.R_slice hv; obtain ⟨_, hc8, hC8⟩ := Kd.R_reads' hv; have hCF5 := Aside0.mk (Kd.C_below (Kd.C_below hCF2.out (by repeat (first | exact Below.refl _ _ | apply pw_below_drewN))) hB5); have hCG5 := Aside0.mk (Kd.C_below (Kd.C_below hCG.out (by repeat (first | exact Below.refl _ _ | apply pw_below_drewN))) hB5); replace hC8 := Aside0.mk hC8; replace hc8 := Aside0.mk hc8; replace hB5 := Aside0.mk hB5; clear hv) | (go_at_call 48; (with_reducible refine (hwb.out _ _ _ _ _ (Kd.C_alloc hCF5.out _) hcF.out (Kd.C_alloc hCG5.out _) hcG.out).mono ?_); rintro e W6 ⟨v6, rfl, hv6, hB6⟩; have hbs := blk_below (blk_new W5 (.cells #[.int .i64 kd, .slice A8 od.length c8_, .int .i64 td] 75)) hB6; obtain ⟨A9, c9_, rfl⟩ := Kd.R_slice hv6; have b0 := blk_alloc hbs (.cells #[.int .i64 4, .slice A9 0 c9_, .int .i64 b] 75); have s0 : (W6.alloc (.cells #[.int .i64 4, .slice A9 0 c9_, .int .i64 b] 75)).cell? ⟨W5.heap.size, 0, none⟩ = some (.int .i64 kd) := blk_cell b0 0; have s1 : (W6.alloc (.cells #[.int .i64 4, .slice A9 0 c9_, .int .i64 b] 75)).cell? ⟨W5.heap.size, 1, none⟩ = some (.slice A8 od.length c8_) := blk_cell b0 1; have s2 : (W6.alloc (.cells #[.int .i64 4, .slice A9 0 c9_, .int .i64 b] 75)).cell? ⟨W5.heap.size, 2, none⟩ = some (.int .i64 td) := blk_cell b0 2; obtain ⟨_, hc9, hC9⟩ := Kd.R_reads' hv6; have hC86 := Aside0.mk (Kd.C_below (Kd.C_alloc hC8.out _) hB6); replace hC9 := Aside0.mk hC9; replace hc9 := Aside0.mk hc9; replace hB6 := Aside0.mk hB6; replace hbs := Aside0.mk hbs; clear hv6) | (go_at_call 41; (with_reducible refine (lin_lives _).mono ?_); rintro e WZ ⟨rfl, hBZ⟩; replace hBZ := Aside0.mk hBZ))
    go_ret
    exact ⟨rfl, below_step (below_alloc (below_step (below_alloc (below_step hB02.out (below_step (by repeat (first | exact Below.refl _ _ | apply pw_below_drewN)) hB5.out)) _) hB6.out) _) hBZ.out⟩
end Go.Proofs.Ytddkoimaghcbeaa.PVmSteps
