/- A part of what the law LinSound stands on, only as far as it is needed (the words and walks were printed or written in this seat; this text was cut by a program of this session, wip/bin/trim.py). No condition beyond what each theorem says. -/
import Derived.Test.YtddkoimaghcbeaaZLSPVmStepsx0
import Derived.Test.YtddkoimaghcbeaaZLSPVmStepsx2
import Derived.Test.YtddkoimaghcbeaaZLSPVmStepsx3
import Derived.Test.YtddkoimaghcbeaaZLSPVmStepsx4
import Derived.Test.YtddkoimaghcbeaaZLSPVmStepsx5
import Derived.Test.YtddkoimaghcbeaaZLSTmpljt
namespace Go.Proofs.Ytddkoimaghcbeaa.PVmSteps
open Go.RowKit Go.Proofs.YtddkoimaghcbeaaW.PrintWords Go.Proofs.YtddkoimaghcbeaaW.PrintLast Go.Proofs.YtddkoimaghcbeaaW.PrintMore
set_option linter.unusedVariables false
set_option linter.unusedSimpArgs false
theorem pth_len {q : LinQ} : ∀ {o : List Int} {p p' : Ps}, Pth q p o p' → o.length + remZ q.ops.length p'.1 0 = remZ q.ops.length p.1 0
  | [], p, p', h => by rw [show p' = p from h]; simp
  | x :: o, p, p', ⟨j, m, e, h1, h2⟩ => by
    have ih := pth_len h2
    obtain ⟨hj, hf, rr, ru, cs, _, _, rfl⟩ := h1
    have := cnt_or q.ops.length p.1 j (free_iff.mp hf).1 hj _ 0 rfl
    rw [if_pos (by omega)] at this
    simp only at ih
    rw [List.length_cons]; omega
theorem pth_len0 {q : LinQ} {o : List Int} {p : Ps} (h : Pth q r0Z o p) : o.length ≤ q.ops.length := by
  have := pth_len h
  rw [show remZ q.ops.length r0Z.1 0 = q.ops.length from cnt_full _] at this
  omega
set_option maxRecDepth 100000 in
set_option maxHeartbeats 8000000 in
theorem inquestlaw18_LinSound.any (A : Option Addr) (cap : Nat) (l : List S36) (fuel budget : Int) (A2 : Option Addr) (c2 : Nat) (ops0 : List S65) (w : World) (hr : Kd.C k36 w A l.length l) (hc : l.length ≤ cap) (hm : l.length ≤ maxLen) {P0 : Prop} (_ : P0) {P1 : Prop} (_ : P1) {P2 : Prop} (_ : P2) (hr2 : Kd.C k65 w A2 ops0.length ops0) (hc2 : ops0.length ≤ c2) {P3 : Prop} (_ : P3) {P4 : Prop} (_ : P4) :
    Calls Try.prog 20 #[.slice A l.length cap, .int .i64 fuel, .int .i64 budget, .slice A2 ops0.length c2] w fun e w' => e = .returned (.bool true) ∧ Below w.heap.size w w' := by
  have hF := Aside0.mk (few15 l hm)
  have hF2 := Aside0.mk (few17 ops0 64 (by decide) (by decide))
  have hL2 : (l.take 210).length ≤ 210 := by rw [List.length_take]; omega
  generalize l.take 210 = L at *
  generalize ops0.take (64 : Int).toNat = ops at *
  have hL3 : Aside0 (L.length ≤ 300) := ⟨by omega⟩
  replace hr := Aside0.mk hr
  replace hr2 := Aside0.mk hr2
  obtain ⟨f, hf, hf0, hf1⟩ := least01 fuel 0 300 (by decide)
  obtain ⟨b, hb, hb0, hb1⟩ := least01 budget 0 2000 (by decide)
  replace hf := Aside0.mk hf
  replace hb := Aside0.mk hb
  clear hL2 hm
  by_cases hE : newE L f b ops = 0
  rotate_left
  · have hwn : Aside0 (∀ (AF AG : Option Addr) (cF cG : Nat) (W : World), Kd.C k36 W AF L.length L → L.length ≤ cF → Kd.C k65 W AG ops.length ops → ops.length ≤ cG → Calls Try.prog 48 #[.slice AF L.length cF, .int .i64 f, .int .i64 b, .slice AG ops.length cG] W fun e w' => e = .returned (.tuple #[.agg #[.int .i64 0, .slice none 0 0, .int .i64 0], .bool false]) ∧ Below W.heap.size W w') := ⟨fun AF AG cF cG W h1 h2 h3 h4 => lin_whole_n AF AG cF cG L f b ops W h1 h2 hL3.out h3 h4 hE⟩
    clear hf0 hf1 hb0 hb1 hE
    go_enter Try.func20, Try.ntmps20
    go_wp2_with (first | (go_at_call 22; (with_reducible refine (inquestref15_Few.calls A cap l L _ hr.out hc hF.out).mono ?_); rintro e W1 ⟨vF, rfl, hRF, hB1⟩; obtain ⟨AF, cF, rfl⟩ := Kd.R_slice hRF; obtain ⟨_, hcF, hCF⟩ := Kd.R_reads' hRF; replace hCF := Aside0.mk hCF; replace hB1 := Aside0.mk hB1; replace hcF := Aside0.mk hcF; clear hRF) | (go_at_call 31; (with_reducible refine (inquestref17_Few.calls A2 c2 ops0 64 ops _ (Kd.C_below hr2.out hB1.out) hc2 hF2.out).mono ?_); rintro e W2 ⟨vG, rfl, hRG, hB2⟩; obtain ⟨AG, cG, rfl⟩ := Kd.R_slice hRG; obtain ⟨_, hcG, hCG⟩ := Kd.R_reads' hRG; have hCF2 := Aside0.mk (Kd.C_below hCF.out hB2); have hB02 := Aside0.mk (below_step hB1.out hB2); replace hCG := Aside0.mk hCG; replace hcG := Aside0.mk hcG; clear hRG hB2) | (go_at_call 30; (with_reducible refine (inquestref01_Least.calls fuel 0 300 f _ hf.out).mono ?_); rintro e W3 ⟨rfl, ⟨nW3, rfl⟩⟩) | (go_at_call 30; (with_reducible refine (inquestref01_Least.calls budget 0 2000 b _ hb.out).mono ?_); rintro e W4 ⟨rfl, ⟨nW4, rfl⟩⟩) | (go_at_call 48; (with_reducible refine (hwn.out _ _ _ _ _ (Kd.C_below hCF2.out (by repeat (first | exact Below.refl _ _ | apply pw_below_drewN))) hcF.out (Kd.C_below hCG.out (by repeat (first | exact Below.refl _ _ | apply pw_below_drewN))) hcG.out).mono ?_); rintro e W5 ⟨rfl, hB5⟩; replace hB5 := Aside0.mk hB5) | (go_at_call 41; (with_reducible refine (lin_lives _).mono ?_); rintro e WZ ⟨rfl, hBZ⟩; replace hBZ := Aside0.mk hBZ))
    go_ret
    exact ⟨rfl, below_step (below_alloc (below_step hB02.out (below_step (by repeat (first | exact Below.refl _ _ | apply pw_below_drewN)) hB5.out)) _) hBZ.out⟩
  have hSI := fullZ_SI hE
  have hWf := fullZ_W hE
  have hov := fullZ_over hE
  obtain ⟨S, hS⟩ : ∃ S, S = fullZ ⟨L, f, b, ops⟩ := ⟨_, rfl⟩
  rw [← hS] at hSI hWf hov
  obtain ⟨kd, hkd⟩ : ∃ k, k = S.kind := ⟨_, rfl⟩
  obtain ⟨td, htd⟩ : ∃ t : Int, t = (S.tries : Int) := ⟨_, rfl⟩
  obtain ⟨od, hod⟩ : ∃ od, od = (if kd = 1 then S.order else []) := ⟨_, rfl⟩
  have hwy : Aside0 (∀ (AF AG : Option Addr) (cF cG : Nat) (W : World), Kd.C k36 W AF L.length L → L.length ≤ cF → Kd.C k65 W AG ops.length ops → ops.length ≤ cG → Calls Try.prog 48 #[.slice AF L.length cF, .int .i64 f, .int .i64 b, .slice AG ops.length cG] W fun e w' => ∃ v, e = .returned (.tuple #[.agg #[.int .i64 kd, v, .int .i64 td], .bool true]) ∧ Kd.R (Kd.int .i64) 3 w' W.heap.size (fun _ => True) v od ∧ Below W.heap.size W w') := ⟨fun AF AG cF cG W h1 h2 h3 h4 => by
    have y := lin_whole_y AF AG cF cG L f b ops W h1 h2 hL3.out h3 h4 hE
    rw [← hS, ← hkd, ← htd, ← hod] at y
    exact y⟩
  have ht0 : decide (td < 0) = false := decide_eq_false (by omega)
  have ht1 : decide (b < td) = false := decide_eq_false (by have := hWf.tb; show ¬ b < td; rw [htd]; exact Int.not_lt.mpr this)
  have hk := hSI.ov hov
  rw [← hkd] at hk
  have hk0 : decide (kd < 1) = false := decide_eq_false (by omega)
  have hk1 : decide (4 < kd) = false := decide_eq_false (by omega)
  by_cases hk9 : kd = 1
  · have hk2 : (kd != 1) = false := by simpa using hk9
    rw [if_pos hk9] at hod
    have hord : ordC L f ops od = 0 := by
      obtain ⟨p, h1, h2⟩ := hSI.k1 hov (by rw [← hkd]; exact hk9)
      rw [hod]
      exact pth_ord (q := ⟨L, f, b, ops⟩) (newE_0 hE).1 ⟨hf0, by show f ≤ 10000; omega⟩ (newE_0 hE).2.2.1 h1 h2
    have hol : od.length ≤ 1000 := by
      obtain ⟨p, h1, h2⟩ := hSI.k1 hov (by rw [← hkd]; exact hk9)
      have y := pth_len0 h1
      have y2 := (newE_0 hE).2.2.1
      rw [hod]
      exact Nat.le_trans y (Nat.le_trans y2 (by decide))
    have hchk : Aside0 (∀ (AF AG A8 : Option Addr) (cF cG c8 : Nat) (W : World), Kd.C k36 W AF L.length L → L.length ≤ cF → Kd.C k65 W AG ops.length ops → ops.length ≤ cG → Kd.C (Kd.int .i64) W A8 od.length od → od.length ≤ c8 → Calls Try.prog 33 #[.slice AF L.length cF, .int .i64 f, .slice AG ops.length cG, .slice A8 od.length c8] W fun e w' => e = .returned (.int .i64 0) ∧ Below W.heap.size W w') := ⟨fun AF AG A8 cF cG c8 W h1 h2 h3 h4 h5 h6 => by
      have y := ord_Check AF AG A8 cF cG c8 L f ops od W h1 h2 hL3.out h3 h4 h5 h6 hol
      rw [hord] at y
      exact y⟩
    clear hf0 hf1 hb0 hb1 hE hSI hWf hov hS hkd htd hod hk hk9 hord
    go_enter Try.func20, Try.ntmps20
    go_wp2_with (first | (go_at_call 22; (with_reducible refine (inquestref15_Few.calls A cap l L _ hr.out hc hF.out).mono ?_); rintro e W1 ⟨vF, rfl, hRF, hB1⟩; obtain ⟨AF, cF, rfl⟩ := Kd.R_slice hRF; obtain ⟨_, hcF, hCF⟩ := Kd.R_reads' hRF; replace hCF := Aside0.mk hCF; replace hB1 := Aside0.mk hB1; replace hcF := Aside0.mk hcF; clear hRF) | (go_at_call 31; (with_reducible refine (inquestref17_Few.calls A2 c2 ops0 64 ops _ (Kd.C_below hr2.out hB1.out) hc2 hF2.out).mono ?_); rintro e W2 ⟨vG, rfl, hRG, hB2⟩; obtain ⟨AG, cG, rfl⟩ := Kd.R_slice hRG; obtain ⟨_, hcG, hCG⟩ := Kd.R_reads' hRG; have hCF2 := Aside0.mk (Kd.C_below hCF.out hB2); have hB02 := Aside0.mk (below_step hB1.out hB2); replace hCG := Aside0.mk hCG; replace hcG := Aside0.mk hcG; clear hRG hB2) | (go_at_call 30; (with_reducible refine (inquestref01_Least.calls fuel 0 300 f _ hf.out).mono ?_); rintro e W3 ⟨rfl, ⟨nW3, rfl⟩⟩) | (go_at_call 30; (with_reducible refine (inquestref01_Least.calls budget 0 2000 b _ hb.out).mono ?_); rintro e W4 ⟨rfl, ⟨nW4, rfl⟩⟩) | (go_at_call 48; (with_reducible refine (hwy.out _ _ _ _ _ (Kd.C_below hCF2.out (by repeat (first | exact Below.refl _ _ | apply pw_below_drewN))) hcF.out (Kd.C_below hCG.out (by repeat (first | exact Below.refl _ _ | apply pw_below_drewN))) hcG.out).mono ?_); rintro e W5 ⟨v, rfl, hv, hB5⟩; obtain ⟨A8, c8_, rfl⟩ := Kd.R_slice hv; obtain ⟨_, hc8, hC8⟩ := Kd.R_reads' hv; have hCF5 := Aside0.mk (Kd.C_below (Kd.C_below hCF2.out (by repeat (first | exact Below.refl _ _ | apply pw_below_drewN))) hB5); have hCG5 := Aside0.mk (Kd.C_below (Kd.C_below hCG.out (by repeat (first | exact Below.refl _ _ | apply pw_below_drewN))) hB5); replace hC8 := Aside0.mk hC8; replace hc8 := Aside0.mk hc8; replace hB5 := Aside0.mk hB5; clear hv) | (go_at_call 41; (with_reducible refine (lin_lives _).mono ?_); rintro e WZ ⟨rfl, hBZ⟩; replace hBZ := Aside0.mk hBZ) | (go_at_call 33; (with_reducible refine (hchk.out _ _ _ _ _ _ _ (Kd.C_alloc hCF5.out _) hcF.out (Kd.C_alloc hCG5.out _) hcG.out (Kd.C_alloc hC8.out _) hc8.out).mono ?_); rintro e W6 ⟨rfl, hB6⟩; replace hB6 := Aside0.mk hB6))
    go_ret
    exact ⟨rfl, below_step (below_step (below_alloc (below_step hB02.out (below_step (by repeat (first | exact Below.refl _ _ | apply pw_below_drewN)) hB5.out)) _) hB6.out) hBZ.out⟩
  · have hk2 : (kd != 1) = true := by simpa using hk9
    rw [if_neg hk9] at hod
    subst hod
    clear hf0 hf1 hb0 hb1 hE hSI hWf hov hS hkd htd hk hk9
    go_enter Try.func20, Try.ntmps20
    go_wp2_with (first | (go_at_call 22; (with_reducible refine (inquestref15_Few.calls A cap l L _ hr.out hc hF.out).mono ?_); rintro e W1 ⟨vF, rfl, hRF, hB1⟩; obtain ⟨AF, cF, rfl⟩ := Kd.R_slice hRF; obtain ⟨_, hcF, hCF⟩ := Kd.R_reads' hRF; replace hCF := Aside0.mk hCF; replace hB1 := Aside0.mk hB1; replace hcF := Aside0.mk hcF; clear hRF) | (go_at_call 31; (with_reducible refine (inquestref17_Few.calls A2 c2 ops0 64 ops _ (Kd.C_below hr2.out hB1.out) hc2 hF2.out).mono ?_); rintro e W2 ⟨vG, rfl, hRG, hB2⟩; obtain ⟨AG, cG, rfl⟩ := Kd.R_slice hRG; obtain ⟨_, hcG, hCG⟩ := Kd.R_reads' hRG; have hCF2 := Aside0.mk (Kd.C_below hCF.out hB2); have hB02 := Aside0.mk (below_step hB1.out hB2); replace hCG := Aside0.mk hCG; replace hcG := Aside0.mk hcG; clear hRG hB2) | (go_at_call 30; (with_reducible refine (inquestref01_Least.calls fuel 0 300 f _ hf.out).mono ?_); rintro e W3 ⟨rfl, ⟨nW3, rfl⟩⟩) | (go_at_call 30; (with_reducible refine (inquestref01_Least.calls budget 0 2000 b _ hb.out).mono ?_); rintro e W4 ⟨rfl, ⟨nW4, rfl⟩⟩) | (go_at_call 48; (with_reducible refine (hwy.out _ _ _ _ _ (Kd.C_below hCF2.out (by repeat (first | exact Below.refl _ _ | apply pw_below_drewN))) hcF.out (Kd.C_below hCG.out (by repeat (first | exact Below.refl _ _ | apply pw_below_drewN))) hcG.out).mono ?_); rintro e W5 ⟨v, rfl, hv, hB5⟩; obtain ⟨A8, c8_, rfl⟩ := Kd.R_slice hv; obtain ⟨_, hc8, hC8⟩ := Kd.R_reads' hv; have hCF5 := Aside0.mk (Kd.C_below (Kd.C_below hCF2.out (by repeat (first | exact Below.refl _ _ | apply pw_below_drewN))) hB5); have hCG5 := Aside0.mk (Kd.C_below (Kd.C_below hCG.out (by repeat (first | exact Below.refl _ _ | apply pw_below_drewN))) hB5); replace hC8 := Aside0.mk hC8; replace hc8 := Aside0.mk hc8; replace hB5 := Aside0.mk hB5; clear hv) | (go_at_call 41; (with_reducible refine (lin_lives _).mono ?_); rintro e WZ ⟨rfl, hBZ⟩; replace hBZ := Aside0.mk hBZ))
    go_ret
    exact ⟨rfl, below_step (below_alloc (below_step hB02.out (below_step (by repeat (first | exact Below.refl _ _ | apply pw_below_drewN)) hB5.out)) _) hBZ.out⟩
end Go.Proofs.Ytddkoimaghcbeaa.PVmSteps
