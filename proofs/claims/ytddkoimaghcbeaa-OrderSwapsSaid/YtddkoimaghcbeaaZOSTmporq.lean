/- A part of what the law OrderSwaps stands on, only as far as it is needed (the words and walks were printed or written in this seat; this text was cut by a program of this session, wip/bin/trim.py). No condition beyond what each theorem says. -/
import Derived.Test.YtddkoimaghcbeaaZOSPVmStepsx0
import Derived.Test.YtddkoimaghcbeaaZOSPVmStepsx2
import Derived.Test.YtddkoimaghcbeaaZOSPVmStepsx3
import Derived.Test.YtddkoimaghcbeaaZOSPVmStepsx4
import Derived.Test.YtddkoimaghcbeaaZOSPVmStepsx5
import Derived.Test.YtddkoimaghcbeaaZOSPVmStepsx6
import Derived.Test.YtddkoimaghcbeaaZOSTmporm
namespace Go.Proofs.Ytddkoimaghcbeaa.PVmSteps
open Go.RowKit Go.Proofs.YtddkoimaghcbeaaW.PrintWords Go.Proofs.YtddkoimaghcbeaaW.PrintLast Go.Proofs.YtddkoimaghcbeaaW.PrintMore
set_option linter.unusedVariables false
set_option linter.unusedSimpArgs false
set_option maxRecDepth 100000 in
set_option maxHeartbeats 8000000 in
theorem orderSwaps_core (A : Option Addr) (cap : Nat) (l : List S36) (fuel : Int) (A2 : Option Addr) (c2 : Nat) (ops0 : List S65) (A3 : Option Addr) (c3 : Nat) (o0 : List Int) (at_ : Int) (w : World) (hr : Kd.C k36 w A l.length l) (hc : l.length ≤ cap) (hm : l.length ≤ maxLen) (hr2 : Kd.C k65 w A2 ops0.length ops0) (hc2 : ops0.length ≤ c2) (hr3 : Kd.C (Kd.int .i64) w A3 o0.length o0) (hc3 : o0.length ≤ c3) :
    Calls Try.prog 13 #[.slice A l.length cap, .int .i64 fuel, .slice A2 ops0.length c2, .slice A3 o0.length c3, .int .i64 at_] w fun e w' => e = .returned (.bool true) ∧ Below w.heap.size w w' := by
  have hF := Aside0.mk (few15 l hm)
  have hF2 := Aside0.mk (few17 ops0 64 (by decide) (by decide))
  have hL2 : (l.take 210).length ≤ 210 := by rw [List.length_take]; omega
  have hO2 : (o0.take (64 : Int).toNat).length ≤ 64 := by rw [List.length_take]; exact Nat.min_le_left _ _
  have hI := Aside0.mk (fun (W : World) (h : Kd.C (Kd.int .i64) W A3 o0.length o0) => ord_Ints A3 c3 o0 64 W h hc3 (by decide) (by decide))
  generalize l.take 210 = L at *
  generalize ops0.take (64 : Int).toNat = ops at *
  generalize o0.take (64 : Int).toNat = o at *
  have hL3 : Aside0 (L.length ≤ 300) := ⟨by omega⟩
  have hO3 : Aside0 (o.length ≤ 1000) := ⟨by omega⟩
  replace hr := Aside0.mk hr
  replace hr2 := Aside0.mk hr2
  replace hr3 := Aside0.mk hr3
  obtain ⟨f, hf, hf0, hf1⟩ := least01 fuel 0 300 (by decide)
  replace hf := Aside0.mk hf
  obtain ⟨a, ha⟩ : ∃ a, a = ordC L f ops o := ⟨_, rfl⟩
  clear hL2 hO2 hm hf0 hf1
  by_cases h0 : a = 0
  rotate_left
  · have hnb : (a != 0) = true := by simpa using h0
    replace ha := Aside0.mk ha
    clear h0
    go_enter Try.func13, Try.ntmps13
    go_wp2_with (first | (go_at_call 22; (with_reducible refine (inquestref15_Few.calls A cap l L _ hr.out hc hF.out).mono ?_); rintro e W1 ⟨vF, rfl, hRF, hB1⟩; obtain ⟨AF, cF, rfl⟩ := Kd.R_slice hRF; obtain ⟨_, hcF, hCF⟩ := Kd.R_reads' hRF; replace hCF := Aside0.mk hCF; replace hB1 := Aside0.mk hB1; replace hcF := Aside0.mk hcF; clear hRF) | (go_at_call 31; (with_reducible refine (inquestref17_Few.calls A2 c2 ops0 64 ops _ (Kd.C_below hr2.out hB1.out) hc2 hF2.out).mono ?_); rintro e W2 ⟨vG, rfl, hRG, hB2⟩; obtain ⟨AG, cG, rfl⟩ := Kd.R_slice hRG; obtain ⟨_, hcG, hCG⟩ := Kd.R_reads' hRG; replace hCG := Aside0.mk hCG; replace hB2 := Aside0.mk hB2; replace hcG := Aside0.mk hcG; clear hRG) | (go_at_call 32; (with_reducible refine (hI.out _ (Kd.C_below (Kd.C_below hr3.out hB1.out) hB2.out)).mono ?_); rintro e W3 ⟨vH, rfl, hRH, hB3⟩; obtain ⟨AH, cH, rfl⟩ := Kd.R_slice hRH; obtain ⟨_, hcH, hCH⟩ := Kd.R_reads' hRH; have hchk : Aside0 (∀ (f_ : Int) (W : World), Below W3.heap.size W3 W → Calls Try.prog 33 #[.slice AF L.length cF, .int .i64 f_, .slice AG ops.length cG, .slice AH o.length cH] W fun e w' => e = .returned (.int .i64 (ordC L f_ ops o)) ∧ Below W.heap.size W w') := ⟨fun f_ W hW => ord_Check AF AG AH cF cG cH L f_ ops o W (Kd.C_below (Kd.C_below (Kd.C_below hCF.out hB2.out) hB3) hW) hcF.out hL3.out (Kd.C_below (Kd.C_below hCG.out hB3) hW) hcG.out (Kd.C_below hCH hW) hcH hO3.out⟩; have hB03 := Aside0.mk (below_step (below_step hB1.out hB2.out) hB3); have hCG3 := Aside0.mk (Kd.C_below hCG.out hB3); have hCH3 := Aside0.mk hCH; have hRH3 := Aside0.mk hRH; have h23 := Aside0.mk hB3; have hcH3 := Aside0.mk hcH; clear hRH hCH hcH hB3) | (go_at_call 30; (with_reducible refine (inquestref01_Least.calls fuel 0 300 f _ hf.out).mono ?_); rintro e W5 ⟨rfl, ⟨nd, rfl⟩⟩) | (go_at_call 33; (with_reducible refine (hchk.out f _ ?hbw).mono ?_); (case hbw => repeat (first | exact Below.refl _ _ | apply pw_below_drewN)); rw [← ha.out]; rintro e W6 ⟨rfl, hB6_⟩; have hB36 : Aside0 (Below W3.heap.size W3 W6) := ⟨below_step (by repeat (first | exact Below.refl _ _ | apply pw_below_drewN)) hB6_⟩; clear hB6_) | (go_at_call 37; (with_reducible refine (ord_lives _).mono ?_); rintro e WZ ⟨rfl, hBZ⟩; replace hBZ := Aside0.mk hBZ))
    go_ret
    exact ⟨rfl, below_step (below_step hB03.out hB36.out) hBZ.out⟩
  subst h0
  by_cases h2 : o.length < 2
  · have hl2 : decide ((o.length : Int) < 2) = true := decide_eq_true (by omega)
    replace ha := Aside0.mk ha
    clear h2
    go_enter Try.func13, Try.ntmps13
    go_wp2_with (first | (go_at_call 22; (with_reducible refine (inquestref15_Few.calls A cap l L _ hr.out hc hF.out).mono ?_); rintro e W1 ⟨vF, rfl, hRF, hB1⟩; obtain ⟨AF, cF, rfl⟩ := Kd.R_slice hRF; obtain ⟨_, hcF, hCF⟩ := Kd.R_reads' hRF; replace hCF := Aside0.mk hCF; replace hB1 := Aside0.mk hB1; replace hcF := Aside0.mk hcF; clear hRF) | (go_at_call 31; (with_reducible refine (inquestref17_Few.calls A2 c2 ops0 64 ops _ (Kd.C_below hr2.out hB1.out) hc2 hF2.out).mono ?_); rintro e W2 ⟨vG, rfl, hRG, hB2⟩; obtain ⟨AG, cG, rfl⟩ := Kd.R_slice hRG; obtain ⟨_, hcG, hCG⟩ := Kd.R_reads' hRG; replace hCG := Aside0.mk hCG; replace hB2 := Aside0.mk hB2; replace hcG := Aside0.mk hcG; clear hRG) | (go_at_call 32; (with_reducible refine (hI.out _ (Kd.C_below (Kd.C_below hr3.out hB1.out) hB2.out)).mono ?_); rintro e W3 ⟨vH, rfl, hRH, hB3⟩; obtain ⟨AH, cH, rfl⟩ := Kd.R_slice hRH; obtain ⟨_, hcH, hCH⟩ := Kd.R_reads' hRH; have hchk : Aside0 (∀ (f_ : Int) (W : World), Below W3.heap.size W3 W → Calls Try.prog 33 #[.slice AF L.length cF, .int .i64 f_, .slice AG ops.length cG, .slice AH o.length cH] W fun e w' => e = .returned (.int .i64 (ordC L f_ ops o)) ∧ Below W.heap.size W w') := ⟨fun f_ W hW => ord_Check AF AG AH cF cG cH L f_ ops o W (Kd.C_below (Kd.C_below (Kd.C_below hCF.out hB2.out) hB3) hW) hcF.out hL3.out (Kd.C_below (Kd.C_below hCG.out hB3) hW) hcG.out (Kd.C_below hCH hW) hcH hO3.out⟩; have hB03 := Aside0.mk (below_step (below_step hB1.out hB2.out) hB3); have hCG3 := Aside0.mk (Kd.C_below hCG.out hB3); have hCH3 := Aside0.mk hCH; have hRH3 := Aside0.mk hRH; have h23 := Aside0.mk hB3; have hcH3 := Aside0.mk hcH; clear hRH hCH hcH hB3) | (go_at_call 30; (with_reducible refine (inquestref01_Least.calls fuel 0 300 f _ hf.out).mono ?_); rintro e W5 ⟨rfl, ⟨nd, rfl⟩⟩) | (go_at_call 33; (with_reducible refine (hchk.out f _ ?hbw).mono ?_); (case hbw => repeat (first | exact Below.refl _ _ | apply pw_below_drewN)); rw [← ha.out]; rintro e W6 ⟨rfl, hB6_⟩; have hB36 : Aside0 (Below W3.heap.size W3 W6) := ⟨below_step (by repeat (first | exact Below.refl _ _ | apply pw_below_drewN)) hB6_⟩; clear hB6_) | (go_at_call 37; (with_reducible refine (ord_lives _).mono ?_); rintro e WZ ⟨rfl, hBZ⟩; replace hBZ := Aside0.mk hBZ))
    go_ret
    exact ⟨rfl, below_step (below_step hB03.out hB36.out) hBZ.out⟩
  have hl2 : decide ((o.length : Int) < 2) = false := decide_eq_false (by omega)
  obtain ⟨hn64, hOF⟩ := ordF_of ha.symm
  have hwl : wrap64 ((o.length : Int) - 2) = (o.length : Int) - 2 := w64 (by omega) (by have := hO3.out; omega)
  obtain ⟨m, hmm, hm0, hm1⟩ := least01 at_ 0 (wrap64 ((o.length : Int) - 2)) (by omega)
  rw [hwl] at hm1
  obtain ⟨i, rfl⟩ := Int.eq_ofNat_of_zero_le hm0
  have hi : Aside0 (i + 1 < o.length) := ⟨by omega⟩
  have hsw := Aside0.mk (ordC_swap ha.symm i hi.out)
  replace ha := Aside0.mk ha
  replace hOF := Aside0.mk hOF
  replace hn64 := Aside0.mk hn64
  replace hmm := Aside0.mk hmm
  clear h2 hwl hm0 hm1
  go_enter Try.func13, Try.ntmps13
  go_wp2_with (first | (go_at_call 22; (with_reducible refine (inquestref15_Few.calls A cap l L _ hr.out hc hF.out).mono ?_); rintro e W1 ⟨vF, rfl, hRF, hB1⟩; obtain ⟨AF, cF, rfl⟩ := Kd.R_slice hRF; obtain ⟨_, hcF, hCF⟩ := Kd.R_reads' hRF; replace hCF := Aside0.mk hCF; replace hB1 := Aside0.mk hB1; replace hcF := Aside0.mk hcF; clear hRF) | (go_at_call 31; (with_reducible refine (inquestref17_Few.calls A2 c2 ops0 64 ops _ (Kd.C_below hr2.out hB1.out) hc2 hF2.out).mono ?_); rintro e W2 ⟨vG, rfl, hRG, hB2⟩; obtain ⟨AG, cG, rfl⟩ := Kd.R_slice hRG; obtain ⟨_, hcG, hCG⟩ := Kd.R_reads' hRG; replace hCG := Aside0.mk hCG; replace hB2 := Aside0.mk hB2; replace hcG := Aside0.mk hcG; clear hRG) | (go_at_call 32; (with_reducible refine (hI.out _ (Kd.C_below (Kd.C_below hr3.out hB1.out) hB2.out)).mono ?_); rintro e W3 ⟨vH, rfl, hRH, hB3⟩; obtain ⟨AH, cH, rfl⟩ := Kd.R_slice hRH; obtain ⟨_, hcH, hCH⟩ := Kd.R_reads' hRH; have hchk : Aside0 (∀ (f_ : Int) (W : World), Below W3.heap.size W3 W → Calls Try.prog 33 #[.slice AF L.length cF, .int .i64 f_, .slice AG ops.length cG, .slice AH o.length cH] W fun e w' => e = .returned (.int .i64 (ordC L f_ ops o)) ∧ Below W.heap.size W w') := ⟨fun f_ W hW => ord_Check AF AG AH cF cG cH L f_ ops o W (Kd.C_below (Kd.C_below (Kd.C_below hCF.out hB2.out) hB3) hW) hcF.out hL3.out (Kd.C_below (Kd.C_below hCG.out hB3) hW) hcG.out (Kd.C_below hCH hW) hcH hO3.out⟩; have hB03 := Aside0.mk (below_step (below_step hB1.out hB2.out) hB3); have hCG3 := Aside0.mk (Kd.C_below hCG.out hB3); have hCH3 := Aside0.mk hCH; have hRH3 := Aside0.mk hRH; have h23 := Aside0.mk hB3; have hcH3 := Aside0.mk hcH; clear hRH hCH hcH hB3) | (go_at_call 30; (with_reducible refine (inquestref01_Least.calls fuel 0 300 f _ hf.out).mono ?_); rintro e W5 ⟨rfl, ⟨nd, rfl⟩⟩) | (go_at_call 30; (with_reducible refine (inquestref01_Least.calls at_ 0 (wrap64 ((o.length : Int) - 2)) (i : Int) _ hmm.out).mono ?_); rintro e W55 ⟨rfl, ⟨nd2, rfl⟩⟩) | (go_at_call 33; (with_reducible refine (hchk.out f _ ?hbw).mono ?_); (case hbw => repeat (first | exact Below.refl _ _ | apply pw_below_drewN)); rw [← ha.out]; rintro e W6 ⟨rfl, hB6_⟩; have hB36 : Aside0 (Below W3.heap.size W3 W6) := ⟨below_step (by repeat (first | exact Below.refl _ _ | apply pw_below_drewN)) hB6_⟩; clear hB6_))
  refine vm_gen _ (fun W => Below W3.heap.size W3 W) (by repeat (first | exact hB36.out | apply pw_below_drewN)) ?_
  intro W60 hB60
  replace hB60 := Aside0.mk hB60
  obtain ⟨go, cap_, eo, gb, gl, cl, HG⟩ := Kd.R_form hRH3.out (by have := hi.out; omega)
  injection eo with ea en ec
  subst ea
  subst ec
  replace gb := Aside0.mk gb
  replace gl := Aside0.mk gl
  clear en HG
  have hR60 := Aside0.mk (Kd.R_below hRH3.out hB60.out)
  obtain ⟨hxA, _⟩ := Kd.R_celln (0 : Int) hR60.out (i : Int) (by omega) (by have := hi.out; omega)
  obtain ⟨hxB, _⟩ := Kd.R_celln (0 : Int) hR60.out ((i + 1 : Nat) : Int) (by omega) (by have := hi.out; omega)
  have hxi := hOF.out.ix i (by have := hi.out; omega)
  have hxk := hOF.out.ix (i + 1) hi.out
  obtain ⟨ix, hixe⟩ : ∃ x, x = rd o (i : Int) := ⟨_, rfl⟩
  obtain ⟨kx, hkxe⟩ : ∃ x, x = rd o ((i + 1 : Nat) : Int) := ⟨_, rfl⟩
  rw [← hixe] at hxi
  rw [← hkxe] at hxk
  have hcA : W60.cell? ⟨go, i, none⟩ = some (.int .i64 ix) := by rw [hixe]; exact hxA
  have hcB : W60.cell? ⟨go, i + 1, none⟩ = some (.int .i64 kx) := by rw [hkxe]; exact hxB
  obtain ⟨ad2, e2, hoI⟩ := op_cells7 (Kd.C_below hCG3.out hB60.out) ix hxi.1 hxi.2
  cases e2
  obtain ⟨ad5, e5, hoK⟩ := op_cells7 (Kd.C_below hCG3.out hB60.out) kx hxk.1 hxk.2
  cases e5
  obtain ⟨px, hpx⟩ : ∃ x, x = rd_T65 ops ix := ⟨_, rfl⟩
  obtain ⟨py, hpy⟩ : ∃ x, x = rd_T65 ops kx := ⟨_, rfl⟩
  rw [← hpx] at hoI
  rw [← hpy] at hoK
  have hcAW : Aside0 (∀ W_ : World, Below W60.heap.size W60 W_ → W_.cell? ⟨go, i, none⟩ = some (.int .i64 ix)) := ⟨fun W_ hb => (hb.cell (World.block_lt_of_cell? W60 _ hcA)).trans hcA⟩
  have hcBW : Aside0 (∀ W_ : World, Below W60.heap.size W60 W_ → W_.cell? ⟨go, i + 1, none⟩ = some (.int .i64 kx)) := ⟨fun W_ hb => (hb.cell (World.block_lt_of_cell? W60 _ hcB)).trans hcB⟩
  replace hoI := Aside0.mk hoI
  replace hoK := Aside0.mk hoK
  replace hxi := Aside0.mk hxi
  replace hxk := Aside0.mk hxk
  replace hixe := Aside0.mk hixe
  replace hkxe := Aside0.mk hkxe
  replace hpx := Aside0.mk hpx
  replace hpy := Aside0.mk hpy
  have hsum : Aside0 (IntKind.i64.wrap ((i : Int) + 1) = (i : Int) + 1 ∧ wrap64 ((i : Int) + 1) = (i : Int) + 1) := ⟨IntWalk.i64_in _ ⟨by omega, by have := hi.out; have := hO3.out; omega⟩, w64 (by omega) (by have := hi.out; have := hO3.out; omega)⟩
  have hil : Aside0 (0 ≤ (i : Int) ∧ (i : Int) < (o.length : Int) ∧ 0 ≤ (i : Int) + 1 ∧ (i : Int) + 1 < (o.length : Int) ∧ i < o.length ∧ i + 1 < o.length) := ⟨by have := hi.out; omega⟩
  clear hxA hxB hcA hcB
  refine region_by (fun b us W_ => TwoC W60 15 17 16 18 opZ (opO px) (opO py) b us W_) (by kernel_rfl) (by kernel_rfl) ⟨fun _ => undef, TwoC.start W60 15 17 16 18 _ _ _ _⟩ ?_
  (refine rb_want (fun us => rfl) ?_; apply Exists.intro; apply And.intro; (focus (apply rb_pure; (focus (intro b us w h; exact h.off (by decide) (by decide) (by decide) (by decide))); intro b us W_ hC; go_simp; rfl)); apply Exists.intro; apply And.intro; (focus (intro us; simp only [Act.put, List.setIfInBounds_toArray, List.set_cons_zero, List.set_cons_succ]; rfl)))
  (refine rb_want (fun us => rfl) ?_; apply Exists.intro; apply And.intro; (focus (apply rb_pure; (focus (intro b us w h; exact h.off (by decide) (by decide) (by decide) (by decide))); intro b us W_ hC; go_simp; rfl)); apply Exists.intro; apply And.intro; (focus (intro us; simp only [Act.put, List.setIfInBounds_toArray, List.set_cons_zero, List.set_cons_succ]; rfl)))
  (refine rb_want (fun us => rfl) ?_; apply Exists.intro; apply And.intro; (focus (apply rb_pure; (focus (intro b us w h; exact h.off (by decide) (by decide) (by decide) (by decide))); intro b us W_ hC; go_simp; rfl)); apply Exists.intro; apply And.intro; (focus (intro us; simp only [Act.put, List.setIfInBounds_toArray, List.set_cons_zero, List.set_cons_succ]; rfl)))
  (refine rb_want (fun us => rfl) ?_; apply Exists.intro; apply And.intro; (focus (apply rb_pure; (focus (intro b us w h; exact h.off (by decide) (by decide) (by decide) (by decide))); intro b us W_ hC; have qq := hil.out; obtain ⟨qa, qb, qc, qd, qe, qf⟩ := qq; go_simp; rfl)); apply Exists.intro; apply And.intro; (focus (intro us; simp only [Act.put, List.setIfInBounds_toArray, List.set_cons_zero, List.set_cons_succ]; rfl)))
  (refine rb_want (fun us => rfl) ?_; apply Exists.intro; apply And.intro; (focus (apply rb_pure; (focus (intro b us w h; exact h.off (by decide) (by decide) (by decide) (by decide))); intro b us W_ hC; have q := hcAW.out W_ hC.hB; go_simp; rfl)); apply Exists.intro; apply And.intro; (focus (intro us; simp only [Act.put, List.setIfInBounds_toArray, List.set_cons_zero, List.set_cons_succ]; rfl)))
  (refine rb_want (fun us => rfl) ?_; apply Exists.intro; apply And.intro; (focus (apply rb_pure; (focus (intro b us w h; exact h.off (by decide) (by decide) (by decide) (by decide))); intro b us W_ hC; have qq := hxi.out; obtain ⟨qa, qb⟩ := qq; go_simp; rfl)); apply Exists.intro; apply And.intro; (focus (intro us; simp only [Act.put, List.setIfInBounds_toArray, List.set_cons_zero, List.set_cons_succ]; rfl)))
  (refine rb_want (fun us => rfl) ?_; apply Exists.intro; apply And.intro; (focus (apply rb_pure; (focus (intro b us w h; exact h.off (by decide) (by decide) (by decide) (by decide))); intro b us W_ hC; have y := hoI.out W_ hC.hB; obtain ⟨y0, y1, y2, y3, y4, y5, y6⟩ := y; go_simp; rfl)); apply Exists.intro; apply And.intro; (focus (intro us; simp only [Act.put, List.setIfInBounds_toArray, List.set_cons_zero, List.set_cons_succ]; rfl)))
  (refine rb_want (fun us => rfl) ?_; apply Exists.intro; apply And.intro; (focus (apply rb_pure; (focus (intro b us w h; exact h.off (by decide) (by decide) (by decide) (by decide))); intro b us W_ hC; go_simp; rfl)); apply Exists.intro; apply And.intro; (focus (intro us; simp only [Act.put, List.setIfInBounds_toArray, List.set_cons_zero, List.set_cons_succ]; rfl)))
  (refine rb_want (fun us => rfl) ?_; apply Exists.intro; apply And.intro; (focus (apply rb_pure; (focus (intro b us w h; exact h.off (by decide) (by decide) (by decide) (by decide))); intro b us W_ hC; go_simp; rfl)); apply Exists.intro; apply And.intro; (focus (intro us; simp only [Act.put, List.setIfInBounds_toArray, List.set_cons_zero, List.set_cons_succ]; rfl)))
  (refine rb_want (fun us => rfl) ?_; apply Exists.intro; apply And.intro; (focus (apply rb_pure; (focus (intro b us w h; exact h.off (by decide) (by decide) (by decide) (by decide))); intro b us W_ hC; go_simp; rfl)); apply Exists.intro; apply And.intro; (focus (intro us; simp only [Act.put, List.setIfInBounds_toArray, List.set_cons_zero, List.set_cons_succ]; rfl)))
  (refine rb_want (fun us => rfl) ?_; apply Exists.intro; apply And.intro; (focus (apply rb_pure; (focus (intro b us w h; exact h.off (by decide) (by decide) (by decide) (by decide))); intro b us W_ hC; have q := hsum.out; obtain ⟨q1, q2⟩ := q; go_simp; rfl)); apply Exists.intro; apply And.intro; (focus (intro us; simp only [Act.put, List.setIfInBounds_toArray, List.set_cons_zero, List.set_cons_succ]; rfl)))
  (refine rb_want (fun us => rfl) ?_; apply Exists.intro; apply And.intro; (focus (apply rb_pure; (focus (intro b us w h; exact h.off (by decide) (by decide) (by decide) (by decide))); intro b us W_ hC; have qq := hil.out; obtain ⟨qa, qb, qc, qd, qe, qf⟩ := qq; go_simp; rfl)); apply Exists.intro; apply And.intro; (focus (intro us; simp only [Act.put, List.setIfInBounds_toArray, List.set_cons_zero, List.set_cons_succ]; rfl)))
  (refine rb_want (fun us => rfl) ?_; apply Exists.intro; apply And.intro; (focus (apply rb_pure; (focus (intro b us w h; exact h.off (by decide) (by decide) (by decide) (by decide))); intro b us W_ hC; have q := hcBW.out W_ hC.hB; go_simp; rfl)); apply Exists.intro; apply And.intro; (focus (intro us; simp only [Act.put, List.setIfInBounds_toArray, List.set_cons_zero, List.set_cons_succ]; rfl)))
  (refine rb_want (fun us => rfl) ?_; apply Exists.intro; apply And.intro; (focus (apply rb_pure; (focus (intro b us w h; exact h.off (by decide) (by decide) (by decide) (by decide))); intro b us W_ hC; have qq := hxk.out; obtain ⟨qa, qb⟩ := qq; go_simp; rfl)); apply Exists.intro; apply And.intro; (focus (intro us; simp only [Act.put, List.setIfInBounds_toArray, List.set_cons_zero, List.set_cons_succ]; rfl)))
  (refine rb_want (fun us => rfl) ?_; apply Exists.intro; apply And.intro; (focus (apply rb_pure; (focus (intro b us w h; exact h.off (by decide) (by decide) (by decide) (by decide))); intro b us W_ hC; have y := hoK.out W_ hC.hB; obtain ⟨y0, y1, y2, y3, y4, y5, y6⟩ := y; go_simp; rfl)); apply Exists.intro; apply And.intro; (focus (intro us; simp only [Act.put, List.setIfInBounds_toArray, List.set_cons_zero, List.set_cons_succ]; rfl)))
  (refine rb_open (fun us => rfl) (rb_new (fun b us W_ hb hon hC => ⟨.pointer (some ⟨W_.heap.size, 0, none⟩), W_.alloc opZ, ?_, ?_⟩)) ?_; (focus (first | (go_simp; done) | (go_simp; rfl))); (focus (exact hC.new1 (by decide) (by decide) (by decide) hb)); apply Exists.intro; apply And.intro; (focus (intro us; simp only [Act.put, List.setIfInBounds_toArray, List.set_cons_zero, List.set_cons_succ]; rfl)))
  (refine rb_open (fun us => rfl) (rb_new (fun b us W_ hb hon hC => ⟨.pointer (some ⟨W_.heap.size, 0, none⟩), W_.alloc opZ, ?_, ?_⟩)) ?_; (focus (first | (go_simp; done) | (go_simp; rfl))); (focus (exact hC.new2 (by decide) (by decide) (by decide) hb)); apply Exists.intro; apply And.intro; (focus (intro us; simp only [Act.put, List.setIfInBounds_toArray, List.set_cons_zero, List.set_cons_succ]; rfl)))
  (refine rb_want (fun us => rfl) ⟨undef, rb_store (fun b us W_ hb hon hC => ?_), ?_⟩; (focus (obtain ⟨g, eg, hg, hbk⟩ := hC.at1 (hon 15 (by decide) (by decide)) hb; refine ⟨opPut W_ g px, ?_, hC.put1 (by decide) (by decide) (by decide) (hon 15 (by decide) (by decide)) eg hg (vm_bel7 hC.hB hg) (vm_out7 hbk) (opPut_far W_ g px)⟩; unfold opZ at hbk; have k0 := blk_cell hbk 0; have v0 := blk_frozen hbk 0; have k1 := blk_cell hbk 1; have v1 := blk_frozen hbk 1; have k2 := blk_cell hbk 2; have v2 := blk_frozen hbk 2; have k3 := blk_cell hbk 3; have v3 := blk_frozen hbk 3; have k4 := blk_cell hbk 4; have v4 := blk_frozen hbk 4; have k5 := blk_cell hbk 5; have v5 := blk_frozen hbk 5; have k6 := blk_cell hbk 6; have v6 := blk_frozen hbk 6; simp only [List.getElem?_toArray, List.getElem?_cons_zero, List.getElem?_cons_succ] at k0 k1 k2 k3 k4 k5 k6; rw [eg]; clear hbk; unfold opPut; first | (go_simp; done) | (go_simp; rfl))); apply Exists.intro; apply And.intro; (focus (intro us; simp only [Act.put, List.setIfInBounds_toArray, List.set_cons_zero, List.set_cons_succ]; rfl)))
  (refine rb_want (fun us => rfl) ⟨undef, rb_store (fun b us W_ hb hon hC => ?_), ?_⟩; (focus (obtain ⟨g, eg, hg, hbk⟩ := hC.flip.at1 (hon 16 (by decide) (by decide)) hb; refine ⟨opPut W_ g py, ?_, hC.put2 (by decide) (by decide) (by decide) (hon 16 (by decide) (by decide)) eg hg (vm_bel7 hC.hB hg) (vm_out7 hbk) (opPut_far W_ g py)⟩; unfold opZ at hbk; have k0 := blk_cell hbk 0; have v0 := blk_frozen hbk 0; have k1 := blk_cell hbk 1; have v1 := blk_frozen hbk 1; have k2 := blk_cell hbk 2; have v2 := blk_frozen hbk 2; have k3 := blk_cell hbk 3; have v3 := blk_frozen hbk 3; have k4 := blk_cell hbk 4; have v4 := blk_frozen hbk 4; have k5 := blk_cell hbk 5; have v5 := blk_frozen hbk 5; have k6 := blk_cell hbk 6; have v6 := blk_frozen hbk 6; simp only [List.getElem?_toArray, List.getElem?_cons_zero, List.getElem?_cons_succ] at k0 k1 k2 k3 k4 k5 k6; rw [eg]; clear hbk; unfold opPut; first | (go_simp; done) | (go_simp; rfl))); apply Exists.intro; apply And.intro; (focus (intro us; simp only [Act.put, List.setIfInBounds_toArray, List.set_cons_zero, List.set_cons_succ]; rfl)))
  refine rb_done (fun b us W61 hall hC => ?_)
  obtain ⟨gx, ex, hgx, hbx⟩ := hC.h1.done (hall 15 (by decide)) (hall 17 (by decide))
  obtain ⟨gy, ey, hgy, hby⟩ := hC.h2.done (hall 16 (by decide)) (hall 18 (by decide))
  have hB61 := Aside0.mk hC.hB
  try dsimp only
  rw [ex, ey]
  clear ex ey hC hall
  clear us b
  go_wp2
  refine vm_gen _ (fun W => Below W61.heap.size W61 W) (by repeat (first | exact Below.refl _ _ | apply pw_below_drewN)) ?_
  intro W62 hB62
  have hgxo : Aside0 (gx ≠ go) := ⟨by have a1 := gl.out; have a2 := hB60.out.size; omega⟩
  have hgyo : Aside0 (gy ≠ go) := ⟨by have a1 := gl.out; have a2 := hB60.out.size; omega⟩
  have hC0 := Aside0.mk (SwapC.start (us := fun _ => undef) (i := i) (u := kx) (v := ix) (below_step (below_step h23.out hB60.out) (below_step hB61.out hB62)) (blk_below hbx hB62) (blk_below hby hB62) (Kd.R_below (Kd.R_below hR60.out hB61.out) hB62))
  refine region_by (fun b us W_ => SwapC W2 go cH o.length gx gy (opO px) (opO py) o i kx ix b us W_) (by kernel_rfl) (by kernel_rfl) ⟨fun _ => undef, hC0.out⟩ ?_
  (refine rb_want (fun us => rfl) ?_; apply Exists.intro; apply And.intro; (focus (apply rb_pure; (focus (intro b us w h; exact h.off (by decide) (by decide))); intro b us W_ hC; go_simp; rfl)); apply Exists.intro; apply And.intro; (focus (intro us; simp only [Act.put, List.setIfInBounds_toArray, List.set_cons_zero, List.set_cons_succ]; rfl)))
  (refine rb_want (fun us => rfl) ?_; apply Exists.intro; apply And.intro; (focus (apply rb_pure; (focus (intro b us w h; exact h.off (by decide) (by decide))); intro b us W_ hC; go_simp; rfl)); apply Exists.intro; apply And.intro; (focus (intro us; simp only [Act.put, List.setIfInBounds_toArray, List.set_cons_zero, List.set_cons_succ]; rfl)))
  (refine rb_want (fun us => rfl) ?_; apply Exists.intro; apply And.intro; (focus (apply rb_pure; (focus (intro b us w h; exact h.off (by decide) (by decide))); intro b us W_ hC; go_simp; rfl)); apply Exists.intro; apply And.intro; (focus (intro us; simp only [Act.put, List.setIfInBounds_toArray, List.set_cons_zero, List.set_cons_succ]; rfl)))
  (refine rb_want (fun us => rfl) ?_; apply Exists.intro; apply And.intro; (focus (apply rb_pure; (focus (intro b us w h; exact h.off (by decide) (by decide))); intro b us W_ hC; go_simp; rfl)); apply Exists.intro; apply And.intro; (focus (intro us; simp only [Act.put, List.setIfInBounds_toArray, List.set_cons_zero, List.set_cons_succ]; rfl)))
  (refine rb_want (fun us => rfl) ?_; apply Exists.intro; apply And.intro; (focus (apply rb_pure; (focus (intro b us w h; exact h.off (by decide) (by decide))); intro b us W_ hC; have q := hsum.out; obtain ⟨q1, q2⟩ := q; go_simp; rfl)); apply Exists.intro; apply And.intro; (focus (intro us; simp only [Act.put, List.setIfInBounds_toArray, List.set_cons_zero, List.set_cons_succ]; rfl)))
  (refine rb_want (fun us => rfl) ?_; apply Exists.intro; apply And.intro; (focus (apply rb_pure; (focus (intro b us w h; exact h.off (by decide) (by decide))); intro b us W_ hC; go_simp; rfl)); apply Exists.intro; apply And.intro; (focus (intro us; simp only [Act.put, List.setIfInBounds_toArray, List.set_cons_zero, List.set_cons_succ]; rfl)))
  (refine rb_want (fun us => rfl) ?_; apply Exists.intro; apply And.intro; (focus (apply rb_pure; (focus (intro b us w h; exact h.off (by decide) (by decide))); intro b us W_ hC; go_simp; rfl)); apply Exists.intro; apply And.intro; (focus (intro us; simp only [Act.put, List.setIfInBounds_toArray, List.set_cons_zero, List.set_cons_succ]; rfl)))
  (refine rb_want (fun us => rfl) ?_; apply Exists.intro; apply And.intro; (focus (apply rb_pure; (focus (intro b us w h; exact h.off (by decide) (by decide))); intro b us W_ hC; have q := hsum.out; obtain ⟨q1, q2⟩ := q; go_simp; rfl)); apply Exists.intro; apply And.intro; (focus (intro us; simp only [Act.put, List.setIfInBounds_toArray, List.set_cons_zero, List.set_cons_succ]; rfl)))
  (refine rb_want (fun us => rfl) ?_; apply Exists.intro; apply And.intro; (focus (apply rb_pure; (focus (intro b us w h; exact h.off (by decide) (by decide))); intro b us W_ hC; have qq := hil.out; obtain ⟨qa, qb, qc, qd, qe, qf⟩ := qq; go_simp; rfl)); apply Exists.intro; apply And.intro; (focus (intro us; simp only [Act.put, List.setIfInBounds_toArray, List.set_cons_zero, List.set_cons_succ]; rfl)))
  (refine rb_want (fun us => rfl) ?_; apply Exists.intro; apply And.intro; (focus (apply rb_read; (focus (intro b us w h; exact h.off (by decide) (by decide))); intro b us W_ hb hon hC; have k9 : W_.cell? ⟨go, i + 1, none⟩ = some (.int .i64 kx) := (by rw [hkxe.out]; exact (Kd.R_celln (0 : Int) (hC.old (.inl hb)) ((i + 1 : Nat) : Int) (by omega) (by have := hi.out; omega)).1); first | (go_simp; done) | (go_simp; rfl))); apply Exists.intro; apply And.intro; (focus (intro us; simp only [Act.put, List.setIfInBounds_toArray, List.set_cons_zero, List.set_cons_succ]; rfl)))
  (refine rb_want (fun us => rfl) ?_; apply Exists.intro; apply And.intro; (focus (apply rb_pure; (focus (intro b us w h; exact h.off (by decide) (by decide))); intro b us W_ hC; go_simp; rfl)); apply Exists.intro; apply And.intro; (focus (intro us; simp only [Act.put, List.setIfInBounds_toArray, List.set_cons_zero, List.set_cons_succ]; rfl)))
  (refine rb_want (fun us => rfl) ?_; apply Exists.intro; apply And.intro; (focus (apply rb_pure; (focus (intro b us w h; exact h.off (by decide) (by decide))); intro b us W_ hC; go_simp; rfl)); apply Exists.intro; apply And.intro; (focus (intro us; simp only [Act.put, List.setIfInBounds_toArray, List.set_cons_zero, List.set_cons_succ]; rfl)))
  (refine rb_want (fun us => rfl) ?_; apply Exists.intro; apply And.intro; (focus (apply rb_pure; (focus (intro b us w h; exact h.off (by decide) (by decide))); intro b us W_ hC; have qq := hil.out; obtain ⟨qa, qb, qc, qd, qe, qf⟩ := qq; go_simp; rfl)); apply Exists.intro; apply And.intro; (focus (intro us; simp only [Act.put, List.setIfInBounds_toArray, List.set_cons_zero, List.set_cons_succ]; rfl)))
  (refine rb_want (fun us => rfl) ?_; apply Exists.intro; apply And.intro; (focus (apply rb_read; (focus (intro b us w h; exact h.off (by decide) (by decide))); intro b us W_ hb hon hC; have k9 : W_.cell? ⟨go, i, none⟩ = some (.int .i64 ix) := (by rw [hixe.out]; exact (Kd.R_celln (0 : Int) (hC.old (.inr hb)) (i : Int) (by omega) (by have := hi.out; omega)).1); first | (go_simp; done) | (go_simp; rfl))); apply Exists.intro; apply And.intro; (focus (intro us; simp only [Act.put, List.setIfInBounds_toArray, List.set_cons_zero, List.set_cons_succ]; rfl)))
  (refine rb_want (fun us => rfl) ?_; apply Exists.intro; apply And.intro; (focus (apply rb_pure; (focus (intro b us w h; exact h.off (by decide) (by decide))); intro b us W_ hC; have qq := hil.out; obtain ⟨qa, qb, qc, qd, qe, qf⟩ := qq; go_simp; rfl)); apply Exists.intro; apply And.intro; (focus (intro us; simp only [Act.put, List.setIfInBounds_toArray, List.set_cons_zero, List.set_cons_succ]; rfl)))
  (refine rb_want (fun us => rfl) ⟨undef, rb_store (fun b us W_ hb hon hC => ?_), ?_⟩; (focus (obtain ⟨z0, k0, v0⟩ := hC.cell (j := i) (by have := hi.out; omega); refine ⟨W_.setCell ⟨go, i, none⟩ (.int .i64 kx), ?_, hC.put15 (hon 9 (by decide) (by decide)) (hon 13 (by decide) (by decide)) hb gb.out hgxo.out hgyo.out⟩; first | (go_simp; done) | (go_simp; rfl))); apply Exists.intro; apply And.intro; (focus (intro us; simp only [Act.put, List.setIfInBounds_toArray, List.set_cons_zero, List.set_cons_succ]; rfl)))
  (refine rb_want (fun us => rfl) ?_; apply Exists.intro; apply And.intro; (focus (apply rb_pure; (focus (intro b us w h; exact h.off (by decide) (by decide))); intro b us W_ hC; have qq := hil.out; obtain ⟨qa, qb, qc, qd, qe, qf⟩ := qq; go_simp; rfl)); apply Exists.intro; apply And.intro; (focus (intro us; simp only [Act.put, List.setIfInBounds_toArray, List.set_cons_zero, List.set_cons_succ]; rfl)))
  (refine rb_want (fun us => rfl) ⟨undef, rb_store (fun b us W_ hb hon hC => ?_), ?_⟩; (focus (obtain ⟨z0, k0, v0⟩ := hC.cell (j := i + 1) (by have := hi.out; omega); refine ⟨W_.setCell ⟨go, i + 1, none⟩ (.int .i64 ix), ?_, hC.put17 (hon 9 (by decide) (by decide)) (hon 13 (by decide) (by decide)) hb gb.out hgxo.out hgyo.out⟩; have q := hsum.out; obtain ⟨q1, q2⟩ := q; first | (go_simp; done) | (go_simp; rfl))); apply Exists.intro; apply And.intro; (focus (intro us; simp only [Act.put, List.setIfInBounds_toArray, List.set_cons_zero, List.set_cons_succ]; rfl)))
  refine rb_done (fun b us W63 hall hC => ?_)
  have hrow := Aside0.mk hC.row
  rw [if_pos (hall 17 (by decide)), if_pos (hall 15 (by decide))] at hrow
  have hB63 := Aside0.mk hC.hB
  have hbx3 := hC.hx
  have hby3 := hC.hy
  clear hC hall hC0
  clear us b
  have hsw2 := hsw.out
  have e17 : (o.set i kx).set (i + 1) ix = swapZ o i := by unfold swapZ; rw [← hkxe.out, ← hixe.out]
  rw [e17] at hrow
  have hlen := swapZ_len o i
  rw [← hixe.out, ← hkxe.out, ← hpx.out, ← hpy.out] at hsw2
  have hchk2 : Aside0 (∀ W : World, Below W63.heap.size W63 W → Calls Try.prog 33 #[.slice AF L.length cF, .int .i64 f, .slice (some ad2) ops.length cG, .slice (some ⟨go, 0, none⟩) o.length cH] W fun e w' => e = .returned (.int .i64 (ordC L f ops (swapZ o i))) ∧ Below W.heap.size W w') := ⟨fun W hW => by
    obtain ⟨_, hc9, hC9⟩ := Kd.R_reads' (by rw [← hlen] at hrow; exact hrow.out)
    have q := ord_Check AF (some ad2) (some ⟨go, 0, none⟩) cF cG cH L f ops (swapZ o i) W (Kd.C_below (Kd.C_below (Kd.C_below hCF.out hB2.out) hB63.out) hW) hcF.out hL3.out (Kd.C_below (Kd.C_below hCG.out hB63.out) hW) hcG.out (Kd.C_below hC9 hW) hc9 (by rw [hlen]; exact hO3.out)
    rw [hlen] at q; exact q⟩
  obtain ⟨a2, ha2⟩ : ∃ x, x = ordC L f ops (swapZ o i) := ⟨_, rfl⟩
  rw [← ha2] at hsw2
  replace ha2 := Aside0.mk ha2
  obtain ⟨bz, hbz⟩ : ∃ x, x = befZ px py := ⟨_, rfl⟩
  rw [← hbz] at hsw2
  have hbz2 : Aside0 (hist_Before.f px.f0 px.f1 px.f2 px.f3 px.f4 px.f5 px.f6 py.f0 py.f1 py.f2 py.f3 py.f4 py.f5 py.f6 = some bz) := ⟨by rw [hbz]; exact hist_bef px py⟩
  clear hbz
  have hbz := hbz2
  clear hbz2
  replace hbx3 := Aside0.mk hbx3
  replace hby3 := Aside0.mk hby3
  replace hlen := Aside0.mk hlen
  replace e17 := Aside0.mk e17
  cases bz with
  | true =>
    obtain rfl : a2 = 17 := hsw2.1 rfl
    clear hsw2
    go_wp2_with (first | (go_at_call 33; (with_reducible refine (hchk2.out _ ?hbw).mono ?_); (case hbw => repeat (first | exact Below.refl _ _ | apply pw_below_drewN)); rw [← ha2.out]; rintro e W7 ⟨rfl, hB7_⟩; have hB7 : Aside0 (Below W63.heap.size W63 W7) := ⟨below_step (by repeat (first | exact Below.refl _ _ | apply pw_below_drewN)) hB7_⟩; clear hB7_; have b1 := blk_below hbx3.out hB7.out; have b2 := blk_below hby3.out hB7.out; unfold opO at b1 b2; have x0 := blk_cell b1 0; have y0 := blk_cell b2 0; have x1 := blk_cell b1 1; have y1 := blk_cell b2 1; have x2 := blk_cell b1 2; have y2 := blk_cell b2 2; have x3 := blk_cell b1 3; have y3 := blk_cell b2 3; have x4 := blk_cell b1 4; have y4 := blk_cell b2 4; have x5 := blk_cell b1 5; have y5 := blk_cell b2 5; have x6 := blk_cell b1 6; have y6 := blk_cell b2 6; simp only [List.getElem?_toArray, List.getElem?_cons_zero, List.getElem?_cons_succ] at x0 x1 x2 x3 x4 x5 x6 y0 y1 y2 y3 y4 y5 y6; clear b1 b2) | (go_at_call 38; (with_reducible refine (hist_Before.calls px.f0 px.f1 px.f2 px.f3 px.f4 px.f5 px.f6 py.f0 py.f1 py.f2 py.f3 py.f4 py.f5 py.f6 _ _ hbz.out).mono ?_); rintro e W8 ⟨rfl, hB8⟩; replace hB8 := Aside0.mk hB8) | (go_at_call 37; (with_reducible refine (ord_lives _).mono ?_); rintro e WZ ⟨rfl, hBZ⟩; replace hBZ := Aside0.mk hBZ))
    go_ret
    exact ⟨rfl, below_step (below_step (below_step (below_step (below_step hB1.out hB2.out) hB63.out) hB7.out) hB8.out) hBZ.out⟩
  | false =>
    have h3 := hsw2.2 rfl
    clear hsw2
    rcases h3 with rfl | rfl | rfl
    all_goals
      go_wp2_with (first | (go_at_call 33; (with_reducible refine (hchk2.out _ ?hbw).mono ?_); (case hbw => repeat (first | exact Below.refl _ _ | apply pw_below_drewN)); rw [← ha2.out]; rintro e W7 ⟨rfl, hB7_⟩; have hB7 : Aside0 (Below W63.heap.size W63 W7) := ⟨below_step (by repeat (first | exact Below.refl _ _ | apply pw_below_drewN)) hB7_⟩; clear hB7_; have b1 := blk_below hbx3.out hB7.out; have b2 := blk_below hby3.out hB7.out; unfold opO at b1 b2; have x0 := blk_cell b1 0; have y0 := blk_cell b2 0; have x1 := blk_cell b1 1; have y1 := blk_cell b2 1; have x2 := blk_cell b1 2; have y2 := blk_cell b2 2; have x3 := blk_cell b1 3; have y3 := blk_cell b2 3; have x4 := blk_cell b1 4; have y4 := blk_cell b2 4; have x5 := blk_cell b1 5; have y5 := blk_cell b2 5; have x6 := blk_cell b1 6; have y6 := blk_cell b2 6; simp only [List.getElem?_toArray, List.getElem?_cons_zero, List.getElem?_cons_succ] at x0 x1 x2 x3 x4 x5 x6 y0 y1 y2 y3 y4 y5 y6; clear b1 b2) | (go_at_call 38; (with_reducible refine (hist_Before.calls px.f0 px.f1 px.f2 px.f3 px.f4 px.f5 px.f6 py.f0 py.f1 py.f2 py.f3 py.f4 py.f5 py.f6 _ _ hbz.out).mono ?_); rintro e W8 ⟨rfl, hB8⟩; replace hB8 := Aside0.mk hB8) | (go_at_call 37; (with_reducible refine (ord_lives _).mono ?_); rintro e WZ ⟨rfl, hBZ⟩; replace hBZ := Aside0.mk hBZ))
      go_ret
      exact ⟨rfl, below_step (below_step (below_step (below_step (below_step hB1.out hB2.out) hB63.out) hB7.out) hB8.out) hBZ.out⟩
theorem inquestlaw17_OrderSwaps.any (A : Option Addr) (cap : Nat) (l : List S36) (fuel : Int) (A2 : Option Addr) (c2 : Nat) (ops0 : List S65) (A3 : Option Addr) (c3 : Nat) (o0 : List Int) (at_ : Int) (w : World) (hr : Kd.C k36 w A l.length l) (hc : l.length ≤ cap) (hm : l.length ≤ maxLen) {P0 : Prop} (_ : P0) {P1 : Prop} (_ : P1) (hr2 : Kd.C k65 w A2 ops0.length ops0) (hc2 : ops0.length ≤ c2) {P3 : Prop} (_ : P3) {P4 : Prop} (_ : P4) (hr3 : Kd.C (Kd.int .i64) w A3 o0.length o0) (hc3 : o0.length ≤ c3) {P5 : Prop} (_ : P5) {P6 : Prop} (_ : P6) {P7 : Prop} (_ : P7) :
    Calls Try.prog 13 #[.slice A l.length cap, .int .i64 fuel, .slice A2 ops0.length c2, .slice A3 o0.length c3, .int .i64 at_] w fun e w' => e = .returned (.bool true) ∧ Below w.heap.size w w' :=
  orderSwaps_core A cap l fuel A2 c2 ops0 A3 c3 o0 at_ w hr hc hm hr2 hc2 hr3 hc3
end Go.Proofs.Ytddkoimaghcbeaa.PVmSteps
