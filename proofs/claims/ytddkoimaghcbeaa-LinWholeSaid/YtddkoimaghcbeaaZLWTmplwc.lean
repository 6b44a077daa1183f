/- A part of what the law LinWhole stands on, only as far as it is needed (the words and walks were printed or written in this seat; this text was cut by a program of this session, wip/bin/trim.py). No condition beyond what each theorem says. -/
import Derived.Test.YtddkoimaghcbeaaZLWPVmStepsx0
import Derived.Test.YtddkoimaghcbeaaZLWPVmStepsx2
import Derived.Test.YtddkoimaghcbeaaZLWPVmStepsx3
import Derived.Test.YtddkoimaghcbeaaZLWPVmStepsx4
import Derived.Test.YtddkoimaghcbeaaZLWPVmStepsx5
import Derived.Test.YtddkoimaghcbeaaZLWTmplwb
namespace Go.Proofs.Ytddkoimaghcbeaa.PVmSteps
open Go.RowKit Go.Proofs.YtddkoimaghcbeaaW.PrintWords Go.Proofs.YtddkoimaghcbeaaW.PrintLast Go.Proofs.YtddkoimaghcbeaaW.PrintMore
set_option linter.unusedVariables false
set_option linter.unusedSimpArgs false
theorem self_no {ops : List S65} (h : selfZ ops = false) : ∀ i : Nat, i < ops.length → befZ (rd_T65 ops (i : Int)) (rd_T65 ops (i : Int)) = false := fun i hi => by
  have y := List.any_eq_false.mp h i (List.mem_range.mpr hi)
  simpa using y
theorem enZ_eZW : ∀ n : Nat, n < 6 → enZ (n : Int) = (eZ n : Int) ∧ eZ n ≤ 1073741824 := by decide +kernel
set_option maxRecDepth 100000 in
set_option maxHeartbeats 8000000 in
theorem inquestlaw18_LinWhole.any (A : Option Addr) (cap : Nat) (l : List S36) (fuel : Int) (A2 : Option Addr) (c2 : Nat) (ops0 : List S65) (w : World) (hr : Kd.C k36 w A l.length l) (hc : l.length ≤ cap) (hm : l.length ≤ maxLen) {P0 : Prop} (_ : P0) {P1 : Prop} (_ : P1) (hr2 : Kd.C k65 w A2 ops0.length ops0) (hc2 : ops0.length ≤ c2) {P3 : Prop} (_ : P3) {P4 : Prop} (_ : P4) :
    Calls Try.prog 21 #[.slice A l.length cap, .int .i64 fuel, .slice A2 ops0.length c2] w fun e w' => e = .returned (.bool true) ∧ Below w.heap.size w w' := by
  have hF := Aside0.mk (few15 l hm)
  have hF2 := Aside0.mk (few17 ops0 5 (by decide) (by decide))
  have hL2 : (l.take 210).length ≤ 210 := by rw [List.length_take]; omega
  have hO2 : (ops0.take (5 : Int).toNat).length < 6 := by rw [List.length_take]; show min 5 _ < 6; omega
  generalize l.take 210 = L at *
  generalize ops0.take (5 : Int).toNat = ops at *
  have hL3 : Aside0 (L.length ≤ 300) := ⟨by omega⟩
  have hn64 : Aside0 (ops.length ≤ 64) := ⟨by omega⟩
  replace hr := Aside0.mk hr
  replace hr2 := Aside0.mk hr2
  obtain ⟨f, hf, hf0, hf1⟩ := least01 fuel 0 300 (by decide)
  replace hf := Aside0.mk hf
  have hez := enZ_eZW ops.length hO2
  obtain ⟨kE, hkE⟩ := lin_en (ops.length : Int) (by omega)
  obtain ⟨bE, hbE⟩ : ∃ x, x = enZ (ops.length : Int) := ⟨_, rfl⟩
  rw [← hbE] at hkE hez
  replace hkE := Aside0.mk hkE
  clear hL2 hm hO2
  by_cases hE : newE L f bE ops = 0
  rotate_left
  · have hwn : Aside0 (∀ (AF AG : Option Addr) (cF cG : Nat) (W : World), Kd.C k36 W AF L.length L → L.length ≤ cF → Kd.C k65 W AG ops.length ops → ops.length ≤ cG → Calls Try.prog 48 #[.slice AF L.length cF, .int .i64 f, .int .i64 bE, .slice AG ops.length cG] W fun e w' => e = .returned (.tuple #[.agg #[.int .i64 0, .slice none 0 0, .int .i64 0], .bool false]) ∧ Below W.heap.size W w') := ⟨fun AF AG cF cG W h1 h2 h3 h4 => lin_whole_n AF AG cF cG L f bE ops W h1 h2 hL3.out h3 h4 hE⟩
    clear hf0 hf1 hE hez hbE
    go_enter Try.func21, Try.ntmps21
    go_wp2_with (first | (go_at_call 22; (with_reducible refine (inquestref15_Few.calls A cap l L _ hr.out hc hF.out).mono ?_); rintro e W1 ⟨vF, rfl, hRF, hB1⟩; obtain ⟨AF, cF, rfl⟩ := Kd.R_slice hRF; obtain ⟨_, hcF, hCF⟩ := Kd.R_reads' hRF; replace hCF := Aside0.mk hCF; replace hB1 := Aside0.mk hB1; replace hcF := Aside0.mk hcF; clear hRF) | (go_at_call 31; (with_reducible refine (inquestref17_Few.calls A2 c2 ops0 5 ops _ (Kd.C_below hr2.out hB1.out) hc2 hF2.out).mono ?_); rintro e W2 ⟨vG, rfl, hRG, hB2⟩; obtain ⟨AG, cG, rfl⟩ := Kd.R_slice hRG; obtain ⟨_, hcG, hCG⟩ := Kd.R_reads' hRG; have hCF2 := Aside0.mk (Kd.C_below hCF.out hB2); have hB02 := Aside0.mk (below_step hB1.out hB2); replace hCG := Aside0.mk hCG; replace hcG := Aside0.mk hcG; clear hRG hB2) | (go_at_call 30; (with_reducible refine (inquestref01_Least.calls fuel 0 300 f _ hf.out).mono ?_); rintro e W3 ⟨rfl, ⟨nW3, rfl⟩⟩) | (go_at_call 49; (with_reducible refine (lin_Enough.calls kE (ops.length : Int) bE _ hkE.out).mono ?_); rintro e WE ⟨rfl, ⟨nE, rfl⟩⟩) | (go_at_call 48; (with_reducible refine (hwn.out _ _ _ _ _ (Kd.C_below hCF2.out (by repeat (first | exact Below.refl _ _ | apply pw_below_drewN))) hcF.out (Kd.C_below hCG.out (by repeat (first | exact Below.refl _ _ | apply pw_below_drewN))) hcG.out).mono ?_); rintro e W5 ⟨rfl, hB5⟩; replace hB5 := Aside0.mk hB5) | (go_at_call 41; (with_reducible refine (lin_lives _).mono ?_); rintro e WZ ⟨rfl, hBZ⟩; replace hBZ := Aside0.mk hBZ))
    go_ret
    exact ⟨rfl, below_step (below_alloc (below_step hB02.out (below_step (by repeat (first | exact Below.refl _ _ | apply pw_below_drewN)) hB5.out)) _) hBZ.out⟩
  have hSI := fullZ_SI hE
  have hov := fullZ_over hE
  have hk9 : (fullZ ⟨L, f, bE, ops⟩).kind ≠ 4 := fun e => by
    have y := hSI.k4 hov e
    have y2 := hez.1
    have y3 : ((fullZ ⟨L, f, bE, ops⟩).tries : Int) = bE := y.1
    have y4 : (fullZ ⟨L, f, bE, ops⟩).tries < eZ ops.length := y.2
    omega
  obtain ⟨S, hS⟩ : ∃ S, S = fullZ ⟨L, f, bE, ops⟩ := ⟨_, rfl⟩
  rw [← hS] at hSI hov hk9
  obtain ⟨kd, hkd⟩ : ∃ k, k = S.kind := ⟨_, rfl⟩
  obtain ⟨td, htd⟩ : ∃ t : Int, t = (S.tries : Int) := ⟨_, rfl⟩
  obtain ⟨od, hod⟩ : ∃ od, od = (if kd = 1 then S.order else []) := ⟨_, rfl⟩
  have hwy : Aside0 (∀ (AF AG : Option Addr) (cF cG : Nat) (W : World), Kd.C k36 W AF L.length L → L.length ≤ cF → Kd.C k65 W AG ops.length ops → ops.length ≤ cG → Calls Try.prog 48 #[.slice AF L.length cF, .int .i64 f, .int .i64 bE, .slice AG ops.length cG] W fun e w' => ∃ v, e = .returned (.tuple #[.agg #[.int .i64 kd, v, .int .i64 td], .bool true]) ∧ Kd.R (Kd.int .i64) 3 w' W.heap.size (fun _ => True) v od ∧ Below W.heap.size W w') := ⟨fun AF AG cF cG W h1 h2 h3 h4 => by
    have y := lin_whole_y AF AG cF cG L f bE ops W h1 h2 hL3.out h3 h4 hE
    rw [← hS, ← hkd, ← htd, ← hod] at y
    exact y⟩
  have hk := hSI.ov hov
  rw [← hkd] at hk hk9
  have hk4 : (kd == 4) = false := by simpa using hk9
  have hE0 := newE_0 hE
  by_cases hk3 : kd = 3
  · have hk3b : (kd == 3) = true := by simpa using hk3
    clear hf0 hf1 hE hSI hov hS hkd htd hod hk9 hk hk3 hez hbE hE0
    go_enter Try.func21, Try.ntmps21
    go_wp2_with (first | (go_at_call 22; (with_reducible refine (inquestref15_Few.calls A cap l L _ hr.out hc hF.out).mono ?_); rintro e W1 ⟨vF, rfl, hRF, hB1⟩; obtain ⟨AF, cF, rfl⟩ := Kd.R_slice hRF; obtain ⟨_, hcF, hCF⟩ := Kd.R_reads' hRF; replace hCF := Aside0.mk hCF; replace hB1 := Aside0.mk hB1; replace hcF := Aside0.mk hcF; clear hRF) | (go_at_call 31; (with_reducible refine (inquestref17_Few.calls A2 c2 ops0 5 ops _ (Kd.C_below hr2.out hB1.out) hc2 hF2.out).mono ?_); rintro e W2 ⟨vG, rfl, hRG, hB2⟩; obtain ⟨AG, cG, rfl⟩ := Kd.R_slice hRG; obtain ⟨_, hcG, hCG⟩ := Kd.R_reads' hRG; have hCF2 := Aside0.mk (Kd.C_below hCF.out hB2); have hB02 := Aside0.mk (below_step hB1.out hB2); replace hCG := Aside0.mk hCG; replace hcG := Aside0.mk hcG; clear hRG hB2) | (go_at_call 30; (with_reducible refine (inquestref01_Least.calls fuel 0 300 f _ hf.out).mono ?_); rintro e W3 ⟨rfl, ⟨nW3, rfl⟩⟩) | (go_at_call 49; (with_reducible refine (lin_Enough.calls kE (ops.length : Int) bE _ hkE.out).mono ?_); rintro e WE ⟨rfl, ⟨nE, rfl⟩⟩) | (go_at_call 48; (with_reducible refine (hwy.out _ _ _ _ _ (Kd.C_below hCF2.out (by repeat (first | exact Below.refl _ _ | apply pw_below_drewN))) hcF.out (Kd.C_below hCG.out (by repeat (first | exact Below.refl _ _ | apply pw_below_drewN))) hcG.out).mono ?_); rintro e W5 ⟨v, rfl, hv, hB5⟩; obtain ⟨A8, c8_, rfl⟩ := Kd.R_slice hv; have hCF5 := Aside0.mk (Kd.C_below (Kd.C_below hCF2.out (by repeat (first | exact Below.refl _ _ | apply pw_below_drewN))) hB5); have hCG5 := Aside0.mk (Kd.C_below (Kd.C_below hCG.out (by repeat (first | exact Below.refl _ _ | apply pw_below_drewN))) hB5); replace hB5 := Aside0.mk hB5; clear hv) | (go_at_call 41; (with_reducible refine (lin_lives _).mono ?_); rintro e WZ ⟨rfl, hBZ⟩; replace hBZ := Aside0.mk hBZ))
    go_ret
    exact ⟨rfl, below_step (below_alloc (below_step hB02.out (below_step (by repeat (first | exact Below.refl _ _ | apply pw_below_drewN)) hB5.out)) _) hBZ.out⟩
  have hk3b : (kd == 3) = false := by simpa using hk3
  by_cases hk1 : kd = 1
  · have hRv : Aside0 (ordB (fun o => decide (ordC L f ops o = 0)) ops.length ops.length [] = true) := ⟨by
      obtain ⟨p, h1, h2⟩ := hSI.k1 hov (by rw [← hkd]; exact hk1)
      have h3 := pth_ord (q := ⟨L, f, bE, ops⟩) hE0.1 ⟨hf0, by show f ≤ 10000; omega⟩ hE0.2.2.1 h1 h2
      have h4 := pth_facts h1
      have h5 : DstZ ops.length S.order := ⟨fun x hx => ⟨(h4.1 x hx).1, (h4.1 x hx).2.1⟩, h4.2.1⟩
      exact (ordB_iff _ _ _ _ ⟨by simp, by simp⟩).mpr ⟨S.order, pig _ _ h5, by simpa using h5, by simpa using h3⟩⟩
    replace hk1 : (kd == 1) = true := by simpa using hk1
    clear hf0 hf1 hE hSI hov hS hkd htd hod hk9 hk hk3 hez hbE hE0
    go_enter Try.func21, Try.ntmps21
    go_wp2_with (first | (go_at_call 22; (with_reducible refine (inquestref15_Few.calls A cap l L _ hr.out hc hF.out).mono ?_); rintro e W1 ⟨vF, rfl, hRF, hB1⟩; obtain ⟨AF, cF, rfl⟩ := Kd.R_slice hRF; obtain ⟨_, hcF, hCF⟩ := Kd.R_reads' hRF; replace hCF := Aside0.mk hCF; replace hB1 := Aside0.mk hB1; replace hcF := Aside0.mk hcF; clear hRF) | (go_at_call 31; (with_reducible refine (inquestref17_Few.calls A2 c2 ops0 5 ops _ (Kd.C_below hr2.out hB1.out) hc2 hF2.out).mono ?_); rintro e W2 ⟨vG, rfl, hRG, hB2⟩; obtain ⟨AG, cG, rfl⟩ := Kd.R_slice hRG; obtain ⟨_, hcG, hCG⟩ := Kd.R_reads' hRG; have hCF2 := Aside0.mk (Kd.C_below hCF.out hB2); have hB02 := Aside0.mk (below_step hB1.out hB2); replace hCG := Aside0.mk hCG; replace hcG := Aside0.mk hcG; clear hRG hB2) | (go_at_call 30; (with_reducible refine (inquestref01_Least.calls fuel 0 300 f _ hf.out).mono ?_); rintro e W3 ⟨rfl, ⟨nW3, rfl⟩⟩) | (go_at_call 49; (with_reducible refine (lin_Enough.calls kE (ops.length : Int) bE _ hkE.out).mono ?_); rintro e WE ⟨rfl, ⟨nE, rfl⟩⟩) | (go_at_call 48; (with_reducible refine (hwy.out _ _ _ _ _ (Kd.C_below hCF2.out (by repeat (first | exact Below.refl _ _ | apply pw_below_drewN))) hcF.out (Kd.C_below hCG.out (by repeat (first | exact Below.refl _ _ | apply pw_below_drewN))) hcG.out).mono ?_); rintro e W5 ⟨v, rfl, hv, hB5⟩; obtain ⟨A8, c8_, rfl⟩ := Kd.R_slice hv; have hCF5 := Aside0.mk (Kd.C_below (Kd.C_below hCF2.out (by repeat (first | exact Below.refl _ _ | apply pw_below_drewN))) hB5); have hCG5 := Aside0.mk (Kd.C_below (Kd.C_below hCG.out (by repeat (first | exact Below.refl _ _ | apply pw_below_drewN))) hB5); replace hB5 := Aside0.mk hB5; clear hv))
    have hcK : Aside0 (∀ W_, Below (W5.alloc (.cells #[.int .i64 kd, .slice A8 od.length c8_, .int .i64 td] 75)).heap.size (W5.alloc (.cells #[.int .i64 kd, .slice A8 od.length c8_, .int .i64 td] 75)) W_ → W_.cell? ⟨W5.heap.size, 0, none⟩ = some (.int .i64 kd)) := ⟨fun W_ h => blk_cell (blk_below (blk_new W5 (.cells #[.int .i64 kd, .slice A8 od.length c8_, .int .i64 td] 75)) h) 0⟩
    have hords : Aside0 (∀ W_, Below (W5.alloc (.cells #[.int .i64 kd, .slice A8 od.length c8_, .int .i64 td] 75)).heap.size (W5.alloc (.cells #[.int .i64 kd, .slice A8 od.length c8_, .int .i64 td] 75)) W_ → Calls Try.prog 53 #[.slice AF L.length cF, .int .i64 f, .slice AG ops.length cG, .slice none 0 0] W_ fun e w' => e = .returned (.bool true) ∧ Below W_.heap.size W_ w') := ⟨fun W_ h => by
      have y := r18_orders AF AG cF cG L f ops hcF.out hL3.out hcG.out hn64.out ops.length [] ⟨by simp, by simp⟩ (by simp) none 0 W_ (Kd.C_below (Kd.C_alloc hCF5.out _) h) (Kd.C_below (Kd.C_alloc hCG5.out _) h) (Kd.C_nil _ _) (by simp)
      rw [hRv.out] at y
      exact y⟩
    refine region_by (fun b us W_ => Below (W5.alloc (.cells #[.int .i64 kd, .slice A8 od.length c8_, .int .i64 td] 75)).heap.size (W5.alloc (.cells #[.int .i64 kd, .slice A8 od.length c8_, .int .i64 td] 75)) W_) (by kernel_rfl) (by kernel_rfl) ⟨fun _ => undef, below_drew (Below.refl _ _)⟩ ?_
    (refine rb_want (fun us => rfl) ?_; apply Exists.intro; apply And.intro; (focus (apply rb_pure; (focus (intro b us w h; exact h)); intro b us W_ hC; go_simp; rfl)); apply Exists.intro; apply And.intro; (focus (intro us; simp only [Act.put, List.setIfInBounds_toArray, List.set_cons_zero, List.set_cons_succ]; rfl)))
    (refine rb_want (fun us => rfl) ?_; apply Exists.intro; apply And.intro; (focus (apply rb_pure; (focus (intro b us w h; exact h)); intro b us W_ hC; have y := hcK.out W_ hC; go_simp; rfl)); apply Exists.intro; apply And.intro; (focus (intro us; simp only [Act.put, List.setIfInBounds_toArray, List.set_cons_zero, List.set_cons_succ]; rfl)))
    (refine rb_want (fun us => rfl) ?_; apply Exists.intro; apply And.intro; (focus (apply rb_pure; (focus (intro b us w h; exact h)); intro b us W_ hC; have y := hk1; go_simp; rfl)); apply Exists.intro; apply And.intro; (focus (intro us; simp only [Act.put, List.setIfInBounds_toArray, List.set_cons_zero, List.set_cons_succ]; rfl)))
    (refine rb_want (fun us => rfl) ?_; apply Exists.intro; apply And.intro; (focus (apply rb_pure; (focus (intro b us w h; exact h)); intro b us W_ hC; go_simp; rfl)); apply Exists.intro; apply And.intro; (focus (intro us; simp only [Act.put, List.setIfInBounds_toArray, List.set_cons_zero, List.set_cons_succ]; rfl)))
    (refine rb_want (fun us => rfl) ?_; apply Exists.intro; apply And.intro; (focus (apply rb_pure; (focus (intro b us w h; exact h)); intro b us W_ hC; go_simp; rfl)); apply Exists.intro; apply And.intro; (focus (intro us; simp only [Act.put, List.setIfInBounds_toArray, List.set_cons_zero, List.set_cons_succ]; rfl)))
    (refine rb_want (fun us => rfl) ?_; apply Exists.intro; apply And.intro; (focus (apply rb_pure; (focus (intro b us w h; exact h)); intro b us W_ hC; go_simp; rfl)); apply Exists.intro; apply And.intro; (focus (intro us; simp only [Act.put, List.setIfInBounds_toArray, List.set_cons_zero, List.set_cons_succ]; rfl)))
    (refine rb_want (fun us => rfl) ⟨.bool true, rb_call (f := 53) (args := fun us => #[.slice AF L.length cF, .int .i64 f, .slice AG ops.length cG, .slice none 0 0]) (fun us W_ => ?_) (fun b us W_ hb hon hC => ?_), ?_⟩; (focus (exact rb_enters Try.func53 (by kernel_rfl) rfl (by rfl) W_)); (focus (refine (hords.out W_ hC).mono ?_; rintro e w1 ⟨rfl, hbw⟩; exact ⟨rfl, below_step hC hbw⟩)); apply Exists.intro; apply And.intro; (focus (intro us; simp only [Act.put, List.setIfInBounds_toArray, List.set_cons_zero, List.set_cons_succ]; rfl)))
    (refine rb_want (fun us => rfl) ?_; apply Exists.intro; apply And.intro; (focus (apply rb_pure; (focus (intro b us w h; exact h)); intro b us W_ hC; go_simp; rfl)); apply Exists.intro; apply And.intro; (focus (intro us; simp only [Act.put, List.setIfInBounds_toArray, List.set_cons_zero, List.set_cons_succ]; rfl)))
    (refine rb_want (fun us => rfl) ?_; apply Exists.intro; apply And.intro; (focus (apply rb_pure; (focus (intro b us w h; exact h)); intro b us W_ hC; go_simp; rfl)); apply Exists.intro; apply And.intro; (focus (intro us; simp only [Act.put, List.setIfInBounds_toArray, List.set_cons_zero, List.set_cons_succ]; rfl)))
    (refine rb_want (fun us => rfl) ⟨.bool true, rb_call (f := 41) (args := fun us => #[]) (fun us W_ => ?_) (fun b us W_ hb hon hC => ?_), ?_⟩; (focus (exact rb_enters Try.func41 (by kernel_rfl) rfl (by rfl) W_)); (focus (refine (lin_lives W_).mono ?_; rintro e w1 ⟨rfl, hbw⟩; exact ⟨rfl, below_step hC hbw⟩)); apply Exists.intro; apply And.intro; (focus (intro us; simp only [Act.put, List.setIfInBounds_toArray, List.set_cons_zero, List.set_cons_succ]; rfl)))
    (refine rb_want (fun us => rfl) ?_; apply Exists.intro; apply And.intro; (focus (apply rb_pure; (focus (intro b us w h; exact h)); intro b us W_ hC; go_simp; rfl)); apply Exists.intro; apply And.intro; (focus (intro us; simp only [Act.put, List.setIfInBounds_toArray, List.set_cons_zero, List.set_cons_succ]; rfl)))
    (refine rb_want (fun us => rfl) ?_; apply Exists.intro; apply And.intro; (focus (apply rb_pure; (focus (intro b us w h; exact h)); intro b us W_ hC; go_simp; rfl)); apply Exists.intro; apply And.intro; (focus (intro us; simp only [Act.put, List.setIfInBounds_toArray, List.set_cons_zero, List.set_cons_succ]; rfl)))
    refine rb_done (fun b us W8 hall hC => ?_)
    have hB8 := Aside0.mk hC
    clear hC hall
    try dsimp only
    clear us b
    go_wp2
    go_ret
    exact ⟨rfl, below_step (below_alloc (below_step hB02.out (below_step (by repeat (first | exact Below.refl _ _ | apply pw_below_drewN)) hB5.out)) _) hB8.out⟩
  · have hRv : Aside0 (ordB (fun o => decide (ordC L f ops o = 0)) ops.length ops.length [] = false) := ⟨by
      rw [Bool.eq_false_iff]
      intro e
      obtain ⟨z, _, _, z3⟩ := (ordB_iff _ _ _ _ ⟨by simp, by simp⟩).mp e
      have z4 : ordC L f ops z = 0 := by simpa using z3
      obtain ⟨p, h1, h2⟩ := ord_pth (q := ⟨L, f, bE, ops⟩) (self_no hE0.2.2.2) z4
      exact hSI.k2 hov (by rw [← hkd]; omega) z p h1 h2⟩
    replace hk1 : (kd == 1) = false := by simpa using hk1
    clear hf0 hf1 hE hSI hov hS hkd htd hod hk9 hk hk3 hez hbE hE0
    go_enter Try.func21, Try.ntmps21
    go_wp2_with (first | (go_at_call 22; (with_reducible refine (inquestref15_Few.calls A cap l L _ hr.out hc hF.out).mono ?_); rintro e W1 ⟨vF, rfl, hRF, hB1⟩; obtain ⟨AF, cF, rfl⟩ := Kd.R_slice hRF; obtain ⟨_, hcF, hCF⟩ := Kd.R_reads' hRF; replace hCF := Aside0.mk hCF; replace hB1 := Aside0.mk hB1; replace hcF := Aside0.mk hcF; clear hRF) | (go_at_call 31; (with_reducible refine (inquestref17_Few.calls A2 c2 ops0 5 ops _ (Kd.C_below hr2.out hB1.out) hc2 hF2.out).mono ?_); rintro e W2 ⟨vG, rfl, hRG, hB2⟩; obtain ⟨AG, cG, rfl⟩ := Kd.R_slice hRG; obtain ⟨_, hcG, hCG⟩ := Kd.R_reads' hRG; have hCF2 := Aside0.mk (Kd.C_below hCF.out hB2); have hB02 := Aside0.mk (below_step hB1.out hB2); replace hCG := Aside0.mk hCG; replace hcG := Aside0.mk hcG; clear hRG hB2) | (go_at_call 30; (with_reducible refine (inquestref01_Least.calls fuel 0 300 f _ hf.out).mono ?_); rintro e W3 ⟨rfl, ⟨nW3, rfl⟩⟩) | (go_at_call 49; (with_reducible refine (lin_Enough.calls kE (ops.length : Int) bE _ hkE.out).mono ?_); rintro e WE ⟨rfl, ⟨nE, rfl⟩⟩) | (go_at_call 48; (with_reducible refine (hwy.out _ _ _ _ _ (Kd.C_below hCF2.out (by repeat (first | exact Below.refl _ _ | apply pw_below_drewN))) hcF.out (Kd.C_below hCG.out (by repeat (first | exact Below.refl _ _ | apply pw_below_drewN))) hcG.out).mono ?_); rintro e W5 ⟨v, rfl, hv, hB5⟩; obtain ⟨A8, c8_, rfl⟩ := Kd.R_slice hv; have hCF5 := Aside0.mk (Kd.C_below (Kd.C_below hCF2.out (by repeat (first | exact Below.refl _ _ | apply pw_below_drewN))) hB5); have hCG5 := Aside0.mk (Kd.C_below (Kd.C_below hCG.out (by repeat (first | exact Below.refl _ _ | apply pw_below_drewN))) hB5); replace hB5 := Aside0.mk hB5; clear hv))
    have hcK : Aside0 (∀ W_, Below (W5.alloc (.cells #[.int .i64 kd, .slice A8 od.length c8_, .int .i64 td] 75)).heap.size (W5.alloc (.cells #[.int .i64 kd, .slice A8 od.length c8_, .int .i64 td] 75)) W_ → W_.cell? ⟨W5.heap.size, 0, none⟩ = some (.int .i64 kd)) := ⟨fun W_ h => blk_cell (blk_below (blk_new W5 (.cells #[.int .i64 kd, .slice A8 od.length c8_, .int .i64 td] 75)) h) 0⟩
    have hords : Aside0 (∀ W_, Below (W5.alloc (.cells #[.int .i64 kd, .slice A8 od.length c8_, .int .i64 td] 75)).heap.size (W5.alloc (.cells #[.int .i64 kd, .slice A8 od.length c8_, .int .i64 td] 75)) W_ → Calls Try.prog 53 #[.slice AF L.length cF, .int .i64 f, .slice AG ops.length cG, .slice none 0 0] W_ fun e w' => e = .returned (.bool false) ∧ Below W_.heap.size W_ w') := ⟨fun W_ h => by
      have y := r18_orders AF AG cF cG L f ops hcF.out hL3.out hcG.out hn64.out ops.length [] ⟨by simp, by simp⟩ (by simp) none 0 W_ (Kd.C_below (Kd.C_alloc hCF5.out _) h) (Kd.C_below (Kd.C_alloc hCG5.out _) h) (Kd.C_nil _ _) (by simp)
      rw [hRv.out] at y
      exact y⟩
    refine region_by (fun b us W_ => Below (W5.alloc (.cells #[.int .i64 kd, .slice A8 od.length c8_, .int .i64 td] 75)).heap.size (W5.alloc (.cells #[.int .i64 kd, .slice A8 od.length c8_, .int .i64 td] 75)) W_) (by kernel_rfl) (by kernel_rfl) ⟨fun _ => undef, below_drew (Below.refl _ _)⟩ ?_
    (refine rb_want (fun us => rfl) ?_; apply Exists.intro; apply And.intro; (focus (apply rb_pure; (focus (intro b us w h; exact h)); intro b us W_ hC; go_simp; rfl)); apply Exists.intro; apply And.intro; (focus (intro us; simp only [Act.put, List.setIfInBounds_toArray, List.set_cons_zero, List.set_cons_succ]; rfl)))
    (refine rb_want (fun us => rfl) ?_; apply Exists.intro; apply And.intro; (focus (apply rb_pure; (focus (intro b us w h; exact h)); intro b us W_ hC; have y := hcK.out W_ hC; go_simp; rfl)); apply Exists.intro; apply And.intro; (focus (intro us; simp only [Act.put, List.setIfInBounds_toArray, List.set_cons_zero, List.set_cons_succ]; rfl)))
    (refine rb_want (fun us => rfl) ?_; apply Exists.intro; apply And.intro; (focus (apply rb_pure; (focus (intro b us w h; exact h)); intro b us W_ hC; have y := hk1; go_simp; rfl)); apply Exists.intro; apply And.intro; (focus (intro us; simp only [Act.put, List.setIfInBounds_toArray, List.set_cons_zero, List.set_cons_succ]; rfl)))
    (refine rb_want (fun us => rfl) ?_; apply Exists.intro; apply And.intro; (focus (apply rb_pure; (focus (intro b us w h; exact h)); intro b us W_ hC; go_simp; rfl)); apply Exists.intro; apply And.intro; (focus (intro us; simp only [Act.put, List.setIfInBounds_toArray, List.set_cons_zero, List.set_cons_succ]; rfl)))
    (refine rb_want (fun us => rfl) ?_; apply Exists.intro; apply And.intro; (focus (apply rb_pure; (focus (intro b us w h; exact h)); intro b us W_ hC; go_simp; rfl)); apply Exists.intro; apply And.intro; (focus (intro us; simp only [Act.put, List.setIfInBounds_toArray, List.set_cons_zero, List.set_cons_succ]; rfl)))
    (refine rb_want (fun us => rfl) ?_; apply Exists.intro; apply And.intro; (focus (apply rb_pure; (focus (intro b us w h; exact h)); intro b us W_ hC; go_simp; rfl)); apply Exists.intro; apply And.intro; (focus (intro us; simp only [Act.put, List.setIfInBounds_toArray, List.set_cons_zero, List.set_cons_succ]; rfl)))
    (refine rb_want (fun us => rfl) ⟨.bool false, rb_call (f := 53) (args := fun us => #[.slice AF L.length cF, .int .i64 f, .slice AG ops.length cG, .slice none 0 0]) (fun us W_ => ?_) (fun b us W_ hb hon hC => ?_), ?_⟩; (focus (exact rb_enters Try.func53 (by kernel_rfl) rfl (by rfl) W_)); (focus (refine (hords.out W_ hC).mono ?_; rintro e w1 ⟨rfl, hbw⟩; exact ⟨rfl, below_step hC hbw⟩)); apply Exists.intro; apply And.intro; (focus (intro us; simp only [Act.put, List.setIfInBounds_toArray, List.set_cons_zero, List.set_cons_succ]; rfl)))
    (refine rb_want (fun us => rfl) ?_; apply Exists.intro; apply And.intro; (focus (apply rb_pure; (focus (intro b us w h; exact h)); intro b us W_ hC; go_simp; rfl)); apply Exists.intro; apply And.intro; (focus (intro us; simp only [Act.put, List.setIfInBounds_toArray, List.set_cons_zero, List.set_cons_succ]; rfl)))
    (refine rb_want (fun us => rfl) ?_; apply Exists.intro; apply And.intro; (focus (apply rb_pure; (focus (intro b us w h; exact h)); intro b us W_ hC; go_simp; rfl)); apply Exists.intro; apply And.intro; (focus (intro us; simp only [Act.put, List.setIfInBounds_toArray, List.set_cons_zero, List.set_cons_succ]; rfl)))
    (refine rb_want (fun us => rfl) ⟨.bool true, rb_call (f := 41) (args := fun us => #[]) (fun us W_ => ?_) (fun b us W_ hb hon hC => ?_), ?_⟩; (focus (exact rb_enters Try.func41 (by kernel_rfl) rfl (by rfl) W_)); (focus (refine (lin_lives W_).mono ?_; rintro e w1 ⟨rfl, hbw⟩; exact ⟨rfl, below_step hC hbw⟩)); apply Exists.intro; apply And.intro; (focus (intro us; simp only [Act.put, List.setIfInBounds_toArray, List.set_cons_zero, List.set_cons_succ]; rfl)))
    (refine rb_want (fun us => rfl) ?_; apply Exists.intro; apply And.intro; (focus (apply rb_pure; (focus (intro b us w h; exact h)); intro b us W_ hC; go_simp; rfl)); apply Exists.intro; apply And.intro; (focus (intro us; simp only [Act.put, List.setIfInBounds_toArray, List.set_cons_zero, List.set_cons_succ]; rfl)))
    (refine rb_want (fun us => rfl) ?_; apply Exists.intro; apply And.intro; (focus (apply rb_pure; (focus (intro b us w h; exact h)); intro b us W_ hC; go_simp; rfl)); apply Exists.intro; apply And.intro; (focus (intro us; simp only [Act.put, List.setIfInBounds_toArray, List.set_cons_zero, List.set_cons_succ]; rfl)))
    refine rb_done (fun b us W8 hall hC => ?_)
    have hB8 := Aside0.mk hC
    clear hC hall
    try dsimp only
    clear us b
    go_wp2
    go_ret
    exact ⟨rfl, below_step (below_alloc (below_step hB02.out (below_step (by repeat (first | exact Below.refl _ _ | apply pw_below_drewN)) hB5.out)) _) hB8.out⟩
end Go.Proofs.Ytddkoimaghcbeaa.PVmSteps
