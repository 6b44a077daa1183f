/- A part of what the law LinBegins stands on, only as far as it is needed (the words and walks were printed or written in this seat; this text was cut by a program of this session, wip/bin/trim.py). No condition beyond what each theorem says. -/
import Derived.StillTailTactics
import Derived.Deep.RegionHeld3
import Derived.IntWalk
import Derived.Deep.QuietTactic
import Derived.BigQuiet
import Derived.Test.YtddkoimaghcbeaaZLGPVmStepsx0
import Derived.Test.YtddkoimaghcbeaaZLGPVmStepsx2
import Derived.Test.YtddkoimaghcbeaaZLGPVmStepsx3
import Derived.Test.YtddkoimaghcbeaaZLGPVmStepsx4
import Derived.Test.YtddkoimaghcbeaaZLGPVmStepsx5
import Derived.Test.YtddkoimaghcbeaaZLGTmplba
import Derived.Test.YtddkoimaghcbeaaZLGTmplja
import Derived.Test.YtddkoimaghcbeaaZLGTmpvmu
import Derived.Test.YtddkoimaghcbeaaZLGTmpvmq
namespace Go.Proofs.Ytddkoimaghcbeaa.PVmSteps
open Go.RowKit Go.Proofs.YtddkoimaghcbeaaW.PrintWords Go.Proofs.YtddkoimaghcbeaaW.PrintLast Go.Proofs.YtddkoimaghcbeaaW.PrintMore
set_option linter.unusedVariables false
set_option linter.unusedSimpArgs false
theorem hops_call (A0 : Option Addr) (c0 n : Nat) (l0 : List S129) (r1 : List S65) (r2 : Int) (w : World) (hn : n = l0.length) (hr0 : Kd.C k129 w A0 n l0) (hc0 : n ≤ c0) (h : hist_Ops.f l0 = some (r1, r2)) :
    Calls Try.prog 52 #[.slice A0 n c0] w fun e w' => ∃ v0_ : Value, e = .returned (.tuple #[v0_, .int .i64 r2]) ∧ Kd.R k65 65 w' w.heap.size (fun _ => True) v0_ r1 ∧ Below w.heap.size w w' := by subst hn; exact hist_Ops.calls A0 c0 l0 r1 r2 w hr0 hc0 h
theorem c_takeE {W : World} {A : Option Addr} {L : List S129} {n : Nat} (h : Kd.C k129 W A L.length L) (hn : n ≤ L.length) : Kd.C k129 W A n (L.take n) := by
  have := Kd.C_take h hn
  rwa [List.length_take, Nat.min_eq_left hn] at this
theorem eZ_9 : ∀ n : Nat, n < 10 → (eZ n : Int) ≤ 1048576 := by decide +kernel
theorem mask_0 (p : Nat → Bool) : ∀ n, (∀ j, j < n → p j = false) → maskZ p n = 0
  | 0, _ => rfl
  | n + 1, h => by rw [maskZ, if_neg (by simp [h n (by omega)])]; exact mask_0 p n (fun j hj => h j (by omega))
/-- What the two searches are like. -/
theorem beg_all {ev : List S129} (hl : ev.length ≤ 10) (hz : (chkZ ev).2 = 0) (n : Nat) (hn : n ≤ ev.length) :
    (chkZ (ev.take n)).2 = 0 ∧ BegF (opsZ ev 0) (opsZ (ev.take n) 0) n ∧ (opsZ ev 0).length ≤ 10 ∧ (opsZ (ev.take n) 0).length ≤ 10 ∧ selfZ (opsZ ev 0) = false ∧ selfZ (opsZ (ev.take n) 0) = false ∧ ((eZ (opsZ (ev.take n) 0).length : Int) ≤ 1048576 ∨ mustZ (opsZ (ev.take n) 0) = 0) := by
  have hz2 : (chkZ (ev.take n)).2 = 0 := (z_take ev 0 0 (List.replicate 16 false) n).1 hz
  have hself : ∀ l : List S129, selfZ (opsZ l 0) = false := fun l => by
    unfold selfZ
    rw [List.any_eq_false]
    intro i hi hb
    obtain ⟨b1, b2⟩ := bef_parts hb
    have := opsZ_ends l 0 i (List.mem_range.mp hi) b1
    omega
  obtain ⟨h1, h2, h3⟩ := opsZ_take ev 0 n
  rw [Nat.zero_add] at h2 h3
  have hlen := opsZ_len ev 0
  have hlt : (ev.take n).length ≤ 10 := by rw [List.length_take]; omega
  have hlen2 := opsZ_len (ev.take n) 0
  refine ⟨hz2, ⟨h1, h2, h3⟩, by omega, by omega, hself _, hself _, ?_⟩
  by_cases c : ∃ x ∈ ev.take n, x.f1 = false
  · exact .inl (eZ_9 _ (by have := opsZ_less (ev.take n) 0 c; omega))
  · refine .inr (mask_0 _ _ fun j _ => ?_)
    exact opsZ_calls (ev.take n) 0 0 0 (List.replicate 16 false) rfl (fun x hx => by
      cases e : x.f1 with
      | true => rfl
      | false => exact absurd ⟨x, hx, e⟩ c) hz2 j
theorem newE_small {L : List S36} {f : Int} {ops : List S65} (h0 : 0 ≤ f) (h1 : f ≤ 300) (hl : ops.length ≤ 10) (hs : selfZ ops = false) : newE L f 1048576 ops = (thru L).2.2 := by
  unfold newE
  by_cases c : (thru L).2.2 = 0
  · rw [if_neg (by simpa using c), if_neg (by omega), if_neg (by omega), if_neg (by simp [hs]), c]
  · rw [if_pos c]
set_option maxRecDepth 100000 in
set_option maxHeartbeats 8000000 in
theorem inquestlaw18_LinBegins.any (A : Option Addr) (cap : Nat) (l : List S36) (fuel : Int) (A2 : Option Addr) (c2 : Nat) (ev0 : List S129) (n0 : Int) (w : World) (hr : Kd.C k36 w A l.length l) (hc : l.length ≤ cap) (hm : l.length ≤ maxLen) {P0 : Prop} (_ : P0) {P1 : Prop} (_ : P1) (hr2 : Kd.C k129 w A2 ev0.length ev0) (hc2 : ev0.length ≤ c2) (hm2 : ev0.length ≤ maxLen) {P4 : Prop} (_ : P4) {P5 : Prop} (_ : P5) :
    Calls Try.prog 19 #[.slice A l.length cap, .int .i64 fuel, .slice A2 ev0.length c2, .int .i64 n0] w fun e w' => e = .returned (.bool true) ∧ Below w.heap.size w w' := by
  have hF := Aside0.mk (few15 l hm)
  have hF4 : Aside0 (inquestref14_Few.f ev0 10 = some (ev0.take 10)) := ⟨few14 ev0 10 (by decide) hm2⟩
  have hL2 : (l.take 210).length ≤ 210 := by rw [List.length_take]; omega
  have hE2 : (ev0.take 10).length ≤ 10 := by rw [List.length_take]; omega
  generalize l.take 210 = L at *
  generalize ev0.take 10 = ev at *
  have hL3 : Aside0 (L.length ≤ 300) := ⟨by omega⟩
  replace hr := Aside0.mk hr
  replace hr2 := Aside0.mk hr2
  obtain ⟨f, hf, hf0, hf1⟩ := least01 fuel 0 300 (by decide)
  replace hf := Aside0.mk hf
  obtain ⟨n, hn, hn0, hn1⟩ := least01 n0 0 (ev.length : Int) (by omega)
  obtain ⟨n, rfl⟩ := Int.eq_ofNat_of_zero_le hn0
  replace hn := Aside0.mk hn
  have hnl : n ≤ ev.length := by omega
  have htl : Aside0 (n = (ev.take n).length) := ⟨by rw [List.length_take]; omega⟩
  have hq0 : 0 ≤ (n : Int) := by omega
  have huE := Try.underlying129
  clear hL2 hm hm2 hn0
  have hp := hist_Ops_is ev (by omega)
  have hq := hist_Ops_is (ev.take n) (by rw [List.length_take]; omega)
  unfold opsA at hp hq
  by_cases c : (chkZ ev).2 = 0
  rotate_left
  · rw [if_neg c] at hp
    obtain ⟨p1, hp1⟩ : ∃ x : List S65, x = [] := ⟨_, rfl⟩
    obtain ⟨p2, hp2⟩ : ∃ x, x = (chkZ ev).2 := ⟨_, rfl⟩
    rw [← hp1, ← hp2] at hp
    obtain ⟨q, hq_⟩ : ∃ q, q = (if (chkZ (ev.take n)).2 = 0 then (opsZ (ev.take n) 0, 0) else ([], (chkZ (ev.take n)).2)) := ⟨_, rfl⟩
    rw [← hq_] at hq
    obtain ⟨q1, q2⟩ := q
    have hpb : (p2 != 0) = true := by rw [hp2]; simpa using c
    replace hp := Aside0.mk hp
    replace hq := Aside0.mk hq
    clear hp1 hp2 hq_ c hf0 hf1
    go_enter Try.func19, Try.ntmps19
    go_wp2_with (first | (go_at_call 22; (with_reducible refine (inquestref15_Few.calls A cap l L _ hr.out hc hF.out).mono ?_); rintro e W1 ⟨vF, rfl, hRF, hB1⟩; obtain ⟨AF, cF, rfl⟩ := Kd.R_slice hRF; obtain ⟨_, hcF, hCF⟩ := Kd.R_reads' hRF; replace hCF := Aside0.mk hCF; replace hB1 := Aside0.mk hB1; replace hcF := Aside0.mk hcF; clear hRF) | (go_at_call 51; (with_reducible refine (inquestref14_Few.calls A2 c2 ev0 10 ev _ (Kd.C_below hr2.out hB1.out) hc2 hF4.out).mono ?_); rintro e W2 ⟨vG, rfl, hRG, hB2⟩; obtain ⟨AG, cG, rfl⟩ := Kd.R_slice hRG; obtain ⟨_, hcG, hCG⟩ := Kd.R_reads' hRG; have hCF2 := Aside0.mk (Kd.C_below hCF.out hB2); have hB02 := Aside0.mk (below_step hB1.out hB2); replace hCG := Aside0.mk hCG; have hnG : n ≤ cG := Nat.le_trans hnl hcG; have hnG2 : (n : Int) ≤ (cG : Int) := (by omega); replace hcG := Aside0.mk hcG; clear hRG hB2) | (go_at_call 30; (with_reducible refine (inquestref01_Least.calls fuel 0 300 f _ hf.out).mono ?_); rintro e W3 ⟨rfl, ⟨nW3, rfl⟩⟩) | (go_at_call 30; (with_reducible refine (inquestref01_Least.calls n0 0 (ev.length : Int) (n : Int) _ hn.out).mono ?_); rintro e W4 ⟨rfl, ⟨nW4, rfl⟩⟩) | (go_at_call 52; (with_reducible refine (hops_call AG cG ev.length ev p1 p2 _ rfl (Kd.C_below hCG.out (by repeat (first | exact Below.refl _ _ | apply pw_below_drewN))) hcG.out hp.out).mono ?_); rintro e W5 ⟨vP, rfl, hRP, hB5⟩; obtain ⟨AP, cP, rfl⟩ := Kd.R_slice hRP; obtain ⟨_, hcP, hCP⟩ := Kd.R_reads' hRP; have hCG5 := Aside0.mk (Kd.C_below (Kd.C_below hCG.out (by repeat (first | exact Below.refl _ _ | apply pw_below_drewN))) hB5); have hCF5 := Aside0.mk (Kd.C_below (Kd.C_below hCF2.out (by repeat (first | exact Below.refl _ _ | apply pw_below_drewN))) hB5); have hB05 := Aside0.mk (below_step (below_step hB02.out (by repeat (first | exact Below.refl _ _ | apply pw_below_drewN))) hB5); replace hCP := Aside0.mk hCP; replace hcP := Aside0.mk hcP; clear hRP hB5) | (go_at_call 52; (with_reducible refine (hops_call AG cG n (ev.take n) q1 q2 _ htl.out (c_takeE hCG5.out hnl) hnG hq.out).mono ?_); rintro e W6 ⟨vQ, rfl, hRQ, hB6⟩; obtain ⟨AQ, cQ, rfl⟩ := Kd.R_slice hRQ; obtain ⟨_, hcQ, hCQ⟩ := Kd.R_reads' hRQ; have hCP6 := Aside0.mk (Kd.C_below hCP.out hB6); have hCF6 := Aside0.mk (Kd.C_below hCF5.out hB6); have hB06 := Aside0.mk (below_step hB05.out hB6); replace hCQ := Aside0.mk hCQ; replace hcQ := Aside0.mk hcQ; clear hRQ hB6) | (go_at_call 41; (with_reducible refine (lin_lives _).mono ?_); rintro e WZ ⟨rfl, hBZ⟩; replace hBZ := Aside0.mk hBZ))
    go_ret
    exact ⟨rfl, below_step (below_step hB06.out (by repeat (first | exact Below.refl _ _ | apply pw_below_drewN))) hBZ.out⟩
  obtain ⟨c', hBeg, hl1, hl2, hs1, hs2, hbud⟩ := beg_all hE2 c n hnl
  rw [if_pos c] at hp
  rw [if_pos c'] at hq
  generalize opsZ ev 0 = p1 at *
  generalize opsZ (ev.take n) 0 = q1 at *
  obtain ⟨p2, hp2⟩ : ∃ x : Int, x = 0 := ⟨_, rfl⟩
  obtain ⟨q2, hq2⟩ : ∃ x : Int, x = 0 := ⟨_, rfl⟩
  have hp' : hist_Ops.f ev = some (p1, p2) := by rw [hp2]; exact hp
  have hq' : hist_Ops.f (ev.take n) = some (q1, q2) := by rw [hq2]; exact hq
  clear hp hq
  have hp := Aside0.mk hp'
  have hq := Aside0.mk hq'
  have hpb : (p2 != 0) = false := by rw [hp2]; rfl
  have hqb : (q2 != 0) = false := by rw [hq2]; rfl
  clear hp' hq' hp2 hq2 c c'
  have hE1 : newE L f 1048576 p1 = (thru L).2.2 := newE_small hf0 hf1 hl1 hs1
  have hE3 : newE L f 1048576 q1 = (thru L).2.2 := newE_small hf0 hf1 hl2 hs2
  by_cases ht : (thru L).2.2 = 0
  rotate_left
  · have hwp : Aside0 (∀ (AF AG : Option Addr) (cF cG : Nat) (W : World), Kd.C k36 W AF L.length L → L.length ≤ cF → Kd.C k65 W AG p1.length p1 → p1.length ≤ cG → Calls Try.prog 48 #[.slice AF L.length cF, .int .i64 f, .int .i64 1048576, .slice AG p1.length cG] W fun e w' => e = .returned (.tuple #[.agg #[.int .i64 0, .slice none 0 0, .int .i64 0], .bool false]) ∧ Below W.heap.size W w') := ⟨fun AF AG cF cG W h1 h2 h3 h4 => lin_whole_n AF AG cF cG L f 1048576 p1 W h1 h2 hL3.out h3 h4 (by rw [hE1]; exact ht)⟩
    have hwq : Aside0 (∀ (AF AG : Option Addr) (cF cG : Nat) (W : World), Kd.C k36 W AF L.length L → L.length ≤ cF → Kd.C k65 W AG q1.length q1 → q1.length ≤ cG → Calls Try.prog 48 #[.slice AF L.length cF, .int .i64 f, .int .i64 1048576, .slice AG q1.length cG] W fun e w' => e = .returned (.tuple #[.agg #[.int .i64 0, .slice none 0 0, .int .i64 0], .bool false]) ∧ Below W.heap.size W w') := ⟨fun AF AG cF cG W h1 h2 h3 h4 => lin_whole_n AF AG cF cG L f 1048576 q1 W h1 h2 hL3.out h3 h4 (by rw [hE3]; exact ht)⟩
    clear hBeg hbud hE1 hE3 ht hf0 hf1 hs1 hs2
    go_enter Try.func19, Try.ntmps19
    go_wp2_with (first | (go_at_call 22; (with_reducible refine (inquestref15_Few.calls A cap l L _ hr.out hc hF.out).mono ?_); rintro e W1 ⟨vF, rfl, hRF, hB1⟩; obtain ⟨AF, cF, rfl⟩ := Kd.R_slice hRF; obtain ⟨_, hcF, hCF⟩ := Kd.R_reads' hRF; replace hCF := Aside0.mk hCF; replace hB1 := Aside0.mk hB1; replace hcF := Aside0.mk hcF; clear hRF) | (go_at_call 51; (with_reducible refine (inquestref14_Few.calls A2 c2 ev0 10 ev _ (Kd.C_below hr2.out hB1.out) hc2 hF4.out).mono ?_); rintro e W2 ⟨vG, rfl, hRG, hB2⟩; obtain ⟨AG, cG, rfl⟩ := Kd.R_slice hRG; obtain ⟨_, hcG, hCG⟩ := Kd.R_reads' hRG; have hCF2 := Aside0.mk (Kd.C_below hCF.out hB2); have hB02 := Aside0.mk (below_step hB1.out hB2); replace hCG := Aside0.mk hCG; have hnG : n ≤ cG := Nat.le_trans hnl hcG; have hnG2 : (n : Int) ≤ (cG : Int) := (by omega); replace hcG := Aside0.mk hcG; clear hRG hB2) | (go_at_call 30; (with_reducible refine (inquestref01_Least.calls fuel 0 300 f _ hf.out).mono ?_); rintro e W3 ⟨rfl, ⟨nW3, rfl⟩⟩) | (go_at_call 30; (with_reducible refine (inquestref01_Least.calls n0 0 (ev.length : Int) (n : Int) _ hn.out).mono ?_); rintro e W4 ⟨rfl, ⟨nW4, rfl⟩⟩) | (go_at_call 52; (with_reducible refine (hops_call AG cG ev.length ev p1 p2 _ rfl (Kd.C_below hCG.out (by repeat (first | exact Below.refl _ _ | apply pw_below_drewN))) hcG.out hp.out).mono ?_); rintro e W5 ⟨vP, rfl, hRP, hB5⟩; obtain ⟨AP, cP, rfl⟩ := Kd.R_slice hRP; obtain ⟨_, hcP, hCP⟩ := Kd.R_reads' hRP; have hCG5 := Aside0.mk (Kd.C_below (Kd.C_below hCG.out (by repeat (first | exact Below.refl _ _ | apply pw_below_drewN))) hB5); have hCF5 := Aside0.mk (Kd.C_below (Kd.C_below hCF2.out (by repeat (first | exact Below.refl _ _ | apply pw_below_drewN))) hB5); have hB05 := Aside0.mk (below_step (below_step hB02.out (by repeat (first | exact Below.refl _ _ | apply pw_below_drewN))) hB5); replace hCP := Aside0.mk hCP; replace hcP := Aside0.mk hcP; clear hRP hB5) | (go_at_call 52; (with_reducible refine (hops_call AG cG n (ev.take n) q1 q2 _ htl.out (c_takeE hCG5.out hnl) hnG hq.out).mono ?_); rintro e W6 ⟨vQ, rfl, hRQ, hB6⟩; obtain ⟨AQ, cQ, rfl⟩ := Kd.R_slice hRQ; obtain ⟨_, hcQ, hCQ⟩ := Kd.R_reads' hRQ; have hCP6 := Aside0.mk (Kd.C_below hCP.out hB6); have hCF6 := Aside0.mk (Kd.C_below hCF5.out hB6); have hB06 := Aside0.mk (below_step hB05.out hB6); replace hCQ := Aside0.mk hCQ; replace hcQ := Aside0.mk hcQ; clear hRQ hB6) | (go_at_call 48; (with_reducible refine (hwp.out AF AP cF cP _ hCF6.out hcF.out hCP6.out hcP.out).mono ?_); rintro e W7 ⟨rfl, hB7⟩; have hCQ7 := Aside0.mk (Kd.C_alloc (Kd.C_below hCQ.out hB7) (.cells #[.int .i64 0, .slice none 0 0, .int .i64 0] 75)); have hCF7 := Aside0.mk (Kd.C_alloc (Kd.C_below hCF6.out hB7) (.cells #[.int .i64 0, .slice none 0 0, .int .i64 0] 75)); have hB07 := Aside0.mk (below_alloc (below_step hB06.out hB7) (.cells #[.int .i64 0, .slice none 0 0, .int .i64 0] 75)); clear hB7) | (go_at_call 48; (with_reducible refine (hwq.out AF AQ cF cQ _ hCF7.out hcF.out hCQ7.out hcQ.out).mono ?_); rintro e W8 ⟨rfl, hB8⟩; have hB08 := Aside0.mk (below_alloc (below_step hB07.out hB8) (.cells #[.int .i64 0, .slice none 0 0, .int .i64 0] 75)); have hcK : (W8.alloc (.cells #[.int .i64 0, .slice none 0 0, .int .i64 0] 75)).cell? ⟨W7.heap.size, 0, none⟩ = some (.int .i64 0) := blk_cell (blk_below (blk_new W7 _) (below_alloc hB8 _)) 0; have hcM : (W8.alloc (.cells #[.int .i64 0, .slice none 0 0, .int .i64 0] 75)).cell? ⟨W8.heap.size, 0, none⟩ = some (.int .i64 0) := blk_cell (blk_new W8 _) 0; replace hB8 := Aside0.mk hB8) | (go_at_call 41; (with_reducible refine (lin_lives _).mono ?_); rintro e WZ ⟨rfl, hBZ⟩; replace hBZ := Aside0.mk hBZ))
    go_ret
    exact ⟨rfl, below_step hB08.out hBZ.out⟩
  have hE1 := hE1.trans ht
  have hE3 := hE3.trans ht
  have hkk := beg_kind hBeg hE1 hE3 hbud
  have hov := (fullZ_SI hE1).ov (fullZ_over hE1)
  have hov2 := (fullZ_SI hE3).ov (fullZ_over hE3)
  obtain ⟨kd, hkd⟩ : ∃ k, k = (fullZ ⟨L, f, 1048576, p1⟩).kind := ⟨_, rfl⟩
  obtain ⟨kf, hkf⟩ : ∃ k, k = (fullZ ⟨L, f, 1048576, q1⟩).kind := ⟨_, rfl⟩
  rw [← hkd, ← hkf] at hkk
  rw [← hkd] at hov
  rw [← hkf] at hov2
  obtain ⟨td, htd⟩ : ∃ t : Int, t = ((fullZ ⟨L, f, 1048576, p1⟩).tries : Int) := ⟨_, rfl⟩
  obtain ⟨tf, htf⟩ : ∃ t : Int, t = ((fullZ ⟨L, f, 1048576, q1⟩).tries : Int) := ⟨_, rfl⟩
  obtain ⟨od, hod⟩ : ∃ o, o = (if (fullZ ⟨L, f, 1048576, p1⟩).kind = 1 then (fullZ ⟨L, f, 1048576, p1⟩).order else []) := ⟨_, rfl⟩
  obtain ⟨of_, hof_⟩ : ∃ o, o = (if (fullZ ⟨L, f, 1048576, q1⟩).kind = 1 then (fullZ ⟨L, f, 1048576, q1⟩).order else []) := ⟨_, rfl⟩
  have hwp : Aside0 (∀ (AF AG : Option Addr) (cF cG : Nat) (W : World), Kd.C k36 W AF L.length L → L.length ≤ cF → Kd.C k65 W AG p1.length p1 → p1.length ≤ cG → Calls Try.prog 48 #[.slice AF L.length cF, .int .i64 f, .int .i64 1048576, .slice AG p1.length cG] W fun e w' => ∃ v, e = .returned (.tuple #[.agg #[.int .i64 kd, v, .int .i64 td], .bool true]) ∧ Kd.R (Kd.int .i64) 3 w' W.heap.size (fun _ => True) v od ∧ Below W.heap.size W w') := ⟨fun AF AG cF cG W h1 h2 h3 h4 => by
    have y := lin_whole_y AF AG cF cG L f 1048576 p1 W h1 h2 hL3.out h3 h4 hE1
    rw [← hod, ← hkd, ← htd] at y
    exact y⟩
  have hwq : Aside0 (∀ (AF AG : Option Addr) (cF cG : Nat) (W : World), Kd.C k36 W AF L.length L → L.length ≤ cF → Kd.C k65 W AG q1.length q1 → q1.length ≤ cG → Calls Try.prog 48 #[.slice AF L.length cF, .int .i64 f, .int .i64 1048576, .slice AG q1.length cG] W fun e w' => ∃ v, e = .returned (.tuple #[.agg #[.int .i64 kf, v, .int .i64 tf], .bool true]) ∧ Kd.R (Kd.int .i64) 3 w' W.heap.size (fun _ => True) v of_ ∧ Below W.heap.size W w') := ⟨fun AF AG cF cG W h1 h2 h3 h4 => by
    have y := lin_whole_y AF AG cF cG L f 1048576 q1 W h1 h2 hL3.out h3 h4 hE3
    rw [← hof_, ← hkf, ← htf] at y
    exact y⟩
  clear hBeg hbud hE1 hE3 ht hf0 hf1 hs1 hs2 hkd hkf htd htf hod hof_
  by_cases k1 : kd = 1
  rotate_left
  · have hkd1 : (kd != 1) = true := by simpa using k1
    clear hkk hov hov2 k1
    go_enter Try.func19, Try.ntmps19
    go_wp2_with (first | (go_at_call 22; (with_reducible refine (inquestref15_Few.calls A cap l L _ hr.out hc hF.out).mono ?_); rintro e W1 ⟨vF, rfl, hRF, hB1⟩; obtain ⟨AF, cF, rfl⟩ := Kd.R_slice hRF; obtain ⟨_, hcF, hCF⟩ := Kd.R_reads' hRF; replace hCF := Aside0.mk hCF; replace hB1 := Aside0.mk hB1; replace hcF := Aside0.mk hcF; clear hRF) | (go_at_call 51; (with_reducible refine (inquestref14_Few.calls A2 c2 ev0 10 ev _ (Kd.C_below hr2.out hB1.out) hc2 hF4.out).mono ?_); rintro e W2 ⟨vG, rfl, hRG, hB2⟩; obtain ⟨AG, cG, rfl⟩ := Kd.R_slice hRG; obtain ⟨_, hcG, hCG⟩ := Kd.R_reads' hRG; have hCF2 := Aside0.mk (Kd.C_below hCF.out hB2); have hB02 := Aside0.mk (below_step hB1.out hB2); replace hCG := Aside0.mk hCG; have hnG : n ≤ cG := Nat.le_trans hnl hcG; have hnG2 : (n : Int) ≤ (cG : Int) := (by omega); replace hcG := Aside0.mk hcG; clear hRG hB2) | (go_at_call 30; (with_reducible refine (inquestref01_Least.calls fuel 0 300 f _ hf.out).mono ?_); rintro e W3 ⟨rfl, ⟨nW3, rfl⟩⟩) | (go_at_call 30; (with_reducible refine (inquestref01_Least.calls n0 0 (ev.length : Int) (n : Int) _ hn.out).mono ?_); rintro e W4 ⟨rfl, ⟨nW4, rfl⟩⟩) | (go_at_call 52; (with_reducible refine (hops_call AG cG ev.length ev p1 p2 _ rfl (Kd.C_below hCG.out (by repeat (first | exact Below.refl _ _ | apply pw_below_drewN))) hcG.out hp.out).mono ?_); rintro e W5 ⟨vP, rfl, hRP, hB5⟩; obtain ⟨AP, cP, rfl⟩ := Kd.R_slice hRP; obtain ⟨_, hcP, hCP⟩ := Kd.R_reads' hRP; have hCG5 := Aside0.mk (Kd.C_below (Kd.C_below hCG.out (by repeat (first | exact Below.refl _ _ | apply pw_below_drewN))) hB5); have hCF5 := Aside0.mk (Kd.C_below (Kd.C_below hCF2.out (by repeat (first | exact Below.refl _ _ | apply pw_below_drewN))) hB5); have hB05 := Aside0.mk (below_step (below_step hB02.out (by repeat (first | exact Below.refl _ _ | apply pw_below_drewN))) hB5); replace hCP := Aside0.mk hCP; replace hcP := Aside0.mk hcP; clear hRP hB5) | (go_at_call 52; (with_reducible refine (hops_call AG cG n (ev.take n) q1 q2 _ htl.out (c_takeE hCG5.out hnl) hnG hq.out).mono ?_); rintro e W6 ⟨vQ, rfl, hRQ, hB6⟩; obtain ⟨AQ, cQ, rfl⟩ := Kd.R_slice hRQ; obtain ⟨_, hcQ, hCQ⟩ := Kd.R_reads' hRQ; have hCP6 := Aside0.mk (Kd.C_below hCP.out hB6); have hCF6 := Aside0.mk (Kd.C_below hCF5.out hB6); have hB06 := Aside0.mk (below_step hB05.out hB6); replace hCQ := Aside0.mk hCQ; replace hcQ := Aside0.mk hcQ; clear hRQ hB6) | (go_at_call 48; (with_reducible refine (hwp.out AF AP cF cP _ hCF6.out hcF.out hCP6.out hcP.out).mono ?_); rintro e W7 ⟨v7, rfl, hv7, hB7⟩; obtain ⟨A7, c87, rfl⟩ := Kd.R_slice hv7; clear hv7; have hCQ7 := Aside0.mk (Kd.C_alloc (Kd.C_below hCQ.out hB7) (.cells #[.int .i64 kd, .slice A7 od.length c87, .int .i64 td] 75)); have hCF7 := Aside0.mk (Kd.C_alloc (Kd.C_below hCF6.out hB7) (.cells #[.int .i64 kd, .slice A7 od.length c87, .int .i64 td] 75)); have hB07 := Aside0.mk (below_alloc (below_step hB06.out hB7) (.cells #[.int .i64 kd, .slice A7 od.length c87, .int .i64 td] 75)); clear hB7) | (go_at_call 48; (with_reducible refine (hwq.out AF AQ cF cQ _ hCF7.out hcF.out hCQ7.out hcQ.out).mono ?_); rintro e W8 ⟨v8, rfl, hv8, hB8⟩; obtain ⟨A8, c88, rfl⟩ := Kd.R_slice hv8; clear hv8; have hB08 := Aside0.mk (below_alloc (below_step hB07.out hB8) (.cells #[.int .i64 kf, .slice A8 of_.length c88, .int .i64 tf] 75)); have hcK : (W8.alloc (.cells #[.int .i64 kf, .slice A8 of_.length c88, .int .i64 tf] 75)).cell? ⟨W7.heap.size, 0, none⟩ = some (.int .i64 kd) := blk_cell (blk_below (blk_new W7 _) (below_alloc hB8 _)) 0; have hcM : (W8.alloc (.cells #[.int .i64 kf, .slice A8 of_.length c88, .int .i64 tf] 75)).cell? ⟨W8.heap.size, 0, none⟩ = some (.int .i64 kf) := blk_cell (blk_new W8 _) 0; replace hB8 := Aside0.mk hB8) | (go_at_call 41; (with_reducible refine (lin_lives _).mono ?_); rintro e WZ ⟨rfl, hBZ⟩; replace hBZ := Aside0.mk hBZ))
    go_ret
    exact ⟨rfl, below_step hB08.out hBZ.out⟩
  have hkd1 : (kd != 1) = false := by simpa using k1
  by_cases k2 : kf = 1
  · have hkf1 : (kf == 1) = true := by simpa using k2
    clear hkk hov hov2 k1 k2
    go_enter Try.func19, Try.ntmps19
    go_wp2_with (first | (go_at_call 22; (with_reducible refine (inquestref15_Few.calls A cap l L _ hr.out hc hF.out).mono ?_); rintro e W1 ⟨vF, rfl, hRF, hB1⟩; obtain ⟨AF, cF, rfl⟩ := Kd.R_slice hRF; obtain ⟨_, hcF, hCF⟩ := Kd.R_reads' hRF; replace hCF := Aside0.mk hCF; replace hB1 := Aside0.mk hB1; replace hcF := Aside0.mk hcF; clear hRF) | (go_at_call 51; (with_reducible refine (inquestref14_Few.calls A2 c2 ev0 10 ev _ (Kd.C_below hr2.out hB1.out) hc2 hF4.out).mono ?_); rintro e W2 ⟨vG, rfl, hRG, hB2⟩; obtain ⟨AG, cG, rfl⟩ := Kd.R_slice hRG; obtain ⟨_, hcG, hCG⟩ := Kd.R_reads' hRG; have hCF2 := Aside0.mk (Kd.C_below hCF.out hB2); have hB02 := Aside0.mk (below_step hB1.out hB2); replace hCG := Aside0.mk hCG; have hnG : n ≤ cG := Nat.le_trans hnl hcG; have hnG2 : (n : Int) ≤ (cG : Int) := (by omega); replace hcG := Aside0.mk hcG; clear hRG hB2) | (go_at_call 30; (with_reducible refine (inquestref01_Least.calls fuel 0 300 f _ hf.out).mono ?_); rintro e W3 ⟨rfl, ⟨nW3, rfl⟩⟩) | (go_at_call 30; (with_reducible refine (inquestref01_Least.calls n0 0 (ev.length : Int) (n : Int) _ hn.out).mono ?_); rintro e W4 ⟨rfl, ⟨nW4, rfl⟩⟩) | (go_at_call 52; (with_reducible refine (hops_call AG cG ev.length ev p1 p2 _ rfl (Kd.C_below hCG.out (by repeat (first | exact Below.refl _ _ | apply pw_below_drewN))) hcG.out hp.out).mono ?_); rintro e W5 ⟨vP, rfl, hRP, hB5⟩; obtain ⟨AP, cP, rfl⟩ := Kd.R_slice hRP; obtain ⟨_, hcP, hCP⟩ := Kd.R_reads' hRP; have hCG5 := Aside0.mk (Kd.C_below (Kd.C_below hCG.out (by repeat (first | exact Below.refl _ _ | apply pw_below_drewN))) hB5); have hCF5 := Aside0.mk (Kd.C_below (Kd.C_below hCF2.out (by repeat (first | exact Below.refl _ _ | apply pw_below_drewN))) hB5); have hB05 := Aside0.mk (below_step (below_step hB02.out (by repeat (first | exact Below.refl _ _ | apply pw_below_drewN))) hB5); replace hCP := Aside0.mk hCP; replace hcP := Aside0.mk hcP; clear hRP hB5) | (go_at_call 52; (with_reducible refine (hops_call AG cG n (ev.take n) q1 q2 _ htl.out (c_takeE hCG5.out hnl) hnG hq.out).mono ?_); rintro e W6 ⟨vQ, rfl, hRQ, hB6⟩; obtain ⟨AQ, cQ, rfl⟩ := Kd.R_slice hRQ; obtain ⟨_, hcQ, hCQ⟩ := Kd.R_reads' hRQ; have hCP6 := Aside0.mk (Kd.C_below hCP.out hB6); have hCF6 := Aside0.mk (Kd.C_below hCF5.out hB6); have hB06 := Aside0.mk (below_step hB05.out hB6); replace hCQ := Aside0.mk hCQ; replace hcQ := Aside0.mk hcQ; clear hRQ hB6) | (go_at_call 48; (with_reducible refine (hwp.out AF AP cF cP _ hCF6.out hcF.out hCP6.out hcP.out).mono ?_); rintro e W7 ⟨v7, rfl, hv7, hB7⟩; obtain ⟨A7, c87, rfl⟩ := Kd.R_slice hv7; clear hv7; have hCQ7 := Aside0.mk (Kd.C_alloc (Kd.C_below hCQ.out hB7) (.cells #[.int .i64 kd, .slice A7 od.length c87, .int .i64 td] 75)); have hCF7 := Aside0.mk (Kd.C_alloc (Kd.C_below hCF6.out hB7) (.cells #[.int .i64 kd, .slice A7 od.length c87, .int .i64 td] 75)); have hB07 := Aside0.mk (below_alloc (below_step hB06.out hB7) (.cells #[.int .i64 kd, .slice A7 od.length c87, .int .i64 td] 75)); clear hB7) | (go_at_call 48; (with_reducible refine (hwq.out AF AQ cF cQ _ hCF7.out hcF.out hCQ7.out hcQ.out).mono ?_); rintro e W8 ⟨v8, rfl, hv8, hB8⟩; obtain ⟨A8, c88, rfl⟩ := Kd.R_slice hv8; clear hv8; have hB08 := Aside0.mk (below_alloc (below_step hB07.out hB8) (.cells #[.int .i64 kf, .slice A8 of_.length c88, .int .i64 tf] 75)); have hcK : (W8.alloc (.cells #[.int .i64 kf, .slice A8 of_.length c88, .int .i64 tf] 75)).cell? ⟨W7.heap.size, 0, none⟩ = some (.int .i64 kd) := blk_cell (blk_below (blk_new W7 _) (below_alloc hB8 _)) 0; have hcM : (W8.alloc (.cells #[.int .i64 kf, .slice A8 of_.length c88, .int .i64 tf] 75)).cell? ⟨W8.heap.size, 0, none⟩ = some (.int .i64 kf) := blk_cell (blk_new W8 _) 0; replace hB8 := Aside0.mk hB8) | (go_at_call 41; (with_reducible refine (lin_lives _).mono ?_); rintro e WZ ⟨rfl, hBZ⟩; replace hBZ := Aside0.mk hBZ))
    go_ret
    exact ⟨rfl, below_step hB08.out hBZ.out⟩
  have hkf1 : (kf == 1) = false := by simpa using k2
  have hkf3 : (kf == 3) = true := by rcases hkk k1 with e | e <;> simp_all
  clear hkk hov hov2 k1 k2
  go_enter Try.func19, Try.ntmps19
  go_wp2_with (first | (go_at_call 22; (with_reducible refine (inquestref15_Few.calls A cap l L _ hr.out hc hF.out).mono ?_); rintro e W1 ⟨vF, rfl, hRF, hB1⟩; obtain ⟨AF, cF, rfl⟩ := Kd.R_slice hRF; obtain ⟨_, hcF, hCF⟩ := Kd.R_reads' hRF; replace hCF := Aside0.mk hCF; replace hB1 := Aside0.mk hB1; replace hcF := Aside0.mk hcF; clear hRF) | (go_at_call 51; (with_reducible refine (inquestref14_Few.calls A2 c2 ev0 10 ev _ (Kd.C_below hr2.out hB1.out) hc2 hF4.out).mono ?_); rintro e W2 ⟨vG, rfl, hRG, hB2⟩; obtain ⟨AG, cG, rfl⟩ := Kd.R_slice hRG; obtain ⟨_, hcG, hCG⟩ := Kd.R_reads' hRG; have hCF2 := Aside0.mk (Kd.C_below hCF.out hB2); have hB02 := Aside0.mk (below_step hB1.out hB2); replace hCG := Aside0.mk hCG; have hnG : n ≤ cG := Nat.le_trans hnl hcG; have hnG2 : (n : Int) ≤ (cG : Int) := (by omega); replace hcG := Aside0.mk hcG; clear hRG hB2) | (go_at_call 30; (with_reducible refine (inquestref01_Least.calls fuel 0 300 f _ hf.out).mono ?_); rintro e W3 ⟨rfl, ⟨nW3, rfl⟩⟩) | (go_at_call 30; (with_reducible refine (inquestref01_Least.calls n0 0 (ev.length : Int) (n : Int) _ hn.out).mono ?_); rintro e W4 ⟨rfl, ⟨nW4, rfl⟩⟩) | (go_at_call 52; (with_reducible refine (hops_call AG cG ev.length ev p1 p2 _ rfl (Kd.C_below hCG.out (by repeat (first | exact Below.refl _ _ | apply pw_below_drewN))) hcG.out hp.out).mono ?_); rintro e W5 ⟨vP, rfl, hRP, hB5⟩; obtain ⟨AP, cP, rfl⟩ := Kd.R_slice hRP; obtain ⟨_, hcP, hCP⟩ := Kd.R_reads' hRP; have hCG5 := Aside0.mk (Kd.C_below (Kd.C_below hCG.out (by repeat (first | exact Below.refl _ _ | apply pw_below_drewN))) hB5); have hCF5 := Aside0.mk (Kd.C_below (Kd.C_below hCF2.out (by repeat (first | exact Below.refl _ _ | apply pw_below_drewN))) hB5); have hB05 := Aside0.mk (below_step (below_step hB02.out (by repeat (first | exact Below.refl _ _ | apply pw_below_drewN))) hB5); replace hCP := Aside0.mk hCP; replace hcP := Aside0.mk hcP; clear hRP hB5) | (go_at_call 52; (with_reducible refine (hops_call AG cG n (ev.take n) q1 q2 _ htl.out (c_takeE hCG5.out hnl) hnG hq.out).mono ?_); rintro e W6 ⟨vQ, rfl, hRQ, hB6⟩; obtain ⟨AQ, cQ, rfl⟩ := Kd.R_slice hRQ; obtain ⟨_, hcQ, hCQ⟩ := Kd.R_reads' hRQ; have hCP6 := Aside0.mk (Kd.C_below hCP.out hB6); have hCF6 := Aside0.mk (Kd.C_below hCF5.out hB6); have hB06 := Aside0.mk (below_step hB05.out hB6); replace hCQ := Aside0.mk hCQ; replace hcQ := Aside0.mk hcQ; clear hRQ hB6) | (go_at_call 48; (with_reducible refine (hwp.out AF AP cF cP _ hCF6.out hcF.out hCP6.out hcP.out).mono ?_); rintro e W7 ⟨v7, rfl, hv7, hB7⟩; obtain ⟨A7, c87, rfl⟩ := Kd.R_slice hv7; clear hv7; have hCQ7 := Aside0.mk (Kd.C_alloc (Kd.C_below hCQ.out hB7) (.cells #[.int .i64 kd, .slice A7 od.length c87, .int .i64 td] 75)); have hCF7 := Aside0.mk (Kd.C_alloc (Kd.C_below hCF6.out hB7) (.cells #[.int .i64 kd, .slice A7 od.length c87, .int .i64 td] 75)); have hB07 := Aside0.mk (below_alloc (below_step hB06.out hB7) (.cells #[.int .i64 kd, .slice A7 od.length c87, .int .i64 td] 75)); clear hB7) | (go_at_call 48; (with_reducible refine (hwq.out AF AQ cF cQ _ hCF7.out hcF.out hCQ7.out hcQ.out).mono ?_); rintro e W8 ⟨v8, rfl, hv8, hB8⟩; obtain ⟨A8, c88, rfl⟩ := Kd.R_slice hv8; clear hv8; have hB08 := Aside0.mk (below_alloc (below_step hB07.out hB8) (.cells #[.int .i64 kf, .slice A8 of_.length c88, .int .i64 tf] 75)); have hcK : (W8.alloc (.cells #[.int .i64 kf, .slice A8 of_.length c88, .int .i64 tf] 75)).cell? ⟨W7.heap.size, 0, none⟩ = some (.int .i64 kd) := blk_cell (blk_below (blk_new W7 _) (below_alloc hB8 _)) 0; have hcM : (W8.alloc (.cells #[.int .i64 kf, .slice A8 of_.length c88, .int .i64 tf] 75)).cell? ⟨W8.heap.size, 0, none⟩ = some (.int .i64 kf) := blk_cell (blk_new W8 _) 0; replace hB8 := Aside0.mk hB8) | (go_at_call 41; (with_reducible refine (lin_lives _).mono ?_); rintro e WZ ⟨rfl, hBZ⟩; replace hBZ := Aside0.mk hBZ))
  go_ret
  exact ⟨rfl, below_step hB08.out hBZ.out⟩
end Go.Proofs.Ytddkoimaghcbeaa.PVmSteps
