/- A part of the proofs about layers 16 to 18 (vm, order, lin) and their references: contracts and plain lemmas that the laws stand on. No condition beyond what each theorem says. -/
import Derived.Test.YtddkoimaghcbeaaPVmStepsx1
import Derived.Test.YtddkoimaghcbeaaPVmStepsx2
import Derived.Test.YtddkoimaghcbeaaPVmStepsx3
import Derived.Test.YtddkoimaghcbeaaPVmStepsx4
import Derived.Test.YtddkoimaghcbeaaPVmStepsx5
import Derived.Test.YtddkoimaghcbeaaPVmStepsx6
import Derived.Test.YtddkoimaghcbeaaTmpore
import Derived.Test.YtddkoimaghcbeaaTmpvmw
import Derived.IntWalk
namespace Go.Proofs.Ytddkoimaghcbeaa.PVmSteps
open Go.RowKit Go.Proofs.YtddkoimaghcbeaaW.PrintWords Go.Proofs.YtddkoimaghcbeaaW.PrintLast Go.Proofs.YtddkoimaghcbeaaW.PrintMore
set_option linter.unusedVariables false
set_option linter.unusedSimpArgs false
theorem few17 (l : List S65) (n : Int) (h0 : 0 ≤ n) (h1 : n ≤ 1000) : inquestref17_Few.f l n = some (l.take n.toNat) := by
  unfold inquestref17_Few.f
  by_cases c : (l.length : Int) > n
  · rw [if_pos c, if_pos h0, if_pos (by omega), Option.bind_some, if_pos (by simp [List.length_take]; omega)]; rfl
  · rw [if_neg c, if_pos (by simp; omega), List.take_of_length_le (by omega)]; rfl
theorem ordZ_fuel (L : List S36) (ht : (thru L).2.2 = 0) (ops : List S65) (f m : Int) (hm : 0 ≤ m) (hf : 0 ≤ f) : ∀ (o : List Int) (cs : List Int), cs.length = 4 → ordZ L ops f o cs = 18 ∨ ordZ L ops (f + m) o cs = ordZ L ops f o cs
  | [], _, _ => .inr rfl
  | i :: o, cs, h4 => by
    obtain ⟨rk, rs, rr, ru, hv, h4', _, hru⟩ := vstep_good L ht cs h4 (rd_T65 ops i).f1 (rd_T65 ops i).f2 f
    by_cases h1 : rk = 1
    · subst h1
      have hv2 := vstep_same hv (by decide) (f + m) (by omega)
      by_cases hd : (rd_T65 ops i).f3 = true ∧ rr ≠ (rd_T65 ops i).f4
      · exact .inr (by rw [ordZ_19 hv hd.1 hd.2, ordZ_19 hv2 hd.1 hd.2])
      · have hd2 : (rd_T65 ops i).f3 = false ∨ rr = (rd_T65 ops i).f4 := by
          cases e : (rd_T65 ops i).f3 with
          | false => exact .inl rfl
          | true => exact .inr (Decidable.byContradiction fun hne => hd ⟨e, hne⟩)
        rw [ordZ_go hv hd2, ordZ_go hv2 hd2]
        exact ordZ_fuel L ht ops f m hm hf o rs h4'
    · exact .inl (ordZ_18 hv h1)
theorem ordC_fuel (L : List S36) (ops : List S65) (o : List Int) (f m : Int) (hf : 0 ≤ f ∧ f ≤ 300) (hm : 0 ≤ m ∧ m ≤ 300) : ordC L f ops o = 18 ∨ ordC L (f + m) ops o = ordC L f ops o := by
  unfold ordC
  by_cases ht : (thru L).2.2 = 0
  rotate_left
  · rw [if_pos ht, if_pos ht]; exact .inr rfl
  simp only [if_neg (show ¬ (thru L).2.2 ≠ 0 from fun h => h ht), if_neg (show ¬ (f < 0 ∨ 10000 < f) by omega), if_neg (show ¬ (f + m < 0 ∨ 10000 < f + m) by omega)]
  by_cases h1 : 64 < ops.length
  · simp only [if_pos h1]; exact .inr trivial
  simp only [if_neg h1]
  by_cases h2 : placeZ ops o (List.replicate ops.length false) = 0
  rotate_left
  · simp only [if_pos h2]; exact .inr trivial
  simp only [if_neg (show ¬ placeZ ops o (List.replicate ops.length false) ≠ 0 from fun h => h h2)]
  by_cases h3 : timeZ ops [] o = false
  · simp only [if_pos h3]; exact .inr trivial
  simp only [if_neg h3]
  exact ordZ_fuel L ht ops f m hm.1 hf.1 o [0, 0, 0, 0] rfl
theorem ordC_cases (L : List S36) (ops : List S65) (o : List Int) (f m : Int) (hf : 0 ≤ f ∧ f ≤ 300) (hm : 0 ≤ m ∧ m ≤ 300) (a b : Int) (ha : a = ordC L f ops o) (hb : b = ordC L (f + m) ops o) :
    (a = 18 ∧ b = 18) ∨ (a = 18 ∧ (18 == b) = false) ∨ (a = 0 ∧ b = 0) ∨ ((a != 0) = true ∧ b = a) := by
  have h := ordC_fuel L ops o f m hf hm
  rw [← ha, ← hb] at h
  simp only [beq_eq_false_iff_ne, bne_iff_ne]
  omega
set_option maxRecDepth 100000 in
set_option maxHeartbeats 8000000 in
theorem orderFuel_core (A : Option Addr) (cap : Nat) (l : List S36) (fuel more : Int) (A2 : Option Addr) (c2 : Nat) (ops0 : List S65) (A3 : Option Addr) (c3 : Nat) (o0 : List Int) (w : World) (hr : Kd.C k36 w A l.length l) (hc : l.length ≤ cap) (hm : l.length ≤ maxLen) (hr2 : Kd.C k65 w A2 ops0.length ops0) (hc2 : ops0.length ≤ c2) (hr3 : Kd.C (Kd.int .i64) w A3 o0.length o0) (hc3 : o0.length ≤ c3) :
    Calls Try.prog 12 #[.slice A l.length cap, .int .i64 fuel, .int .i64 more, .slice A2 ops0.length c2, .slice A3 o0.length c3] w fun e w' => e = .returned (.bool true) ∧ Below w.heap.size w w' := by
  have hF := Aside0.mk (few15 l hm)
  have hF2 := Aside0.mk (few17 ops0 64 (by decide) (by decide))
  have hL2 : (l.take 210).length ≤ 210 := by rw [List.length_take]; omega
  have hO2 : (o0.take (64 : Int).toNat).length ≤ 64 := by rw [List.length_take]; exact Nat.min_le_left _ _
  have hI := Aside0.mk (fun (W : World) (h : Kd.C (Kd.int .i64) W A3 o0.length o0) => ord_Ints A3 c3 o0 64 W h hc3 (by decide) (by decide))
  generalize l.take 210 = L at *
  generalize ops0.take (64 : Int).toNat = ops at *
  generalize o0.take (64 : Int).toNat = o at *
  have hL3 : Aside0 (L.length ≤ 300) := ⟨by omega⟩
  have hO3 : Aside0 (o.length ≤ 1000) := ⟨by omega⟩
  replace hr := Aside0.mk hr
  replace hr2 := Aside0.mk hr2
  replace hr3 := Aside0.mk hr3
  obtain ⟨f, hf, hf0, hf1⟩ := least01 fuel 0 300 (by decide)
  obtain ⟨m, hm', hm0, hm1⟩ := least01 more 0 300 (by decide)
  replace hf := Aside0.mk hf
  replace hm' := Aside0.mk hm'
  have hwr : IntKind.i64.wrap (f + m) = f + m := IntWalk.i64_in _ ⟨by omega, by omega⟩
  have hwr2 : wrap64 (f + m) = f + m := w64 (by omega) (by omega)
  obtain ⟨a, ha⟩ : ∃ a, a = ordC L f ops o := ⟨_, rfl⟩
  obtain ⟨b, hb⟩ : ∃ b, b = ordC L (f + m) ops o := ⟨_, rfl⟩
  have hcase := ordC_cases L ops o f m ⟨hf0, hf1⟩ ⟨hm0, hm1⟩ a b ha hb
  replace ha := Aside0.mk ha
  replace hb := Aside0.mk hb
  clear hL2 hO2 hm hf0 hf1 hm0 hm1
  rcases hcase with ⟨rfl, rfl⟩ | ⟨rfl, hne⟩ | ⟨rfl, rfl⟩ | ⟨hne, rfl⟩
  all_goals
    go_enter Try.func12, Try.ntmps12
    go_wp2_with (first | (go_at_call 22; (with_reducible refine (inquestref15_Few.calls A cap l L _ hr.out hc hF.out).mono ?_); rintro e W1 ⟨vF, rfl, hRF, hB1⟩; obtain ⟨AF, cF, rfl⟩ := Kd.R_slice hRF; obtain ⟨_, hcF, hCF⟩ := Kd.R_reads' hRF; replace hCF := Aside0.mk hCF; replace hB1 := Aside0.mk hB1; replace hcF := Aside0.mk hcF; clear hRF) | (go_at_call 31; (with_reducible refine (inquestref17_Few.calls A2 c2 ops0 64 ops _ (Kd.C_below hr2.out hB1.out) hc2 hF2.out).mono ?_); rintro e W2 ⟨vG, rfl, hRG, hB2⟩; obtain ⟨AG, cG, rfl⟩ := Kd.R_slice hRG; obtain ⟨_, hcG, hCG⟩ := Kd.R_reads' hRG; replace hCG := Aside0.mk hCG; replace hB2 := Aside0.mk hB2; replace hcG := Aside0.mk hcG; clear hRG) | (go_at_call 32; (with_reducible refine (hI.out _ (Kd.C_below (Kd.C_below hr3.out hB1.out) hB2.out)).mono ?_); rintro e W3 ⟨vH, rfl, hRH, hB3⟩; obtain ⟨AH, cH, rfl⟩ := Kd.R_slice hRH; obtain ⟨_, hcH, hCH⟩ := Kd.R_reads' hRH; have hchk : Aside0 (∀ (f_ : Int) (W : World), Below W3.heap.size W3 W → Calls Try.prog 33 #[.slice AF L.length cF, .int .i64 f_, .slice AG ops.length cG, .slice AH o.length cH] W fun e w' => e = .returned (.int .i64 (ordC L f_ ops o)) ∧ Below W.heap.size W w') := ⟨fun f_ W hW => ord_Check AF AG AH cF cG cH L f_ ops o W (Kd.C_below (Kd.C_below (Kd.C_below hCF.out hB2.out) hB3) hW) hcF.out hL3.out (Kd.C_below (Kd.C_below hCG.out hB3) hW) hcG.out (Kd.C_below hCH hW) hcH hO3.out⟩; have hB03 := Aside0.mk (below_step (below_step hB1.out hB2.out) hB3); clear hRH hCH hcH hB3) | (go_at_call 30; (with_reducible refine (inquestref01_Least.calls fuel 0 300 f _ hf.out).mono ?_); rintro e W5 ⟨rfl, ⟨nd, rfl⟩⟩) | (go_at_call 30; (with_reducible refine (inquestref01_Least.calls more 0 300 m _ hm'.out).mono ?_); rintro e W5 ⟨rfl, ⟨nd2, rfl⟩⟩) | (go_at_call 33; (with_reducible refine (hchk.out f _ ?hbw).mono ?_); (case hbw => repeat (first | exact Below.refl _ _ | apply pw_below_drewN)); rw [← ha.out]; rintro e W6 ⟨rfl, hB6_⟩; have hB36 : Aside0 (Below W3.heap.size W3 W6) := ⟨below_step (by repeat (first | exact Below.refl _ _ | apply pw_below_drewN)) hB6_⟩; have hB6 := Aside0.mk (below_step hB03.out hB36.out); clear hB6_) | (go_at_call 33; (with_reducible refine (hchk.out (f + m) _ hB36.out).mono ?_); rw [← hb.out]; rintro e W7 ⟨rfl, hB7⟩; replace hB7 := Aside0.mk hB7) | (go_at_call 37; (with_reducible refine (ord_lives _).mono ?_); rintro e WZ ⟨rfl, hBZ⟩; replace hBZ := Aside0.mk hBZ))
    go_ret
    exact ⟨rfl, below_step (below_step hB6.out hB7.out) hBZ.out⟩
theorem inquestlaw17_OrderFuel.any (A : Option Addr) (cap : Nat) (l : List S36) (fuel more : Int) (A2 : Option Addr) (c2 : Nat) (ops0 : List S65) (A3 : Option Addr) (c3 : Nat) (o0 : List Int) (w : World) (hr : Kd.C k36 w A l.length l) (hc : l.length ≤ cap) (hm : l.length ≤ maxLen) {P0 : Prop} (_ : P0) {P1 : Prop} (_ : P1) {P2 : Prop} (_ : P2) (hr2 : Kd.C k65 w A2 ops0.length ops0) (hc2 : ops0.length ≤ c2) {P3 : Prop} (_ : P3) {P4 : Prop} (_ : P4) (hr3 : Kd.C (Kd.int .i64) w A3 o0.length o0) (hc3 : o0.length ≤ c3) {P5 : Prop} (_ : P5) {P6 : Prop} (_ : P6) :
    Calls Try.prog 12 #[.slice A l.length cap, .int .i64 fuel, .int .i64 more, .slice A2 ops0.length c2, .slice A3 o0.length c3] w fun e w' => e = .returned (.bool true) ∧ Below w.heap.size w w' :=
  orderFuel_core A cap l fuel more A2 c2 ops0 A3 c3 o0 w hr hc hm hr2 hc2 hr3 hc3

end Go.Proofs.Ytddkoimaghcbeaa.PVmSteps
