/- A part of what the law LinTells stands on, only as far as it is needed (the words and walks were printed or written in this seat; this text was cut by a program of this session, wip/bin/trim.py). No condition beyond what each theorem says. -/
import Derived.Test.YtddkoimaghcbeaaZLTPVmStepsx0
import Derived.Test.YtddkoimaghcbeaaZLTPVmStepsx2
import Derived.Test.YtddkoimaghcbeaaZLTPVmStepsx3
import Derived.Test.YtddkoimaghcbeaaZLTPVmStepsx4
import Derived.Test.YtddkoimaghcbeaaZLTPVmStepsx5
import Derived.Test.YtddkoimaghcbeaaZLTPVmStepsx6
import Derived.Test.YtddkoimaghcbeaaZLTTmplix
namespace Go.Proofs.Ytddkoimaghcbeaa.PVmSteps
open Go.RowKit Go.Proofs.YtddkoimaghcbeaaW.PrintWords Go.Proofs.YtddkoimaghcbeaaW.PrintLast Go.Proofs.YtddkoimaghcbeaaW.PrintMore
set_option linter.unusedVariables false
set_option linter.unusedSimpArgs false
/-- Some operation is before itself. -/
def selfZ (ops : List S65) : Bool := (List.range ops.length).any (fun i => befZ (rd_T65 ops (i : Int)) (rd_T65 ops (i : Int)))
/-- Why there is no search; 0: there is one. -/
def newE (L : List S36) (fuel budget : Int) (ops : List S65) : Int :=
  if (thru L).2.2 ≠ 0 then (thru L).2.2 else if fuel < 0 ∨ 10000 < fuel ∨ budget < 0 ∨ 1073741824 < budget then 2 else if 64 < ops.length then 5 else if selfZ ops = true then 17 else 0
set_option maxRecDepth 100000 in
set_option maxHeartbeats 8000000 in
theorem lin_New_code (A0 A3 : Option Addr) (c0 c3 : Nat) (L : List S36) (fuel budget : Int) (ops : List S65) (w : World) (hC0 : Kd.C k36 w A0 L.length L) (hc0 : L.length ≤ c0) (hL : L.length ≤ 300) (hC3 : Kd.C k65 w A3 ops.length ops) (hc3 : ops.length ≤ c3) (ht : (thru L).2.2 ≠ 0) :
    Calls Try.prog 39 #[.slice A0 L.length c0, .int .i64 fuel, .int .i64 budget, .slice A3 ops.length c3] w fun e w' => e = .returned (.tuple #[.pointer none, .int .i64 ((thru L).2.2)]) ∧ Below w.heap.size w w' := by
  replace hC0 := Aside0.mk hC0
  replace hC3 := Aside0.mk hC3
  replace hL := Aside0.mk hL
  have hb0 : ((thru L).2.2 != 0) = true := by simpa using ht
  replace ht := Aside0.mk ht
  go_enter Try.func39, Try.ntmps39
  go_wp2_with (first | (go_at_call 23; (with_reducible refine (vm_New_e A0 c0 L _ hC0.out hc0 hL.out ht.out).mono ?_); rintro e WM ⟨rfl, hBM⟩; replace hBM := Aside0.mk hBM))
  go_ret2
  exact ⟨rfl, hBM.out⟩
set_option maxRecDepth 100000 in
set_option maxHeartbeats 8000000 in
theorem lin_New_arg0 (A0 A3 : Option Addr) (c0 c3 : Nat) (L : List S36) (fuel budget : Int) (ops : List S65) (w : World) (hC0 : Kd.C k36 w A0 L.length L) (hc0 : L.length ≤ c0) (hL : L.length ≤ 300) (hC3 : Kd.C k65 w A3 ops.length ops) (hc3 : ops.length ≤ c3) (ht : (thru L).2.2 = 0) (hf : fuel < 0) :
    Calls Try.prog 39 #[.slice A0 L.length c0, .int .i64 fuel, .int .i64 budget, .slice A3 ops.length c3] w fun e w' => e = .returned (.tuple #[.pointer none, .int .i64 (2)]) ∧ Below w.heap.size w w' := by
  replace hC0 := Aside0.mk hC0
  replace hC3 := Aside0.mk hC3
  replace hL := Aside0.mk hL
  have hb1 : decide (fuel < 0) = true := decide_eq_true (by omega)
  clear hf
  replace ht := Aside0.mk ht
  go_enter Try.func39, Try.ntmps39
  go_wp2_with (first | (go_at_call 23; (with_reducible refine (vm_New_k A0 c0 L _ hC0.out hc0 hL.out ht.out).mono ?_); rintro e WM ⟨gm, vM, rfl, hM, hBM⟩; replace hM := Aside0.mk hM; replace hBM := Aside0.mk hBM))
  go_ret2
  exact ⟨rfl, hBM.out⟩
set_option maxRecDepth 100000 in
set_option maxHeartbeats 8000000 in
theorem lin_New_arg1 (A0 A3 : Option Addr) (c0 c3 : Nat) (L : List S36) (fuel budget : Int) (ops : List S65) (w : World) (hC0 : Kd.C k36 w A0 L.length L) (hc0 : L.length ≤ c0) (hL : L.length ≤ 300) (hC3 : Kd.C k65 w A3 ops.length ops) (hc3 : ops.length ≤ c3) (ht : (thru L).2.2 = 0) (hf : 0 ≤ fuel ∧ 10000 < fuel) :
    Calls Try.prog 39 #[.slice A0 L.length c0, .int .i64 fuel, .int .i64 budget, .slice A3 ops.length c3] w fun e w' => e = .returned (.tuple #[.pointer none, .int .i64 (2)]) ∧ Below w.heap.size w w' := by
  replace hC0 := Aside0.mk hC0
  replace hC3 := Aside0.mk hC3
  replace hL := Aside0.mk hL
  have hb1 : decide (fuel < 0) = false := decide_eq_false (by omega)
  have hb2 : decide (10000 < fuel) = true := decide_eq_true (by omega)
  clear hf
  replace ht := Aside0.mk ht
  go_enter Try.func39, Try.ntmps39
  go_wp2_with (first | (go_at_call 23; (with_reducible refine (vm_New_k A0 c0 L _ hC0.out hc0 hL.out ht.out).mono ?_); rintro e WM ⟨gm, vM, rfl, hM, hBM⟩; replace hM := Aside0.mk hM; replace hBM := Aside0.mk hBM))
  go_ret2
  exact ⟨rfl, hBM.out⟩
set_option maxRecDepth 100000 in
set_option maxHeartbeats 8000000 in
theorem lin_New_arg2 (A0 A3 : Option Addr) (c0 c3 : Nat) (L : List S36) (fuel budget : Int) (ops : List S65) (w : World) (hC0 : Kd.C k36 w A0 L.length L) (hc0 : L.length ≤ c0) (hL : L.length ≤ 300) (hC3 : Kd.C k65 w A3 ops.length ops) (hc3 : ops.length ≤ c3) (ht : (thru L).2.2 = 0) (hf : 0 ≤ fuel ∧ fuel ≤ 10000 ∧ budget < 0) :
    Calls Try.prog 39 #[.slice A0 L.length c0, .int .i64 fuel, .int .i64 budget, .slice A3 ops.length c3] w fun e w' => e = .returned (.tuple #[.pointer none, .int .i64 (2)]) ∧ Below w.heap.size w w' := by
  replace hC0 := Aside0.mk hC0
  replace hC3 := Aside0.mk hC3
  replace hL := Aside0.mk hL
  have hb1 : decide (fuel < 0) = false := decide_eq_false (by omega)
  have hb2 : decide (10000 < fuel) = false := decide_eq_false (by omega)
  have hb3 : decide (budget < 0) = true := decide_eq_true (by omega)
  clear hf
  replace ht := Aside0.mk ht
  go_enter Try.func39, Try.ntmps39
  go_wp2_with (first | (go_at_call 23; (with_reducible refine (vm_New_k A0 c0 L _ hC0.out hc0 hL.out ht.out).mono ?_); rintro e WM ⟨gm, vM, rfl, hM, hBM⟩; replace hM := Aside0.mk hM; replace hBM := Aside0.mk hBM))
  go_ret2
  exact ⟨rfl, hBM.out⟩
set_option maxRecDepth 100000 in
set_option maxHeartbeats 8000000 in
theorem lin_New_arg3 (A0 A3 : Option Addr) (c0 c3 : Nat) (L : List S36) (fuel budget : Int) (ops : List S65) (w : World) (hC0 : Kd.C k36 w A0 L.length L) (hc0 : L.length ≤ c0) (hL : L.length ≤ 300) (hC3 : Kd.C k65 w A3 ops.length ops) (hc3 : ops.length ≤ c3) (ht : (thru L).2.2 = 0) (hf : 0 ≤ fuel ∧ fuel ≤ 10000 ∧ 1073741824 < budget) :
    Calls Try.prog 39 #[.slice A0 L.length c0, .int .i64 fuel, .int .i64 budget, .slice A3 ops.length c3] w fun e w' => e = .returned (.tuple #[.pointer none, .int .i64 (2)]) ∧ Below w.heap.size w w' := by
  replace hC0 := Aside0.mk hC0
  replace hC3 := Aside0.mk hC3
  replace hL := Aside0.mk hL
  have hb1 : decide (fuel < 0) = false := decide_eq_false (by omega)
  have hb2 : decide (10000 < fuel) = false := decide_eq_false (by omega)
  have hb3 : decide (budget < 0) = false := decide_eq_false (by omega)
  have hb4 : decide (1073741824 < budget) = true := decide_eq_true (by omega)
  clear hf
  replace ht := Aside0.mk ht
  go_enter Try.func39, Try.ntmps39
  go_wp2_with (first | (go_at_call 23; (with_reducible refine (vm_New_k A0 c0 L _ hC0.out hc0 hL.out ht.out).mono ?_); rintro e WM ⟨gm, vM, rfl, hM, hBM⟩; replace hM := Aside0.mk hM; replace hBM := Aside0.mk hBM))
  go_ret2
  exact ⟨rfl, hBM.out⟩
set_option maxRecDepth 100000 in
set_option maxHeartbeats 8000000 in
theorem lin_New_big (A0 A3 : Option Addr) (c0 c3 : Nat) (L : List S36) (fuel budget : Int) (ops : List S65) (w : World) (hC0 : Kd.C k36 w A0 L.length L) (hc0 : L.length ≤ c0) (hL : L.length ≤ 300) (hC3 : Kd.C k65 w A3 ops.length ops) (hc3 : ops.length ≤ c3) (ht : (thru L).2.2 = 0) (hf : 0 ≤ fuel ∧ fuel ≤ 10000 ∧ 0 ≤ budget ∧ budget ≤ 1073741824) (ho : 64 < ops.length) :
    Calls Try.prog 39 #[.slice A0 L.length c0, .int .i64 fuel, .int .i64 budget, .slice A3 ops.length c3] w fun e w' => e = .returned (.tuple #[.pointer none, .int .i64 (5)]) ∧ Below w.heap.size w w' := by
  replace hC0 := Aside0.mk hC0
  replace hC3 := Aside0.mk hC3
  replace hL := Aside0.mk hL
  have hb1 : decide (fuel < 0) = false := decide_eq_false (by omega)
  have hb2 : decide (10000 < fuel) = false := decide_eq_false (by omega)
  have hb3 : decide (budget < 0) = false := decide_eq_false (by omega)
  have hb4 : decide (1073741824 < budget) = false := decide_eq_false (by omega)
  have hb5 : decide (64 < (ops.length : Int)) = true := decide_eq_true (by omega)
  clear hf ho
  replace ht := Aside0.mk ht
  go_enter Try.func39, Try.ntmps39
  go_wp2_with (first | (go_at_call 23; (with_reducible refine (vm_New_k A0 c0 L _ hC0.out hc0 hL.out ht.out).mono ?_); rintro e WM ⟨gm, vM, rfl, hM, hBM⟩; replace hM := Aside0.mk hM; replace hBM := Aside0.mk hBM))
  go_ret2
  exact ⟨rfl, hBM.out⟩
set_option maxRecDepth 100000 in
set_option maxHeartbeats 8000000 in
theorem lin_New_self (A0 A3 : Option Addr) (c0 c3 : Nat) (L : List S36) (fuel budget : Int) (ops : List S65) (w : World) (hC0 : Kd.C k36 w A0 L.length L) (hc0 : L.length ≤ c0) (hL : L.length ≤ 300) (hC3 : Kd.C k65 w A3 ops.length ops) (hc3 : ops.length ≤ c3) (ht : (thru L).2.2 = 0) (hf : 0 ≤ fuel ∧ fuel ≤ 10000 ∧ 0 ≤ budget ∧ budget ≤ 1073741824) (ho : ops.length ≤ 64) (hs : selfZ ops = true) :
    Calls Try.prog 39 #[.slice A0 L.length c0, .int .i64 fuel, .int .i64 budget, .slice A3 ops.length c3] w fun e w' => e = .returned (.tuple #[.pointer none, .int .i64 (17)]) ∧ Below w.heap.size w w' := by
  replace hC0 := Aside0.mk hC0
  replace hC3 := Aside0.mk hC3
  replace hL := Aside0.mk hL
  have hb1 : decide (fuel < 0) = false := decide_eq_false (by omega)
  have hb2 : decide (10000 < fuel) = false := decide_eq_false (by omega)
  have hb3 : decide (budget < 0) = false := decide_eq_false (by omega)
  have hb4 : decide (1073741824 < budget) = false := decide_eq_false (by omega)
  have hb5 : decide (64 < (ops.length : Int)) = false := decide_eq_false (by omega)
  clear hf
  replace ht := Aside0.mk ht
  have hn64 := Aside0.mk ho
  replace hs := Aside0.mk hs
  clear ho
  go_enter Try.func39, Try.ntmps39
  go_wp2_with (first | (go_at_call 23; (with_reducible refine (vm_New_k A0 c0 L _ hC0.out hc0 hL.out ht.out).mono ?_); rintro e WM ⟨gm, vM, rfl, hM, hBM⟩; replace hM := Aside0.mk hM; replace hBM := Aside0.mk hBM))
  go_loopg [49] ops.length (fun kk v49 W_ => ∃ (i : Nat), v49 = .int .i64 i ∧ Aside0 (kk + i = ops.length ∧ ∃ k : Nat, i ≤ k ∧ k < ops.length ∧ befZ (rd_T65 ops (k : Int)) (rd_T65 ops (k : Int)) = true) ∧ Aside0 (Below WM.heap.size WM W_))
  case atStart => exact ⟨0, rfl, ⟨⟨by omega, by obtain ⟨k, h1, h2⟩ := List.any_eq_true.mp hs.out; exact ⟨k, Nat.zero_le _, List.mem_range.mp h1, h2⟩⟩⟩, ⟨Below.refl _ _⟩⟩
  case round =>
    obtain ⟨i, rfl, hki, hBW⟩ := hrel
    cases gk with
    | succ j =>
      have hi : Aside0 (i < ops.length) := ⟨by have := hki.out.1; omega⟩
      have hlt : decide ((i : Int) < (ops.length : Int)) = true := decide_eq_true (by have := hi.out; omega)
      have hlt2 : i < ops.length := hi.out
      have hi0 : decide (0 ≤ (i : Int)) = true := decide_eq_true (by omega)
      have hi64 : (i : Int) ≤ 64 := by have := hn64.out; omega
      obtain ⟨ad, e9, hop7⟩ := op_cells7 (Kd.C_below (Kd.C_below hC3.out hBM.out) hBW.out) (i : Int) (by omega) (by omega)
      cases e9
      obtain ⟨px, hpx⟩ : ∃ x, x = rd_T65 ops (i : Int) := ⟨_, rfl⟩
      rw [← hpx] at hop7
      obtain ⟨o0, o1, o2, o3, o4, o5, o6⟩ := hop7 wr (Below.refl _ _)
      simp only [Int.toNat_natCast] at o0 o1 o2 o3 o4 o5 o6
      replace hop7 := Aside0.mk hop7
      cases hbz : befZ px px with
      | true =>
        replace hbz : Aside0 (hist_Before.f px.f0 px.f1 px.f2 px.f3 px.f4 px.f5 px.f6 px.f0 px.f1 px.f2 px.f3 px.f4 px.f5 px.f6 = some true) := ⟨by rw [← hbz]; exact hist_bef px px⟩
        clear hpx
        go_wp2_with (first | (go_at_call 38; (with_reducible refine (hist_Before.calls px.f0 px.f1 px.f2 px.f3 px.f4 px.f5 px.f6 px.f0 px.f1 px.f2 px.f3 px.f4 px.f5 px.f6 true _ hbz.out).mono ?_); rintro e W8 ⟨rfl, hB8⟩; replace hB8 := Aside0.mk hB8))
        go_ret2
        exact ⟨rfl, below_step (below_step (below_step hBM.out hBW.out) (below_alloc (Below.refl _ _) _)) hB8.out⟩
      | false =>
        have hki2 : Aside0 (∃ k : Nat, i + 1 ≤ k ∧ k < ops.length ∧ befZ (rd_T65 ops (k : Int)) (rd_T65 ops (k : Int)) = true) := ⟨by
          obtain ⟨k, h1, h2, h3⟩ := hki.out.2
          rcases Nat.lt_or_ge i k with h | h
          · exact ⟨k, h, h2, h3⟩
          · obtain rfl : k = i := by omega
            rw [← hpx, hbz] at h3; cases h3⟩
        replace hbz : Aside0 (hist_Before.f px.f0 px.f1 px.f2 px.f3 px.f4 px.f5 px.f6 px.f0 px.f1 px.f2 px.f3 px.f4 px.f5 px.f6 = some false) := ⟨by rw [← hbz]; exact hist_bef px px⟩
        clear hpx
        go_wp2_with (first | (go_at_call 38; (with_reducible refine (hist_Before.calls px.f0 px.f1 px.f2 px.f3 px.f4 px.f5 px.f6 px.f0 px.f1 px.f2 px.f3 px.f4 px.f5 px.f6 false _ hbz.out).mono ?_); rintro e W8 ⟨rfl, hB8⟩; replace hB8 := Aside0.mk hB8))
        go_roundg j
        case measure => omega
        case rel => exact ⟨i + 1, by simp, ⟨⟨by have := hki.out.1; omega, hki2.out⟩⟩, ⟨below_step (below_step hBW.out (below_alloc (Below.refl _ _) _)) hB8.out⟩⟩
    | zero =>
      obtain rfl : i = ops.length := by have := hki.out.1; omega
      obtain ⟨k, h1, h2, _⟩ := hki.out.2
      exact absurd h2 (by omega)
end Go.Proofs.Ytddkoimaghcbeaa.PVmSteps
