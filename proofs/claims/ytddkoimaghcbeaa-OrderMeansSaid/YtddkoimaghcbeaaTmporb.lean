/- A part of the proofs about layers 16 to 18 (vm, order, lin) and their references: contracts and plain lemmas that the laws stand on. No condition beyond what each theorem says. -/
import Derived.Test.YtddkoimaghcbeaaPVmStepsx1
import Derived.Test.YtddkoimaghcbeaaPVmStepsx2
import Derived.Test.YtddkoimaghcbeaaPVmStepsx3
import Derived.Test.YtddkoimaghcbeaaPVmStepsx4
import Derived.Test.YtddkoimaghcbeaaPVmStepsx5
import Derived.Test.YtddkoimaghcbeaaPVmStepsx6
import Derived.Test.YtddkoimaghcbeaaTmpvmx
import Derived.Test.YtddkoimaghcbeaaTmprfp
import Derived.Test.YtddkoimaghcbeaaTmporp
namespace Go.Proofs.Ytddkoimaghcbeaa.PVmSteps
open Go.RowKit Go.Proofs.YtddkoimaghcbeaaW.PrintWords Go.Proofs.YtddkoimaghcbeaaW.PrintLast Go.Proofs.YtddkoimaghcbeaaW.PrintMore
set_option linter.unusedVariables false
set_option linter.unusedSimpArgs false
set_option maxRecDepth 100000 in
theorem ord_new (A0 A2 A3 : Option Addr) (c0 c2 c3 : Nat) (L : List S36) (fuel : Int) (ops : List S65) (o : List Int) (w : World) (hC0 : Kd.C k36 w A0 L.length L) (hc0 : L.length ≤ c0) (hL : L.length ≤ 300) (hC2 : Kd.C k65 w A2 ops.length ops) (hc2 : ops.length ≤ c2) (hC3 : Kd.C (Kd.int .i64) w A3 o.length o) (hc3 : o.length ≤ c3) (ht : (thru L).2.2 ≠ 0) :
    Calls Try.prog 33 #[.slice A0 L.length c0, .int .i64 fuel, .slice A2 ops.length c2, .slice A3 o.length c3] w fun e w' => e = .returned (.int .i64 ((thru L).2.2)) ∧ Below w.heap.size w w' := by
  replace hC0 := Aside0.mk hC0
  replace hC2 := Aside0.mk hC2
  replace hC3 := Aside0.mk hC3
  replace hL := Aside0.mk hL
  have hb0 : ((thru L).2.2 != 0) = true := by simpa using ht
  replace ht := Aside0.mk ht
  go_enter Try.func33, Try.ntmps33
  go_wp2_with (first | (go_at_call 23; (with_reducible refine (vm_New_e A0 c0 L _ hC0.out hc0 hL.out ht.out).mono ?_); rintro e WM ⟨rfl, hBM⟩; replace hBM := Aside0.mk hBM))
  go_ret
  exact ⟨rfl, hBM.out⟩
set_option maxRecDepth 100000 in
theorem ord_fuel0 (A0 A2 A3 : Option Addr) (c0 c2 c3 : Nat) (L : List S36) (fuel : Int) (ops : List S65) (o : List Int) (w : World) (hC0 : Kd.C k36 w A0 L.length L) (hc0 : L.length ≤ c0) (hL : L.length ≤ 300) (hC2 : Kd.C k65 w A2 ops.length ops) (hc2 : ops.length ≤ c2) (hC3 : Kd.C (Kd.int .i64) w A3 o.length o) (hc3 : o.length ≤ c3) (ht : (thru L).2.2 = 0) (hf : fuel < 0) :
    Calls Try.prog 33 #[.slice A0 L.length c0, .int .i64 fuel, .slice A2 ops.length c2, .slice A3 o.length c3] w fun e w' => e = .returned (.int .i64 (2)) ∧ Below w.heap.size w w' := by
  replace hC0 := Aside0.mk hC0
  replace hC2 := Aside0.mk hC2
  replace hC3 := Aside0.mk hC3
  replace hL := Aside0.mk hL
  have hb1 : decide (fuel < 0) = true := decide_eq_true hf
  clear hf
  replace ht := Aside0.mk ht
  go_enter Try.func33, Try.ntmps33
  go_wp2_with (first | (go_at_call 23; (with_reducible refine (vm_New_k A0 c0 L _ hC0.out hc0 hL.out ht.out).mono ?_); rintro e WM ⟨gm, vM, rfl, hM, hBM⟩; replace hM := Aside0.mk hM; replace hBM := Aside0.mk hBM))
  go_ret
  exact ⟨rfl, hBM.out⟩
set_option maxRecDepth 100000 in
theorem ord_fuel1 (A0 A2 A3 : Option Addr) (c0 c2 c3 : Nat) (L : List S36) (fuel : Int) (ops : List S65) (o : List Int) (w : World) (hC0 : Kd.C k36 w A0 L.length L) (hc0 : L.length ≤ c0) (hL : L.length ≤ 300) (hC2 : Kd.C k65 w A2 ops.length ops) (hc2 : ops.length ≤ c2) (hC3 : Kd.C (Kd.int .i64) w A3 o.length o) (hc3 : o.length ≤ c3) (ht : (thru L).2.2 = 0) (hf : 10000 < fuel) :
    Calls Try.prog 33 #[.slice A0 L.length c0, .int .i64 fuel, .slice A2 ops.length c2, .slice A3 o.length c3] w fun e w' => e = .returned (.int .i64 (2)) ∧ Below w.heap.size w w' := by
  replace hC0 := Aside0.mk hC0
  replace hC2 := Aside0.mk hC2
  replace hC3 := Aside0.mk hC3
  replace hL := Aside0.mk hL
  have hb1 : decide (fuel < 0) = false := decide_eq_false (by omega)
  have hb2 : decide (10000 < fuel) = true := decide_eq_true hf
  clear hf
  replace ht := Aside0.mk ht
  go_enter Try.func33, Try.ntmps33
  go_wp2_with (first | (go_at_call 23; (with_reducible refine (vm_New_k A0 c0 L _ hC0.out hc0 hL.out ht.out).mono ?_); rintro e WM ⟨gm, vM, rfl, hM, hBM⟩; replace hM := Aside0.mk hM; replace hBM := Aside0.mk hBM))
  go_ret
  exact ⟨rfl, hBM.out⟩
set_option maxRecDepth 100000 in
theorem ord_big (A0 A2 A3 : Option Addr) (c0 c2 c3 : Nat) (L : List S36) (fuel : Int) (ops : List S65) (o : List Int) (w : World) (hC0 : Kd.C k36 w A0 L.length L) (hc0 : L.length ≤ c0) (hL : L.length ≤ 300) (hC2 : Kd.C k65 w A2 ops.length ops) (hc2 : ops.length ≤ c2) (hC3 : Kd.C (Kd.int .i64) w A3 o.length o) (hc3 : o.length ≤ c3) (ht : (thru L).2.2 = 0) (hf : 0 ≤ fuel ∧ fuel ≤ 10000) (ho : 64 < ops.length) :
    Calls Try.prog 33 #[.slice A0 L.length c0, .int .i64 fuel, .slice A2 ops.length c2, .slice A3 o.length c3] w fun e w' => e = .returned (.int .i64 (5)) ∧ Below w.heap.size w w' := by
  replace hC0 := Aside0.mk hC0
  replace hC2 := Aside0.mk hC2
  replace hC3 := Aside0.mk hC3
  replace hL := Aside0.mk hL
  have hb1 : decide (fuel < 0) = false := decide_eq_false (by omega)
  have hb2 : decide (10000 < fuel) = false := decide_eq_false (by omega)
  have hb3 : decide (64 < (ops.length : Int)) = true := decide_eq_true (by omega)
  clear hf ho
  replace ht := Aside0.mk ht
  go_enter Try.func33, Try.ntmps33
  go_wp2_with (first | (go_at_call 23; (with_reducible refine (vm_New_k A0 c0 L _ hC0.out hc0 hL.out ht.out).mono ?_); rintro e WM ⟨gm, vM, rfl, hM, hBM⟩; replace hM := Aside0.mk hM; replace hBM := Aside0.mk hBM))
  go_ret
  exact ⟨rfl, hBM.out⟩
set_option maxRecDepth 100000 in
theorem ord_place (A0 A2 A3 : Option Addr) (c0 c2 c3 : Nat) (L : List S36) (fuel : Int) (ops : List S65) (o : List Int) (w : World) (hC0 : Kd.C k36 w A0 L.length L) (hc0 : L.length ≤ c0) (hL : L.length ≤ 300) (hC2 : Kd.C k65 w A2 ops.length ops) (hc2 : ops.length ≤ c2) (hC3 : Kd.C (Kd.int .i64) w A3 o.length o) (hc3 : o.length ≤ c3) (ht : (thru L).2.2 = 0) (hf : 0 ≤ fuel ∧ fuel ≤ 10000) (ho : ops.length ≤ 64) (k : Nat) (p : Int) (hp : order_placed.f k ops o = some p) (hp0 : p ≠ 0) :
    Calls Try.prog 33 #[.slice A0 L.length c0, .int .i64 fuel, .slice A2 ops.length c2, .slice A3 o.length c3] w fun e w' => e = .returned (.int .i64 (p)) ∧ Below w.heap.size w w' := by
  replace hC0 := Aside0.mk hC0
  replace hC2 := Aside0.mk hC2
  replace hC3 := Aside0.mk hC3
  replace hL := Aside0.mk hL
  have hb1 : decide (fuel < 0) = false := decide_eq_false (by omega)
  have hb2 : decide (10000 < fuel) = false := decide_eq_false (by omega)
  have hb3 : decide (64 < (ops.length : Int)) = false := decide_eq_false (by omega)
  have hb4 : (p != 0) = true := by simpa using hp0
  clear hf ho hp0
  replace ht := Aside0.mk ht
  replace hp := Aside0.mk hp
  go_enter Try.func33, Try.ntmps33
  go_wp2_with (first | (go_at_call 23; (with_reducible refine (vm_New_k A0 c0 L _ hC0.out hc0 hL.out ht.out).mono ?_); rintro e WM ⟨gm, vM, rfl, hM, hBM⟩; replace hM := Aside0.mk hM; replace hBM := Aside0.mk hBM) | (go_at_call 59; (with_reducible refine (order_placed.calls k A2 c2 ops A3 c3 o p _ (Kd.C_below hC2.out hBM.out) hc2 (Kd.C_below hC3.out hBM.out) hc3 hp.out).mono ?_); rintro e WP ⟨rfl, hBP⟩; replace hBP := Aside0.mk hBP))
  go_ret
  exact ⟨rfl, below_step hBM.out hBP.out⟩
set_option maxRecDepth 100000 in
theorem ord_late (A0 A2 A3 : Option Addr) (c0 c2 c3 : Nat) (L : List S36) (fuel : Int) (ops : List S65) (o : List Int) (w : World) (hC0 : Kd.C k36 w A0 L.length L) (hc0 : L.length ≤ c0) (hL : L.length ≤ 300) (hC2 : Kd.C k65 w A2 ops.length ops) (hc2 : ops.length ≤ c2) (hC3 : Kd.C (Kd.int .i64) w A3 o.length o) (hc3 : o.length ≤ c3) (ht : (thru L).2.2 = 0) (hf : 0 ≤ fuel ∧ fuel ≤ 10000) (ho : ops.length ≤ 64) (k : Nat) (hp : order_placed.f k ops o = some 0) (hq : order_timely.f k ops o = some false) :
    Calls Try.prog 33 #[.slice A0 L.length c0, .int .i64 fuel, .slice A2 ops.length c2, .slice A3 o.length c3] w fun e w' => e = .returned (.int .i64 (17)) ∧ Below w.heap.size w w' := by
  replace hC0 := Aside0.mk hC0
  replace hC2 := Aside0.mk hC2
  replace hC3 := Aside0.mk hC3
  replace hL := Aside0.mk hL
  have hb1 : decide (fuel < 0) = false := decide_eq_false (by omega)
  have hb2 : decide (10000 < fuel) = false := decide_eq_false (by omega)
  have hb3 : decide (64 < (ops.length : Int)) = false := decide_eq_false (by omega)
  clear hf ho
  replace ht := Aside0.mk ht
  replace hp := Aside0.mk hp
  replace hq := Aside0.mk hq
  go_enter Try.func33, Try.ntmps33
  go_wp2_with (first | (go_at_call 23; (with_reducible refine (vm_New_k A0 c0 L _ hC0.out hc0 hL.out ht.out).mono ?_); rintro e WM ⟨gm, vM, rfl, hM, hBM⟩; replace hM := Aside0.mk hM; replace hBM := Aside0.mk hBM) | (go_at_call 59; (with_reducible refine (order_placed.calls k A2 c2 ops A3 c3 o 0 _ (Kd.C_below hC2.out hBM.out) hc2 (Kd.C_below hC3.out hBM.out) hc3 hp.out).mono ?_); rintro e WP ⟨rfl, hBP⟩; replace hBP := Aside0.mk hBP) | (go_at_call 60; (with_reducible refine (order_timely.calls k A2 c2 ops A3 c3 o false _ (Kd.C_below (Kd.C_below hC2.out hBM.out) hBP.out) hc2 (Kd.C_below (Kd.C_below hC3.out hBM.out) hBP.out) hc3 hq.out).mono ?_); rintro e WT ⟨rfl, hBT⟩; replace hBT := Aside0.mk hBT))
  go_ret
  exact ⟨rfl, below_step (below_step hBM.out hBP.out) hBT.out⟩

end Go.Proofs.Ytddkoimaghcbeaa.PVmSteps
