/- A part of what the law OrderSwaps stands on, only as far as it is needed (the words and walks were printed or written in this seat; this text was cut by a program of this session, wip/bin/trim.py). No condition beyond what each theorem says. -/
import Derived.IntWalk
import Derived.Test.YtddkoimaghcbeaaZOSPVmStepsx0
import Derived.Test.YtddkoimaghcbeaaZOSPVmStepsx2
import Derived.Test.YtddkoimaghcbeaaZOSPVmStepsx3
import Derived.Test.YtddkoimaghcbeaaZOSPVmStepsx4
import Derived.Test.YtddkoimaghcbeaaZOSPVmStepsx5
import Derived.Test.YtddkoimaghcbeaaZOSPVmStepsx6
import Derived.Test.YtddkoimaghcbeaaZOSTmpvmy
import Derived.Test.YtddkoimaghcbeaaZOSTmprfs
import Derived.Test.YtddkoimaghcbeaaZOSTmporp
namespace Go.Proofs.Ytddkoimaghcbeaa.PVmSteps
open Go.RowKit Go.Proofs.YtddkoimaghcbeaaW.PrintWords Go.Proofs.YtddkoimaghcbeaaW.PrintLast Go.Proofs.YtddkoimaghcbeaaW.PrintMore
set_option linter.unusedVariables false
set_option linter.unusedSimpArgs false
set_option maxRecDepth 100000 in
set_option maxHeartbeats 4000000 in
theorem ord_new (A0 A2 A3 : Option Addr) (c0 c2 c3 : Nat) (L : List S36) (fuel : Int) (ops : List S65) (o : List Int) (w : World) (hC0 : Kd.C k36 w A0 L.length L) (hc0 : L.length ≤ c0) (hL : L.length ≤ 300) (hC2 : Kd.C k65 w A2 ops.length ops) (hc2 : ops.length ≤ c2) (hC3 : Kd.C (Kd.int .i64) w A3 o.length o) (hc3 : o.length ≤ c3) (ht : (thru L).2.2 ≠ 0) :
    Calls Try.prog 33 #[.slice A0 L.length c0, .int .i64 fuel, .slice A2 ops.length c2, .slice A3 o.length c3] w fun e w' => e = .returned (.int .i64 ((thru L).2.2)) ∧ Below w.heap.size w w' := by
  replace hC0 := Aside0.mk hC0
  replace hC2 := Aside0.mk hC2
  replace hC3 := Aside0.mk hC3
  replace hL := Aside0.mk hL
  have hb0 : ((thru L).2.2 != 0) = true := by simpa using ht
  replace ht := Aside0.mk ht
  go_enter Try.func33, Try.ntmps33
  go_wp2_with (first | (go_at_call 23; (with_reducible refine (vm_New_e A0 c0 L _ hC0.out hc0 hL.out ht.out).mono ?_); rintro e WM ⟨rfl, hBM⟩; replace hBM := Aside0.mk hBM))
  go_ret
  exact ⟨rfl, hBM.out⟩
set_option maxRecDepth 100000 in
set_option maxHeartbeats 4000000 in
theorem ord_fuel0 (A0 A2 A3 : Option Addr) (c0 c2 c3 : Nat) (L : List S36) (fuel : Int) (ops : List S65) (o : List Int) (w : World) (hC0 : Kd.C k36 w A0 L.length L) (hc0 : L.length ≤ c0) (hL : L.length ≤ 300) (hC2 : Kd.C k65 w A2 ops.length ops) (hc2 : ops.length ≤ c2) (hC3 : Kd.C (Kd.int .i64) w A3 o.length o) (hc3 : o.length ≤ c3) (ht : (thru L).2.2 = 0) (hf : fuel < 0) :
    Calls Try.prog 33 #[.slice A0 L.length c0, .int .i64 fuel, .slice A2 ops.length c2, .slice A3 o.length c3] w fun e w' => e = .returned (.int .i64 (2)) ∧ Below w.heap.size w w' := by
  replace hC0 := Aside0.mk hC0
  replace hC2 := Aside0.mk hC2
  replace hC3 := Aside0.mk hC3
  replace hL := Aside0.mk hL
  have hb1 : decide (fuel < 0) = true := decide_eq_true hf
  clear hf
  replace ht := Aside0.mk ht
  go_enter Try.func33, Try.ntmps33
  go_wp2_with (first | (go_at_call 23; (with_reducible refine (vm_New_k A0 c0 L _ hC0.out hc0 hL.out ht.out).mono ?_); rintro e WM ⟨gm, vM, rfl, hM, hBM⟩; replace hM := Aside0.mk hM; replace hBM := Aside0.mk hBM))
  go_ret
  exact ⟨rfl, hBM.out⟩
set_option maxRecDepth 100000 in
set_option maxHeartbeats 4000000 in
theorem ord_fuel1 (A0 A2 A3 : Option Addr) (c0 c2 c3 : Nat) (L : List S36) (fuel : Int) (ops : List S65) (o : List Int) (w : World) (hC0 : Kd.C k36 w A0 L.length L) (hc0 : L.length ≤ c0) (hL : L.length ≤ 300) (hC2 : Kd.C k65 w A2 ops.length ops) (hc2 : ops.length ≤ c2) (hC3 : Kd.C (Kd.int .i64) w A3 o.length o) (hc3 : o.length ≤ c3) (ht : (thru L).2.2 = 0) (hf : 10000 < fuel) :
    Calls Try.prog 33 #[.slice A0 L.length c0, .int .i64 fuel, .slice A2 ops.length c2, .slice A3 o.length c3] w fun e w' => e = .returned (.int .i64 (2)) ∧ Below w.heap.size w w' := by
  replace hC0 := Aside0.mk hC0
  replace hC2 := Aside0.mk hC2
  replace hC3 := Aside0.mk hC3
  replace hL := Aside0.mk hL
  have hb1 : decide (fuel < 0) = false := decide_eq_false (by omega)
  have hb2 : decide (10000 < fuel) = true := decide_eq_true hf
  clear hf
  replace ht := Aside0.mk ht
  go_enter Try.func33, Try.ntmps33
  go_wp2_with (first | (go_at_call 23; (with_reducible refine (vm_New_k A0 c0 L _ hC0.out hc0 hL.out ht.out).mono ?_); rintro e WM ⟨gm, vM, rfl, hM, hBM⟩; replace hM := Aside0.mk hM; replace hBM := Aside0.mk hBM))
  go_ret
  exact ⟨rfl, hBM.out⟩
set_option maxRecDepth 100000 in
set_option maxHeartbeats 4000000 in
theorem ord_big (A0 A2 A3 : Option Addr) (c0 c2 c3 : Nat) (L : List S36) (fuel : Int) (ops : List S65) (o : List Int) (w : World) (hC0 : Kd.C k36 w A0 L.length L) (hc0 : L.length ≤ c0) (hL : L.length ≤ 300) (hC2 : Kd.C k65 w A2 ops.length ops) (hc2 : ops.length ≤ c2) (hC3 : Kd.C (Kd.int .i64) w A3 o.length o) (hc3 : o.length ≤ c3) (ht : (thru L).2.2 = 0) (hf : 0 ≤ fuel ∧ fuel ≤ 10000) (ho : 64 < ops.length) :
    Calls Try.prog 33 #[.slice A0 L.length c0, .int .i64 fuel, .slice A2 ops.length c2, .slice A3 o.length c3] w fun e w' => e = .returned (.int .i64 (5)) ∧ Below w.heap.size w w' := by
  replace hC0 := Aside0.mk hC0
  replace hC2 := Aside0.mk hC2
  replace hC3 := Aside0.mk hC3
  replace hL := Aside0.mk hL
  have hb1 : decide (fuel < 0) = false := decide_eq_false (by omega)
  have hb2 : decide (10000 < fuel) = false := decide_eq_false (by omega)
  have hb3 : decide (64 < (ops.length : Int)) = true := decide_eq_true (by omega)
  clear hf ho
  replace ht := Aside0.mk ht
  go_enter Try.func33, Try.ntmps33
  go_wp2_with (first | (go_at_call 23; (with_reducible refine (vm_New_k A0 c0 L _ hC0.out hc0 hL.out ht.out).mono ?_); rintro e WM ⟨gm, vM, rfl, hM, hBM⟩; replace hM := Aside0.mk hM; replace hBM := Aside0.mk hBM))
  go_ret
  exact ⟨rfl, hBM.out⟩
set_option maxRecDepth 100000 in
set_option maxHeartbeats 4000000 in
theorem ord_place (A0 A2 A3 : Option Addr) (c0 c2 c3 : Nat) (L : List S36) (fuel : Int) (ops : List S65) (o : List Int) (w : World) (hC0 : Kd.C k36 w A0 L.length L) (hc0 : L.length ≤ c0) (hL : L.length ≤ 300) (hC2 : Kd.C k65 w A2 ops.length ops) (hc2 : ops.length ≤ c2) (hC3 : Kd.C (Kd.int .i64) w A3 o.length o) (hc3 : o.length ≤ c3) (ht : (thru L).2.2 = 0) (hf : 0 ≤ fuel ∧ fuel ≤ 10000) (ho : ops.length ≤ 64) (k : Nat) (p : Int) (hp : order_placed.f k ops o = some p) (hp0 : p ≠ 0) :
    Calls Try.prog 33 #[.slice A0 L.length c0, .int .i64 fuel, .slice A2 ops.length c2, .slice A3 o.length c3] w fun e w' => e = .returned (.int .i64 (p)) ∧ Below w.heap.size w w' := by
  replace hC0 := Aside0.mk hC0
  replace hC2 := Aside0.mk hC2
  replace hC3 := Aside0.mk hC3
  replace hL := Aside0.mk hL
  have hb1 : decide (fuel < 0) = false := decide_eq_false (by omega)
  have hb2 : decide (10000 < fuel) = false := decide_eq_false (by omega)
  have hb3 : decide (64 < (ops.length : Int)) = false := decide_eq_false (by omega)
  have hb4 : (p != 0) = true := by simpa using hp0
  clear hf ho hp0
  replace ht := Aside0.mk ht
  replace hp := Aside0.mk hp
  go_enter Try.func33, Try.ntmps33
  go_wp2_with (first | (go_at_call 23; (with_reducible refine (vm_New_k A0 c0 L _ hC0.out hc0 hL.out ht.out).mono ?_); rintro e WM ⟨gm, vM, rfl, hM, hBM⟩; replace hM := Aside0.mk hM; replace hBM := Aside0.mk hBM) | (go_at_call 59; (with_reducible refine (order_placed.calls k A2 c2 ops A3 c3 o p _ (Kd.C_below hC2.out hBM.out) hc2 (Kd.C_below hC3.out hBM.out) hc3 hp.out).mono ?_); rintro e WP ⟨rfl, hBP⟩; replace hBP := Aside0.mk hBP))
  go_ret
  exact ⟨rfl, below_step hBM.out hBP.out⟩
set_option maxRecDepth 100000 in
set_option maxHeartbeats 4000000 in
theorem ord_late (A0 A2 A3 : Option Addr) (c0 c2 c3 : Nat) (L : List S36) (fuel : Int) (ops : List S65) (o : List Int) (w : World) (hC0 : Kd.C k36 w A0 L.length L) (hc0 : L.length ≤ c0) (hL : L.length ≤ 300) (hC2 : Kd.C k65 w A2 ops.length ops) (hc2 : ops.length ≤ c2) (hC3 : Kd.C (Kd.int .i64) w A3 o.length o) (hc3 : o.length ≤ c3) (ht : (thru L).2.2 = 0) (hf : 0 ≤ fuel ∧ fuel ≤ 10000) (ho : ops.length ≤ 64) (k : Nat) (hp : order_placed.f k ops o = some 0) (hq : order_timely.f k ops o = some false) :
    Calls Try.prog 33 #[.slice A0 L.length c0, .int .i64 fuel, .slice A2 ops.length c2, .slice A3 o.length c3] w fun e w' => e = .returned (.int .i64 (17)) ∧ Below w.heap.size w w' := by
  replace hC0 := Aside0.mk hC0
  replace hC2 := Aside0.mk hC2
  replace hC3 := Aside0.mk hC3
  replace hL := Aside0.mk hL
  have hb1 : decide (fuel < 0) = false := decide_eq_false (by omega)
  have hb2 : decide (10000 < fuel) = false := decide_eq_false (by omega)
  have hb3 : decide (64 < (ops.length : Int)) = false := decide_eq_false (by omega)
  clear hf ho
  replace ht := Aside0.mk ht
  replace hp := Aside0.mk hp
  replace hq := Aside0.mk hq
  go_enter Try.func33, Try.ntmps33
  go_wp2_with (first | (go_at_call 23; (with_reducible refine (vm_New_k A0 c0 L _ hC0.out hc0 hL.out ht.out).mono ?_); rintro e WM ⟨gm, vM, rfl, hM, hBM⟩; replace hM := Aside0.mk hM; replace hBM := Aside0.mk hBM) | (go_at_call 59; (with_reducible refine (order_placed.calls k A2 c2 ops A3 c3 o 0 _ (Kd.C_below hC2.out hBM.out) hc2 (Kd.C_below hC3.out hBM.out) hc3 hp.out).mono ?_); rintro e WP ⟨rfl, hBP⟩; replace hBP := Aside0.mk hBP) | (go_at_call 60; (with_reducible refine (order_timely.calls k A2 c2 ops A3 c3 o false _ (Kd.C_below (Kd.C_below hC2.out hBM.out) hBP.out) hc2 (Kd.C_below (Kd.C_below hC3.out hBM.out) hBP.out) hc3 hq.out).mono ?_); rintro e WT ⟨rfl, hBT⟩; replace hBT := Aside0.mk hBT))
  go_ret
  exact ⟨rfl, below_step (below_step hBM.out hBP.out) hBT.out⟩
/-- What the operations of an order do, one by one, from a state: 0, ErrStep, ErrRet. -/
def ordZ (L : List S36) (ops : List S65) (fuel : Int) : List Int → List Int → Int
  | [], _ => 0
  | i :: o, cs => match vstep L cs (rd_T65 ops i).f1 (rd_T65 ops i).f2 fuel with
    | none => 0
    | some x => if x.1 = 1 then (if (rd_T65 ops i).f3 = true ∧ x.2.2.1 ≠ (rd_T65 ops i).f4 then 19 else ordZ L ops fuel o x.2.1) else 18
theorem ordZ_18 {L : List S36} {ops : List S65} {fuel i : Int} {o cs : List Int} {rk : Int} {rs : List Int} {rr ru : Int} (h : vstep L cs (rd_T65 ops i).f1 (rd_T65 ops i).f2 fuel = some (rk, rs, rr, ru)) (hk : rk ≠ 1) : ordZ L ops fuel (i :: o) cs = 18 := by
  simp only [ordZ, h, if_neg hk]
theorem ordZ_19 {L : List S36} {ops : List S65} {fuel i : Int} {o cs : List Int} {rs : List Int} {rr ru : Int} (h : vstep L cs (rd_T65 ops i).f1 (rd_T65 ops i).f2 fuel = some (1, rs, rr, ru)) (hd : (rd_T65 ops i).f3 = true) (hk : rr ≠ (rd_T65 ops i).f4) : ordZ L ops fuel (i :: o) cs = 19 := by
  simp only [ordZ, h]; rw [if_pos trivial, if_pos ⟨hd, hk⟩]
theorem ordZ_go {L : List S36} {ops : List S65} {fuel i : Int} {o cs : List Int} {rs : List Int} {rr ru : Int} (h : vstep L cs (rd_T65 ops i).f1 (rd_T65 ops i).f2 fuel = some (1, rs, rr, ru)) (hd : (rd_T65 ops i).f3 = false ∨ rr = (rd_T65 ops i).f4) : ordZ L ops fuel (i :: o) cs = ordZ L ops fuel o rs := by
  simp only [ordZ, h]; rw [if_pos trivial, if_neg (by rintro ⟨a, b⟩; rcases hd with e | e <;> simp_all)]
theorem op_cells {w : World} {A : Option Addr} {n : Nat} {xs : List S65} (h : Kd.C k65 w A n xs) (i : Int) (h0 : 0 ≤ i) (h1 : i < n) : ∃ ad, A = some ad ∧ ∀ W_ : World, Below w.heap.size w W_ → (W_.cell? ⟨(ad.add (i.toNat * 7)).block, (ad.add (i.toNat * 7)).off + 1, none⟩ = some (.int .i64 (rd_T65 xs i).f1) ∧ W_.cell? ⟨(ad.add (i.toNat * 7)).block, (ad.add (i.toNat * 7)).off + 2, none⟩ = some (.int .i64 (rd_T65 xs i).f2) ∧ W_.cell? ⟨(ad.add (i.toNat * 7)).block, (ad.add (i.toNat * 7)).off + 3, none⟩ = some (.bool (rd_T65 xs i).f3) ∧ W_.cell? ⟨(ad.add (i.toNat * 7)).block, (ad.add (i.toNat * 7)).off + 4, none⟩ = some (.int .i64 (rd_T65 xs i).f4)) := by
  obtain ⟨ad, e, x0, x1, x2, x3, x4, x5, x6⟩ := at_T65 h i h0 h1
  exact ⟨ad, e, fun W_ hb => ⟨(hb.cell (World.block_lt_of_cell? w _ x1)).trans x1, (hb.cell (World.block_lt_of_cell? w _ x2)).trans x2, (hb.cell (World.block_lt_of_cell? w _ x3)).trans x3, (hb.cell (World.block_lt_of_cell? w _ x4)).trans x4⟩⟩
theorem st_cells {WX : World} {g : Nat} {a b c d : Int} {T : Nat} (h : WX.heap[g]? = some (.cells #[.int .i64 a, .int .i64 b, .int .i64 c, .int .i64 d] T (0, 0))) (W_ : World) (hb : Below WX.heap.size WX W_) : W_.cell? ⟨g, 0, none⟩ = some (.int .i64 a) ∧ W_.cell? ⟨g, 1, none⟩ = some (.int .i64 b) ∧ W_.cell? ⟨g, 2, none⟩ = some (.int .i64 c) ∧ W_.cell? ⟨g, 3, none⟩ = some (.int .i64 d) := by
  have h2 := blk_below h hb
  exact ⟨blk_cell h2 0, blk_cell h2 1, blk_cell h2 2, blk_cell h2 3⟩
theorem st_put {W : World} {b T : Nat} {z0 z1 z2 z3 v0 v1 v2 v3 : Value} (h : W.heap[b]? = some (.cells #[z0, z1, z2, z3] T (0, 0))) :
    ((((W.setCell ⟨b, 0, none⟩ v0).setCell ⟨b, 1, none⟩ v1).setCell ⟨b, 2, none⟩ v2).setCell ⟨b, 3, none⟩ v3).heap[b]? = some (.cells #[v0, v1, v2, v3] T (0, 0)) := by
  have e := blk_set (blk_set (blk_set (blk_set h 0 v0) 1 v1) 2 v2) 3 v3
  simpa using e
set_option maxRecDepth 100000 in
set_option maxHeartbeats 4000000 in
theorem ord_go (A0 A2 A3 : Option Addr) (c0 c2 c3 : Nat) (L : List S36) (fuel : Int) (ops : List S65) (o : List Int) (w : World) (hC0 : Kd.C k36 w A0 L.length L) (hc0 : L.length ≤ c0) (hL : L.length ≤ 300) (hC2 : Kd.C k65 w A2 ops.length ops) (hc2 : ops.length ≤ c2) (hC3 : Kd.C (Kd.int .i64) w A3 o.length o) (hc3 : o.length ≤ c3) (ht : (thru L).2.2 = 0) (hf : 0 ≤ fuel ∧ fuel ≤ 10000) (ho : ops.length ≤ 64) (hn : o.length ≤ 1000) (k : Nat) (hp : order_placed.f k ops o = some 0) (hq : order_timely.f k ops o = some true) (hx : ∀ i ∈ o, 0 ≤ i ∧ i < (ops.length : Int)) :
    Calls Try.prog 33 #[.slice A0 L.length c0, .int .i64 fuel, .slice A2 ops.length c2, .slice A3 o.length c3] w fun e w' => e = .returned (.int .i64 (ordZ L ops fuel o [0, 0, 0, 0])) ∧ Below w.heap.size w w' := by
  replace hC0 := Aside0.mk hC0
  replace hC2 := Aside0.mk hC2
  replace hC3 := Aside0.mk hC3
  replace hL := Aside0.mk hL
  have hL0 : 0 < L.length := (thru_good L ht).pos
  have hGd := Aside0.mk (fun (cs : List Int) (h4 : cs.length = 4) (kind arg : Int) => vstep_good L ht cs h4 kind arg fuel)
  have hb1 : decide (fuel < 0) = false := decide_eq_false (by omega)
  have hb2 : decide (10000 < fuel) = false := decide_eq_false (by omega)
  have hb3 : decide (64 < (ops.length : Int)) = false := decide_eq_false (by omega)
  replace hf := Aside0.mk hf
  clear ho
  replace hL0 := Aside0.mk hL0
  replace hn := Aside0.mk hn
  replace hx := Aside0.mk hx
  replace ht := Aside0.mk ht
  replace hp := Aside0.mk hp
  replace hq := Aside0.mk hq
  go_enter Try.func33, Try.ntmps33
  go_wp2_with (first | (go_at_call 23; (with_reducible refine (vm_New_k A0 c0 L _ hC0.out hc0 hL.out ht.out).mono ?_); rintro e WM ⟨gm, vM, rfl, hM, hBM⟩; replace hM := Aside0.mk hM; replace hBM := Aside0.mk hBM) | (go_at_call 59; (with_reducible refine (order_placed.calls k A2 c2 ops A3 c3 o 0 _ (Kd.C_below hC2.out hBM.out) hc2 (Kd.C_below hC3.out hBM.out) hc3 hp.out).mono ?_); rintro e WP ⟨rfl, hBP⟩; replace hBP := Aside0.mk hBP) | (go_at_call 60; (with_reducible refine (order_timely.calls k A2 c2 ops A3 c3 o true _ (Kd.C_below (Kd.C_below hC2.out hBM.out) hBP.out) hc2 (Kd.C_below (Kd.C_below hC3.out hBM.out) hBP.out) hc3 hq.out).mono ?_); rintro e WT ⟨rfl, hBT⟩; replace hBT := Aside0.mk hBT))
  refine vm_gen _ (fun W => W.heap[WT.heap.size]? = some (.cells #[.int .i64 0, .int .i64 0, .int .i64 0, .int .i64 0] 24 (0, 0)) ∧ Below WT.heap.size WT W) ⟨blk_new _ _, below_alloc (Below.refl _ _) _⟩ ?_
  rintro W0 ⟨hs0, hB0⟩
  have hwT : Aside0 (Below w.heap.size w WT) := ⟨below_step (below_step hBM.out hBP.out) hBT.out⟩
  have hMT := Aside0.mk (hM.out.came (below_step hBP.out hBT.out))
  have hsz : Aside0 (w.heap.size ≤ WT.heap.size) := ⟨hwT.out.size⟩
  have hsM : Aside0 (w.heap.size ≤ WM.heap.size) := ⟨hBM.out.size⟩
  obtain ⟨gs, hgs⟩ : ∃ g, g = WT.heap.size := ⟨_, rfl⟩
  rw [← hgs] at hs0 ⊢
  replace hs0 := Aside0.mk hs0
  replace hB0 := Aside0.mk hB0
  replace hgs := Aside0.mk hgs
  clear hM hBM hBP hBT
  go_loopg [48] o.length (fun kk v48 W => ∃ (i : Nat) (e0 e1 e2 e3 : Int), v48 = .int .i64 i ∧ Aside0 (kk + i = o.length) ∧ Aside0 (W.heap[gs]? = some (.cells #[.int .i64 e0, .int .i64 e1, .int .i64 e2, .int .i64 e3] 24 (0, 0))) ∧ Aside0 (Below WT.heap.size WT W) ∧ Aside0 (ordZ L ops fuel (o.drop i) [e0, e1, e2, e3] = ordZ L ops fuel o [0, 0, 0, 0]))
  case atStart => exact ⟨0, 0, 0, 0, 0, rfl, ⟨by omega⟩, hs0, hB0, ⟨by simp⟩⟩
  case round =>
    obtain ⟨i, e0, e1, e2, e3, rfl, hki, hs, hBW, hz⟩ := hrel
    cases gk with
    | zero =>
      have hlt : decide ((i : Int) < (o.length : Int)) = false := decide_eq_false (by have := hki.out; omega)
      have hlt2 : decide (i < o.length) = false := decide_eq_false (by have := hki.out; omega)
      have hlt3 : ¬ i < o.length := by have := hki.out; omega
      have hz0 : ordZ L ops fuel o [0, 0, 0, 0] = 0 := by rw [← hz.out, List.drop_eq_nil_of_le (by have := hki.out; omega)]; rfl
      go_wp2
      go_ret
      exact ⟨by rw [hz0]; rfl, below_step hwT.out hBW.out⟩
    | succ j =>
      have hi : Aside0 (i < o.length) := ⟨by have := hki.out; omega⟩
      have hlt : decide ((i : Int) < (o.length : Int)) = true := decide_eq_true (by have := hi.out; omega)
      have hlt2 : i < o.length := hi.out
      have hi0 : decide (0 ≤ (i : Int)) = true := decide_eq_true (by omega)
      have hdr := rd_drop o i hi.out
      have hix := hx.out _ (rd_mem o i hi.out)
      obtain ⟨ad3, e3, hc3a⟩ := Kd.at_int (Kd.C_below (Kd.C_below hC3.out hwT.out) hBW.out) (i : Int) (by omega) (by have := hi.out; omega)
      cases e3
      obtain ⟨ix, hixe⟩ : ∃ x, x = rd o (i : Int) := ⟨_, rfl⟩
      rw [← hixe] at hdr hix hc3a
      simp only [Int.toNat_natCast] at hc3a
      have hixa : Aside0 (0 ≤ ix ∧ ix < (ops.length : Int)) := ⟨hix⟩
      obtain ⟨ad2, e2, hops⟩ := op_cells (Kd.C_below (Kd.C_below hC2.out hwT.out) hBW.out) ix hix.1 hix.2
      cases e2
      replace hops := Aside0.mk hops
      obtain ⟨rk, rs, rr, ru, hv, h4, _, _⟩ := hGd.out [e0, e1, e2, e3] rfl (rd_T65 ops ix).f1 (rd_T65 ops ix).f2
      obtain ⟨d0, d1, d2, d3, rfl⟩ := four_of h4
      obtain ⟨op, hop⟩ : ∃ x, x = rd_T65 ops ix := ⟨_, rfl⟩
      have hz2 : Aside0 (ordZ L ops fuel (ix :: o.drop (i + 1)) [e0, e1, e2, e3] = ordZ L ops fuel o [0, 0, 0, 0]) := ⟨by rw [← hdr]; exact hz.out⟩
      have hv2 : Aside0 (vstep L [e0, e1, e2, e3] op.f1 op.f2 fuel = some (rk, [d0, d1, d2, d3], rr, ru)) := ⟨by rw [hop]; exact hv⟩
      have hv3 : Aside0 (vstep L [e0, e1, e2, e3] (rd_T65 ops ix).f1 (rd_T65 ops ix).f2 fuel = some (rk, [d0, d1, d2, d3], rr, ru)) := ⟨hv⟩
      rw [← hop] at hops
      replace hop := Aside0.mk hop
      clear hv hz hix h4 hdr hixe
      have hM0 := Aside0.mk (hMT.out.came hBW.out)
      have hst := Aside0.mk (st_cells hs.out)
      have q0 : decide (0 ≤ ix) = true := decide_eq_true hixa.out.1
      have q1 : decide (ix < (ops.length : Int)) = true := decide_eq_true hixa.out.2
      go_wp2
      obtain ⟨WX, hWX⟩ : ∃ x : World, x = wr := ⟨_, rfl⟩
      try clear hWX
      refine region_by (fun b us W_ => OneC wr 14 15 stepZ (stepO rk d0 d1 d2 d3 rr ru) b us W_) (by kernel_rfl) (by kernel_rfl) ⟨fun _ => undef, OneC.start wr 14 15 _ _ _⟩ ?_
      (refine rb_want (fun us => rfl) ?_; apply Exists.intro; apply And.intro; (focus (apply rb_pure; (focus (intro b us w h; exact h.off (by decide) (by decide))); intro b us W_ hC; go_simp; rfl)); apply Exists.intro; apply And.intro; (focus (intro us; simp only [Act.put, List.setIfInBounds_toArray, List.set_cons_zero, List.set_cons_succ]; rfl)))
      (refine rb_want (fun us => rfl) ?_; apply Exists.intro; apply And.intro; (focus (apply rb_pure; (focus (intro b us w h; exact h.off (by decide) (by decide))); intro b us W_ hC; have y := hst.out W_ hC.hB; obtain ⟨y0, y1, y2, y3⟩ := y; go_simp; rfl)); apply Exists.intro; apply And.intro; (focus (intro us; simp only [Act.put, List.setIfInBounds_toArray, List.set_cons_zero, List.set_cons_succ]; rfl)))
      (refine rb_want (fun us => rfl) ?_; apply Exists.intro; apply And.intro; (focus (apply rb_pure; (focus (intro b us w h; exact h.off (by decide) (by decide))); intro b us W_ hC; go_simp; rfl)); apply Exists.intro; apply And.intro; (focus (intro us; simp only [Act.put, List.setIfInBounds_toArray, List.set_cons_zero, List.set_cons_succ]; rfl)))
      (refine rb_want (fun us => rfl) ?_; apply Exists.intro; apply And.intro; (focus (apply rb_pure; (focus (intro b us w h; exact h.off (by decide) (by decide))); intro b us W_ hC; go_simp; rfl)); apply Exists.intro; apply And.intro; (focus (intro us; simp only [Act.put, List.setIfInBounds_toArray, List.set_cons_zero, List.set_cons_succ]; rfl)))
      (refine rb_want (fun us => rfl) ?_; apply Exists.intro; apply And.intro; (focus (apply rb_pure; (focus (intro b us w h; exact h.off (by decide) (by decide))); intro b us W_ hC; have qq := hixa.out; obtain ⟨qa, qb⟩ := qq; go_simp; rfl)); apply Exists.intro; apply And.intro; (focus (intro us; simp only [Act.put, List.setIfInBounds_toArray, List.set_cons_zero, List.set_cons_succ]; rfl)))
      (refine rb_want (fun us => rfl) ?_; apply Exists.intro; apply And.intro; (focus (apply rb_pure; (focus (intro b us w h; exact h.off (by decide) (by decide))); intro b us W_ hC; go_simp; rfl)); apply Exists.intro; apply And.intro; (focus (intro us; simp only [Act.put, List.setIfInBounds_toArray, List.set_cons_zero, List.set_cons_succ]; rfl)))
      (refine rb_want (fun us => rfl) ?_; apply Exists.intro; apply And.intro; (focus (apply rb_pure; (focus (intro b us w h; exact h.off (by decide) (by decide))); intro b us W_ hC; have z := hops.out W_ hC.hB; obtain ⟨z1, z2, z3, z4⟩ := z; go_simp; rfl)); apply Exists.intro; apply And.intro; (focus (intro us; simp only [Act.put, List.setIfInBounds_toArray, List.set_cons_zero, List.set_cons_succ]; rfl)))
      (refine rb_want (fun us => rfl) ?_; apply Exists.intro; apply And.intro; (focus (apply rb_pure; (focus (intro b us w h; exact h.off (by decide) (by decide))); intro b us W_ hC; go_simp; rfl)); apply Exists.intro; apply And.intro; (focus (intro us; simp only [Act.put, List.setIfInBounds_toArray, List.set_cons_zero, List.set_cons_succ]; rfl)))
      (refine rb_want (fun us => rfl) ?_; apply Exists.intro; apply And.intro; (focus (apply rb_pure; (focus (intro b us w h; exact h.off (by decide) (by decide))); intro b us W_ hC; go_simp; rfl)); apply Exists.intro; apply And.intro; (focus (intro us; simp only [Act.put, List.setIfInBounds_toArray, List.set_cons_zero, List.set_cons_succ]; rfl)))
      (refine rb_want (fun us => rfl) ?_; apply Exists.intro; apply And.intro; (focus (apply rb_pure; (focus (intro b us w h; exact h.off (by decide) (by decide))); intro b us W_ hC; have qq := hixa.out; obtain ⟨qa, qb⟩ := qq; go_simp; rfl)); apply Exists.intro; apply And.intro; (focus (intro us; simp only [Act.put, List.setIfInBounds_toArray, List.set_cons_zero, List.set_cons_succ]; rfl)))
      (refine rb_want (fun us => rfl) ?_; apply Exists.intro; apply And.intro; (focus (apply rb_pure; (focus (intro b us w h; exact h.off (by decide) (by decide))); intro b us W_ hC; go_simp; rfl)); apply Exists.intro; apply And.intro; (focus (intro us; simp only [Act.put, List.setIfInBounds_toArray, List.set_cons_zero, List.set_cons_succ]; rfl)))
      (refine rb_want (fun us => rfl) ?_; apply Exists.intro; apply And.intro; (focus (apply rb_pure; (focus (intro b us w h; exact h.off (by decide) (by decide))); intro b us W_ hC; have z := hops.out W_ hC.hB; obtain ⟨z1, z2, z3, z4⟩ := z; go_simp; rfl)); apply Exists.intro; apply And.intro; (focus (intro us; simp only [Act.put, List.setIfInBounds_toArray, List.set_cons_zero, List.set_cons_succ]; rfl)))
      (refine rb_want (fun us => rfl) ?_; apply Exists.intro; apply And.intro; (focus (apply rb_pure; (focus (intro b us w h; exact h.off (by decide) (by decide))); intro b us W_ hC; go_simp; rfl)); apply Exists.intro; apply And.intro; (focus (intro us; simp only [Act.put, List.setIfInBounds_toArray, List.set_cons_zero, List.set_cons_succ]; rfl)))
      (refine rb_want (fun us => rfl) ⟨.agg #[.int .i64 rk, .int .i64 d0, .int .i64 d1, .int .i64 d2, .int .i64 d3, .int .i64 rr, .int .i64 ru], rb_call (f := 26) (args := fun us => #[.pointer (some ⟨gm, 0, none⟩), .agg #[.int .i64 e0, .int .i64 e1, .int .i64 e2, .int .i64 e3], .int .i64 op.f1, .int .i64 op.f2, .int .i64 fuel]) (fun us W_ => ?_) (fun b us W_ hb hon hC => ?_), ?_⟩; (focus (exact rb_enters Try.func26 (by kernel_rfl) rfl (by rfl) W_)); (focus (refine (vm_Step4 (hM0.out.came hC.hB) (Nat.le_trans (Nat.le_trans hsz.out hBW.out.size) hC.hB.size) hL0.out e0 e1 e2 e3 op.f1 op.f2 fuel rk d0 d1 d2 d3 rr ru hv2.out (by have := hf.out; omega)).mono ?_; rintro e w1 ⟨rfl, hbw⟩; exact ⟨rfl, (hC.came hbw).off (by decide) (by decide)⟩)); apply Exists.intro; apply And.intro; (focus (intro us; simp only [Act.put, List.setIfInBounds_toArray, List.set_cons_zero, List.set_cons_succ]; rfl)))
      (refine rb_open (fun us => rfl) (rb_new (fun b us W_ hb hon hC => ⟨.pointer (some ⟨W_.heap.size, 0, none⟩), W_.alloc stepZ, ?_, ?_⟩)) ?_; (focus (first | (go_simp; done) | (go_simp; rfl))); (focus (exact hC.new (by decide) hb)); apply Exists.intro; apply And.intro; (focus (intro us; simp only [Act.put, List.setIfInBounds_toArray, List.set_cons_zero, List.set_cons_succ]; rfl)))
      (refine rb_want (fun us => rfl) ⟨undef, rb_store (fun b us W_ hb hon hC => ?_), ?_⟩; (focus (obtain ⟨g, eg, hg, hbk⟩ := hC.at (hon 14 (by decide) (by decide)) hb; refine ⟨stepPut W_ g rk d0 d1 d2 d3 rr ru, ?_, hC.put (by decide) (hon 14 (by decide) (by decide)) eg hg (vm_bel7 hC.hB hg) (vm_out7 hbk)⟩; unfold stepZ at hbk; have k0 := blk_cell hbk 0; have v0 := blk_frozen hbk 0; have k1 := blk_cell hbk 1; have v1 := blk_frozen hbk 1; have k2 := blk_cell hbk 2; have v2 := blk_frozen hbk 2; have k3 := blk_cell hbk 3; have v3 := blk_frozen hbk 3; have k4 := blk_cell hbk 4; have v4 := blk_frozen hbk 4; have k5 := blk_cell hbk 5; have v5 := blk_frozen hbk 5; have k6 := blk_cell hbk 6; have v6 := blk_frozen hbk 6; simp only [List.getElem?_toArray, List.getElem?_cons_zero, List.getElem?_cons_succ] at k0 k1 k2 k3 k4 k5 k6; rw [eg]; clear hbk; unfold stepPut; first | (go_simp; done) | (go_simp; rfl))); apply Exists.intro; apply And.intro; (focus (intro us; simp only [Act.put, List.setIfInBounds_toArray, List.set_cons_zero, List.set_cons_succ]; rfl)))
      refine rb_done (fun b us W3 hall hC => ?_)
      obtain ⟨gx, ex, hgx, hbk⟩ := hC.done (hall 14 (by decide)) (hall 15 (by decide))
      have hB3 := Aside0.mk hC.hB
      have hsb := Aside0.mk (step_cells hbk)
      try dsimp only
      rw [ex]
      clear ex hC hall hbk
      clear us b
      have hst3 := hst.out W3 hB3.out
      have hops3 := Aside0.mk (fun (X : World) (hX : Below W3.heap.size W3 X) => hops.out X (below_step hB3.out hX))
      have zc := hsb.out W3 (Below.refl _ _)
      obtain ⟨z0, z1, z2, z3, z4, z5, z6⟩ := zc
      clear hst3
      have hgT : Aside0 (WT.heap.size ≤ gs) := ⟨by rw [hgs.out]; exact Nat.le_refl _⟩
      have hW3 : Aside0 (Below w.heap.size w W3) := ⟨below_step hwT.out (below_step hBW.out hB3.out)⟩
      have hs3 := blk_below hs.out hB3.out
      have y0 := blk_cell hs3 0
      have y1 := blk_cell hs3 1
      have y2 := blk_cell hs3 2
      have y3 := blk_cell hs3 3
      have v0 := blk_frozen hs3 0
      have v1 := blk_frozen hs3 1
      have v2 := blk_frozen hs3 2
      have v3 := blk_frozen hs3 3
      simp only [List.getElem?_toArray, List.getElem?_cons_zero, List.getElem?_cons_succ] at y0 y1 y2 y3
      replace hs3 := Aside0.mk hs3
      have x := hops3.out W3 (Below.refl _ _)
      obtain ⟨x1, x2, x3, x4⟩ := x
      by_cases hrk : rk = 1
      rotate_left
      · have hnb : (rk != 1) = true := by simpa using hrk
        have hz3 := ordZ_18 (o := o.drop (i + 1)) hv3.out hrk
        replace hz3 := Aside0.mk (hz2.out.symm.trans hz3)
        clear hrk
        go_wp2
        go_ret
        exact ⟨by rw [hz3.out]; rfl, hW3.out⟩
      subst hrk
      have qq := hixa.out
      obtain ⟨qa, qb⟩ := qq
      by_cases hd : op.f3 = true
      · by_cases hr : rr = op.f4
        rotate_left
        · have hnb : (rr != op.f4) = true := by simpa using hr
          have hz3 := ordZ_19 (o := o.drop (i + 1)) hv3.out (by rw [← hop.out]; exact hd) (by rw [← hop.out]; exact hr)
          replace hz3 := Aside0.mk (hz2.out.symm.trans hz3)
          clear hr
          go_wp2
          go_quiet (fail)
          go_wp2
          go_ret
          exact ⟨by rw [hz3.out]; rfl, by first | exact hW3.out | exact pw_below_drewN hW3.out _ | exact hW3.out.drew⟩
        have hnb : (rr != op.f4) = false := by simpa using hr
        have hz3 := ordZ_go (o := o.drop (i + 1)) hv3.out (.inr (by rw [← hop.out]; exact hr))
        replace hz3 := Aside0.mk (hz3.symm.trans hz2.out)
        clear hr
        go_wp2
        go_quiet (fail)
        go_wp2
        go_roundg j
        case measure => omega
        case rel => exact ⟨i + 1, d0, d1, d2, d3, by have a1 := hi.out; have a2 := hn.out; rw [w64 (by omega) (by omega)]; simp, ⟨by have := hki.out; omega⟩, ⟨by first | exact st_put hs3.out | (have e := st_put hs3.out; exact e)⟩, ⟨below_set (below_set (below_set (below_set (by first | exact pw_below_drewN (below_step hBW.out hB3.out) _ | exact (below_step hBW.out hB3.out).drew | exact below_step hBW.out hB3.out) hgT.out) hgT.out) hgT.out) hgT.out⟩, hz3⟩
      · have hdf : op.f3 = false := by simpa using hd
        clear hd
        have hz3 := ordZ_go (o := o.drop (i + 1)) hv3.out (.inl (by rw [← hop.out]; exact hdf))
        replace hz3 := Aside0.mk (hz3.symm.trans hz2.out)
        go_wp2
        go_quiet (fail)
        go_wp2
        go_roundg j
        case measure => omega
        case rel => exact ⟨i + 1, d0, d1, d2, d3, by have a1 := hi.out; have a2 := hn.out; rw [w64 (by omega) (by omega)]; simp, ⟨by have := hki.out; omega⟩, ⟨by first | exact st_put hs3.out | (have e := st_put hs3.out; exact e)⟩, ⟨below_set (below_set (below_set (below_set (by first | exact pw_below_drewN (below_step hBW.out hB3.out) _ | exact (below_step hBW.out hB3.out).drew | exact below_step hBW.out hB3.out) hgT.out) hgT.out) hgT.out) hgT.out⟩, hz3⟩
theorem op_drop (xs : List S65) (i : Nat) (h : i < xs.length) : xs.drop i = rd_T65 xs i :: xs.drop (i + 1) := by
  rw [List.drop_eq_getElem_cons h]; congr 1; simp [rd_T65, List.getElem?_eq_getElem h]
/-- All that are done are seen. -/
def doneZ (s : List Bool) : List S65 → Nat → Bool
  | [], _ => true
  | x :: xs, j => if x.f3 = true ∧ rdOf false s j = false then false else doneZ s xs (j + 1)
/-- Each number is a place, once, and all that are done are there: 0, ErrArg, ErrNone. -/
def placeZ (ops : List S65) : List Int → List Bool → Int
  | [], s => if doneZ s ops 0 = true then 0 else 9
  | i :: o, s => if 0 ≤ i ∧ i < (ops.length : Int) ∧ rdOf false s i = false then placeZ ops o (s.set i.toNat true) else 2
theorem order_placed_l1 (d : Nat) : ∀ (s : List Bool) (ops : List S65) (i : Nat), ops.length - i = d → i ≤ ops.length → ops.length ≤ 1000 → s.length = ops.length →
    Ev (fun k => order_placed.l1 k s ops (ops.length : Int) i) (if doneZ s (ops.drop i) i = true then 0 else 9) := by
  induction d with
  | zero =>
    intro s ops i hd hi hl hs
    refine Ev.step (f := fun _ => some 0) (fun k => ?_) (by rw [List.drop_of_length_le (by omega)]; exact Ev.now _)
    simp only [order_placed.l1]; rw [if_neg (by omega)]
  | succ d ih =>
    intro s ops i hd hi hl hs
    rw [op_drop ops i (by omega)]
    by_cases c : (rd_T65 ops i).f3 = true
    · cases c1 : rdOf false s (i : Int) with
      | false =>
        rw [show doneZ s (rd_T65 ops i :: ops.drop (i + 1)) i = false by rw [doneZ, if_pos ⟨c, c1⟩], if_neg (by simp)]
        refine Ev.step (f := fun _ => some 9) (fun k => ?_) (Ev.now _)
        simp only [order_placed.l1]; rw [if_pos (by omega), if_pos (by omega), if_pos (by omega), if_pos c, if_pos (by omega), c1]; rfl
      | true =>
        rw [show doneZ s (rd_T65 ops i :: ops.drop (i + 1)) i = doneZ s (ops.drop (i + 1)) (i + 1) by rw [doneZ, if_neg (by rw [c1]; simp)]]
        refine Ev.step (fun k => ?_) (ih s ops (i + 1) (by omega) (by omega) hl hs)
        simp only [order_placed.l1]; rw [if_pos (by omega), if_pos (by omega), if_pos (by omega), if_pos c, if_pos (by omega), c1, if_pos rfl, w64 (by omega) (by omega)]; rfl
    · rw [show doneZ s (rd_T65 ops i :: ops.drop (i + 1)) i = doneZ s (ops.drop (i + 1)) (i + 1) by rw [doneZ, if_neg (by rintro ⟨a, _⟩; exact c a)]]
      refine Ev.step (fun k => ?_) (ih s ops (i + 1) (by omega) (by omega) hl hs)
      simp only [order_placed.l1]; rw [if_pos (by omega), if_pos (by omega), if_pos (by omega), if_neg c, w64 (by omega) (by omega)]; rfl
theorem order_placed_l0 (ops : List S65) (hl : ops.length ≤ 1000) (d : Nat) : ∀ (s : List Bool) (o : List Int) (i : Nat), o.length - i = d → i ≤ o.length → o.length ≤ 1000 → s.length = ops.length →
    Ev (fun k => order_placed.l0 k ops s o (o.length : Int) i) (placeZ ops (o.drop i) s) := by
  induction d with
  | zero =>
    intro s o i hd hi ho hs
    rw [List.drop_of_length_le (by omega), placeZ]
    refine Ev.step (fun k => ?_) (order_placed_l1 _ s ops 0 rfl (by omega) hl hs)
    simp only [order_placed.l0]; rw [if_neg (by omega)]; rfl
  | succ d ih =>
    intro s o i hd hi ho hs
    rw [rd_drop o i (by omega), placeZ]
    by_cases c : rd o i < 0
    · rw [if_neg (by omega)]
      refine Ev.step (f := fun _ => some 2) (fun k => ?_) (Ev.now _)
      simp only [order_placed.l0]; rw [if_pos (by omega), if_pos (by omega), if_pos (by omega), if_pos c]
    by_cases c1 : rd o i ≥ (ops.length : Int)
    · rw [if_neg (by omega)]
      refine Ev.step (f := fun _ => some 2) (fun k => ?_) (Ev.now _)
      simp only [order_placed.l0]; rw [if_pos (by omega), if_pos (by omega), if_pos (by omega), if_neg c, if_pos c1]
    cases c2 : rdOf false s (rd o i) with
    | true =>
      rw [if_neg (by simp)]
      refine Ev.step (f := fun _ => some 2) (fun k => ?_) (Ev.now _)
      simp only [order_placed.l0]; rw [if_pos (by omega), if_pos (by omega), if_pos (by omega), if_neg c, if_neg c1, if_pos (by omega), if_pos (by omega), c2, if_pos rfl]
    | false =>
      rw [if_pos ⟨by omega, by omega, rfl⟩]
      refine Ev.step (fun k => ?_) (ih (s.set (rd o i).toNat true) o (i + 1) (by omega) (by omega) ho (by simpa using hs))
      simp only [order_placed.l0]; rw [if_pos (by omega), if_pos (by omega), if_pos (by omega), if_neg c, if_neg c1, if_pos (by omega), if_pos (by omega), c2, if_neg (by simp), w64 (by omega) (by omega)]; rfl
theorem order_placed_ev (ops : List S65) (o : List Int) (hl : ops.length ≤ 1000) (ho : o.length ≤ 1000) : Ev (fun k => order_placed.f k ops o) (placeZ ops o (List.replicate ops.length false)) := by
  refine Ev.congr (fun k => ?_) (order_placed_l0 ops hl _ (List.replicate ops.length false) o 0 rfl (by omega) ho (by simp))
  unfold order_placed.f
  rw [if_pos (by omega), if_pos (by omega)]; simp
theorem placeZ_in (ops : List S65) : ∀ (o : List Int) (s : List Bool), placeZ ops o s ≠ 2 → ∀ i ∈ o, 0 ≤ i ∧ i < (ops.length : Int)
  | [], _, _, i, hi => by simp at hi
  | x :: o, s, h, i, hi => by
    rw [placeZ] at h
    split at h
    · rename_i c
      rcases List.mem_cons.mp hi with rfl | hi
      · exact ⟨c.1, c.2.1⟩
      · exact placeZ_in ops o _ h i hi
    · exact absurd rfl h
def befZ (a b : S65) : Bool := if a.f3 = true then decide (a.f6 < b.f5) else false
/-- None of these is behind one that it must be ahead of. -/
def innerZ (ops : List S65) (a : S65) : List Int → Bool
  | [] => true
  | j :: r => if befZ a (rd_T65 ops j) = true then false else innerZ ops a r
def timeZ (ops : List S65) : List Int → List Int → Bool
  | _, [] => true
  | pre, x :: r => if innerZ ops (rd_T65 ops x) pre = true then timeZ ops (pre ++ [x]) r else false
theorem hist_bef (a b : S65) : hist_Before.f a.f0 a.f1 a.f2 a.f3 a.f4 a.f5 a.f6 b.f0 b.f1 b.f2 b.f3 b.f4 b.f5 b.f6 = some (befZ a b) := by
  unfold hist_Before.f befZ; split <;> rfl
theorem timely_l1 (ops : List S65) (o : List Int) (i : Nat) (hi : i < o.length) (ho : o.length ≤ 1000) (hx : ∀ q_ ∈ o, 0 ≤ q_ ∧ q_ < (ops.length : Int)) (r : Bool)
    (h0 : Ev (fun k => order_timely.l0 k ops o (o.length : Int) ((i + 1 : Nat) : Int)) r) (d : Nat) : ∀ (j : Nat), i - j = d → j ≤ i →
    Ev (fun k => order_timely.l1 k ops o i (o.length : Int) i i j) (if innerZ ops (rd_T65 ops (rd o i)) ((o.take i).drop j) = true then r else false) := by
  induction d with
  | zero =>
    intro j hd hj
    rw [List.drop_of_length_le (by rw [List.length_take]; omega), innerZ, if_pos rfl]
    refine Ev.step (fun k => ?_) h0
    simp only [order_timely.l1]; rw [if_neg (by omega), w64 (by omega) (by omega)]; rfl
  | succ d ih =>
    intro j hd hj
    have e : (o.take i).drop j = rd o j :: (o.take i).drop (j + 1) := by
      rw [rd_drop (o.take i) j (by rw [List.length_take]; omega)]
      congr 1
      simp [rd, List.getElem?_take, show j < i by omega]
    have h1 := hx _ (rd_mem o i hi)
    have h2 := hx _ (rd_mem o j (by omega))
    rw [e, innerZ]
    have hb := hist_bef (rd_T65 ops (rd o i)) (rd_T65 ops (rd o j))
    by_cases c : befZ (rd_T65 ops (rd o i)) (rd_T65 ops (rd o j)) = true
    · rw [if_pos c, if_neg (by simp)]
      refine Ev.step (f := fun _ => some false) (fun k => ?_) (Ev.now _)
      simp only [order_timely.l1]; rw [if_pos (by omega), if_pos (by omega), if_pos (by omega), if_pos (by omega), if_pos (by omega), if_pos (by omega), if_pos (by omega), if_pos (by omega), if_pos (by omega), hb, c]; rfl
    · rw [if_neg c]
      refine Ev.step (fun k => ?_) (ih (j + 1) (by omega) (by omega))
      simp only [order_timely.l1]; rw [if_pos (by omega), if_pos (by omega), if_pos (by omega), if_pos (by omega), if_pos (by omega), if_pos (by omega), if_pos (by omega), if_pos (by omega), if_pos (by omega), hb, Option.bind_some, if_neg c, w64 (by omega) (by omega)]; rfl
theorem timely_l0 (ops : List S65) (o : List Int) (ho : o.length ≤ 1000) (hx : ∀ q_ ∈ o, 0 ≤ q_ ∧ q_ < (ops.length : Int)) (d : Nat) : ∀ (i : Nat), o.length - i = d → i ≤ o.length →
    Ev (fun k => order_timely.l0 k ops o (o.length : Int) i) (timeZ ops (o.take i) (o.drop i)) := by
  induction d with
  | zero =>
    intro i hd hi
    rw [List.drop_of_length_le (by omega), timeZ]
    refine Ev.step (f := fun _ => some true) (fun k => ?_) (Ev.now _)
    simp only [order_timely.l0]; rw [if_neg (by omega)]
  | succ d ih =>
    intro i hd hi
    have e : o.take i ++ [rd o i] = o.take (i + 1) := by
      rw [List.take_add_one, List.getElem?_eq_getElem (by omega)]; simp [rd, List.getElem?_eq_getElem (show i < o.length by omega)]
    rw [rd_drop o i (by omega), timeZ, e]
    have h := timely_l1 ops o i (by omega) ho hx _ (ih (i + 1) (by omega) (by omega)) _ 0 rfl (by omega)
    rw [List.drop_zero] at h
    refine Ev.step (fun k => ?_) h
    simp only [order_timely.l0]; rw [if_pos (by omega)]; rfl
theorem order_timely_ev (ops : List S65) (o : List Int) (ho : o.length ≤ 1000) (hx : ∀ q_ ∈ o, 0 ≤ q_ ∧ q_ < (ops.length : Int)) : Ev (fun k => order_timely.f k ops o) (timeZ ops [] o) := by
  have h := timely_l0 ops o ho hx _ 0 rfl (by omega)
  exact h
/-- What order.Check answers. -/
def ordC (L : List S36) (fuel : Int) (ops : List S65) (o : List Int) : Int :=
  if (thru L).2.2 ≠ 0 then (thru L).2.2 else if fuel < 0 ∨ 10000 < fuel then 2 else if 64 < ops.length then 5
  else if placeZ ops o (List.replicate ops.length false) ≠ 0 then placeZ ops o (List.replicate ops.length false)
  else if timeZ ops [] o = false then 17 else ordZ L ops fuel o [0, 0, 0, 0]
theorem ord_Check (A0 A2 A3 : Option Addr) (c0 c2 c3 : Nat) (L : List S36) (fuel : Int) (ops : List S65) (o : List Int) (w : World) (hC0 : Kd.C k36 w A0 L.length L) (hc0 : L.length ≤ c0) (hL : L.length ≤ 300) (hC2 : Kd.C k65 w A2 ops.length ops) (hc2 : ops.length ≤ c2) (hC3 : Kd.C (Kd.int .i64) w A3 o.length o) (hc3 : o.length ≤ c3) (ho : o.length ≤ 1000) :
    Calls Try.prog 33 #[.slice A0 L.length c0, .int .i64 fuel, .slice A2 ops.length c2, .slice A3 o.length c3] w fun e w' => e = .returned (.int .i64 (ordC L fuel ops o)) ∧ Below w.heap.size w w' := by
  unfold ordC
  by_cases ht : (thru L).2.2 = 0
  rotate_left
  · rw [if_pos ht]; exact ord_new A0 A2 A3 c0 c2 c3 L fuel ops o w hC0 hc0 hL hC2 hc2 hC3 hc3 ht
  rw [if_neg (by simpa using ht)]
  by_cases hf : fuel < 0
  · rw [if_pos (.inl hf)]; exact ord_fuel0 A0 A2 A3 c0 c2 c3 L fuel ops o w hC0 hc0 hL hC2 hc2 hC3 hc3 ht hf
  by_cases hf2 : 10000 < fuel
  · rw [if_pos (.inr hf2)]; exact ord_fuel1 A0 A2 A3 c0 c2 c3 L fuel ops o w hC0 hc0 hL hC2 hc2 hC3 hc3 ht hf2
  rw [if_neg (by omega)]
  by_cases hn : 64 < ops.length
  · rw [if_pos hn]; exact ord_big A0 A2 A3 c0 c2 c3 L fuel ops o w hC0 hc0 hL hC2 hc2 hC3 hc3 ht (by omega) hn
  rw [if_neg hn]
  obtain ⟨K1, h1⟩ := order_placed_ev ops o (by omega) ho
  by_cases hp : placeZ ops o (List.replicate ops.length false) = 0
  rotate_left
  · rw [if_pos hp]; exact ord_place A0 A2 A3 c0 c2 c3 L fuel ops o w hC0 hc0 hL hC2 hc2 hC3 hc3 ht (by omega) (by omega) K1 _ (h1 K1 (Nat.le_refl _)) hp
  rw [if_neg (by simpa using hp)]
  have hx := placeZ_in ops o _ (by rw [hp]; decide)
  obtain ⟨K2, h2⟩ := order_timely_ev ops o ho hx
  rw [hp] at h1
  cases hq : timeZ ops [] o with
  | false => rw [if_pos rfl]; rw [hq] at h2; exact ord_late A0 A2 A3 c0 c2 c3 L fuel ops o w hC0 hc0 hL hC2 hc2 hC3 hc3 ht (by omega) (by omega) (K1 + K2) (h1 _ (by omega)) (h2 _ (by omega))
  | true => rw [if_neg (by simp)]; rw [hq] at h2; exact ord_go A0 A2 A3 c0 c2 c3 L fuel ops o w hC0 hc0 hL hC2 hc2 hC3 hc3 ht (by omega) (by omega) ho (K1 + K2) (h1 _ (by omega)) (h2 _ (by omega)) hx
theorem or_info3 : (Try.prog.info? 3).map (fun i => (i.zero, i.size, i.bytes)) = some (some (.int .i64 0), 1, 8) := by kernel_rfl
/-- At most so many numbers, in memory of their own. -/
theorem ord_Ints (A : Option Addr) (c : Nat) (l : List Int) (n : Int) (w : World) (hC : Kd.C (Kd.int .i64) w A l.length l) (hc : l.length ≤ c) (h0 : 0 ≤ n) (h1 : n ≤ 1000) :
    Calls Try.prog 32 #[.slice A l.length c, .int .i64 n] w fun e w' => ∃ v, e = .returned v ∧ Kd.R (Kd.int .i64) 3 w' w.heap.size (fun _ => True) v (l.take n.toNat) ∧ Below w.heap.size w w' := by
  by_cases hn : (l.length : Int) > n
  · obtain ⟨i0, hi0, _, hsz, _⟩ := info_parts or_info3
    have hcut := cut_to (P := Try.prog) 56 3 .i64 Try.underlying56 hi0 A l.length c n h0 (by omega) hc
    obtain ⟨y, hy⟩ : ∃ y : List Int, y = l.take n.toNat := ⟨_, rfl⟩
    have hr := Kd.C_take (m := n.toNat) hC (by omega)
    have hyl : y.length = n.toNat := by rw [hy, List.length_take]; omega
    rw [← hy] at hr ⊢
    rw [← hyl] at hcut
    have hb0 : decide (n < (l.length : Int)) = true := decide_eq_true (by omega)
    replace hr := Aside0.mk hr
    have hyn := Aside0.mk (show y.length ≤ 1000 by omega)
    have q0 : 0 ≤ n := h0
    have q1 : n ≤ (l.length : Int) := by omega
    clear hC hy hn hi0 hsz hyl
    go_enter Try.func32, Try.ntmps32
    go_wp2_with (first | ((with_reducible refine gate_builtin (b := .append) (xs := #[.tmp 13, .tmp 14]) rfl ?_); at_builtin; refine Kd.R_append_rows (Kd.int .i64) (w0 := w) w.heap.size rfl (.tmp 13) (.tmp 14) 56 3 (.int .i64 0) 8 rfl Try.underlying56 or_info3 rfl (by decide) (by omega) (.slice none 0 0) ([] : List Int) y _ _ _ (fun _ => True) (fun _ => False) rfl rfl (Kd.R_nil _ _ _ _ (fun _ => True)) hr.out (fun _ _ h => h) (fun _ h => h.elim) (fun _ _ => trivial) (Below.refl _ w) (Nat.le_refl _) (by have := hyn.out; simp; omega) ?_; intro v1 w1 hR hB hg hat; rw [List.nil_append] at hR; replace hR := Aside0.mk hR; replace hB := Aside0.mk hB; clear hg hat))
    go_ret
    exact ⟨_, rfl, hR.out, hB.out⟩
  · rw [List.take_of_length_le (by omega)]
    have hb0 : decide (n < (l.length : Int)) = false := decide_eq_false (by omega)
    have hl := Aside0.mk (show l.length ≤ 1000 by omega)
    replace hC := Aside0.mk hC
    clear hn
    go_enter Try.func32, Try.ntmps32
    go_wp2_with (first | ((with_reducible refine gate_builtin (b := .append) (xs := #[.tmp 13, .tmp 14]) rfl ?_); at_builtin; refine Kd.R_append_rows (Kd.int .i64) (w0 := w) w.heap.size rfl (.tmp 13) (.tmp 14) 56 3 (.int .i64 0) 8 rfl Try.underlying56 or_info3 rfl (by decide) (by omega) (.slice none 0 0) ([] : List Int) l _ _ _ (fun _ => True) (fun _ => False) rfl rfl (Kd.R_nil _ _ _ _ (fun _ => True)) hC.out (fun _ _ h => h) (fun _ h => h.elim) (fun _ _ => trivial) (Below.refl _ w) (Nat.le_refl _) (by have := hl.out; simp; omega) ?_; intro v1 w1 hR hB hg hat; rw [List.nil_append] at hR; replace hR := Aside0.mk hR; replace hB := Aside0.mk hB; clear hg hat))
    exact bodyPost_ret (v := v1) (by simp [results, Try.results32, go_sem]) rfl ⟨_, rfl, hR.out, hB.out⟩
def getZ : List S36 := [⟨6, 0⟩, ⟨17, 4⟩, ⟨6, 0⟩, ⟨5, 0⟩, ⟨4, 0⟩, ⟨18, 0⟩]
theorem or_lit6 (w : World) (a b c d a' b' c' d' a2 b2 c2 d2 : Int) : (Instr.buildSlice 22 6 #[(0, .agg #[.int .i64 a, .int .i64 b]), (1, .agg #[.int .i64 c, .int .i64 d]), (2, .agg #[.int .i64 a', .int .i64 b']), (3, .agg #[.int .i64 c', .int .i64 d']), (4, .agg #[.int .i64 a2, .int .i64 b2]), (5, .agg #[.int .i64 c2, .int .i64 d2])]).run Try.prog w = .ok (.slice (some ⟨w.heap.size, 0, none⟩) 6 6) (w.alloc (.cells #[.int .i64 a, .int .i64 b, .int .i64 c, .int .i64 d, .int .i64 a', .int .i64 b', .int .i64 c', .int .i64 d', .int .i64 a2, .int .i64 b2, .int .i64 c2, .int .i64 d2] 36)) := by kernel_rfl
theorem ord_get (w : World) : Calls Try.prog 64 #[] w fun e w' => ∃ ad, e = .returned (.slice (some ad) 6 6) ∧ Kd.C k36 w' (some ad) getZ.length getZ ∧ Below w.heap.size w w' := by
  have hlit := fun w => or_lit6 w 6 0 17 4 6 0 5 0 4 0 18 0
  go_enter Try.func64, Try.ntmps64
  go_wp2
  go_ret
  refine ⟨_, rfl, ?_, below_alloc (Below.refl _ _) _⟩
  exact vm_litR (l := getZ) (cs := [.int .i64 6, .int .i64 0, .int .i64 17, .int .i64 4, .int .i64 6, .int .i64 0, .int .i64 5, .int .i64 0, .int .i64 4, .int .i64 0, .int .i64 18, .int .i64 0]) w (fun W base ok => ((((((Reps.none _ _).snoc (k36_mkM W base ok ⟨6, 0⟩) rfl).snoc (k36_mkM W base ok ⟨17, 4⟩) rfl).snoc (k36_mkM W base ok ⟨6, 0⟩) rfl).snoc (k36_mkM W base ok ⟨5, 0⟩) rfl).snoc (k36_mkM W base ok ⟨4, 0⟩) rfl).snoc (k36_mkM W base ok ⟨18, 0⟩) rfl) (by decide)
theorem or_litO (w : World) : (Instr.buildSlice 55 1 #[(0, .agg #[.int .i64 0, .int .i64 0, .int .i64 0, .bool true, .int .i64 3, .int .i64 0, .int .i64 1])]).run Try.prog w = .ok (.slice (some ⟨w.heap.size, 0, none⟩) 1 1) (w.alloc (.cells #[.int .i64 0, .int .i64 0, .int .i64 0, .bool true, .int .i64 3, .int .i64 0, .int .i64 1] 65)) := by kernel_rfl
theorem or_litI (w : World) : (Instr.buildSlice 56 1 #[(0, .int .i64 0)]).run Try.prog w = .ok (.slice (some ⟨w.heap.size, 0, none⟩) 1 1) (w.alloc (.cells #[.int .i64 0] 3)) := by kernel_rfl
theorem or_litOC (w : World) : Kd.C k65 (w.alloc (.cells #[.int .i64 0, .int .i64 0, .int .i64 0, .bool true, .int .i64 3, .int .i64 0, .int .i64 1] 65)) (some ⟨w.heap.size, 0, none⟩) 1 [⟨0, 0, 0, true, 3, 0, 1⟩] := by
  have h : Kd.R k65 65 (w.alloc (.cells #[.int .i64 0, .int .i64 0, .int .i64 0, .bool true, .int .i64 3, .int .i64 0, .int .i64 1] 65)) w.heap.size (fun _ => True) (.slice (some ⟨w.heap.size, 0, none⟩) 1 1) [⟨0, 0, 0, true, 3, 0, 1⟩] := ⟨fun _ _ => trivial, OwnRow.lit w w.heap.size ((Reps.none _ _).snoc (k65_mkM _ _ _ ⟨0, 0, 0, true, 3, 0, 1⟩) rfl) (Nat.le_refl _) (by decide)⟩
  exact (Kd.R_reads' h).2.2
theorem or_litIC (w : World) : Kd.C (Kd.int .i64) (w.alloc (.cells #[.int .i64 0] 3)) (some ⟨w.heap.size, 0, none⟩) 1 [0] := by
  have h : Kd.R (Kd.int .i64) 3 (w.alloc (.cells #[.int .i64 0] 3)) w.heap.size (fun _ => True) (.slice (some ⟨w.heap.size, 0, none⟩) 1 1) [0] := ⟨fun _ _ => trivial, OwnRow.lit w w.heap.size ((Reps.none _ _).snoc (show (Kd.int .i64).M _ _ _ 0 [.int .i64 0] from rfl) rfl) (Nat.le_refl _) (by decide)⟩
  exact (Kd.R_reads' h).2.2
theorem or_litICn (w : World) (n : Nat) (hn : w.heap.size = n) : Kd.C (Kd.int .i64) (w.alloc (.cells #[.int .i64 0] 3)) (some ⟨n, 0, none⟩) 1 [0] := by subst hn; exact or_litIC w
theorem or_lz : ordC getZ 9 [⟨0, 0, 0, true, 3, 0, 1⟩] [0] = 19 := by decide +kernel
theorem or_lchk (a0 : Addr) (A2 A3 : Option Addr) (w : World) (hC : Kd.C k36 w (some a0) getZ.length getZ) (h2 : Kd.C k65 w A2 1 [⟨0, 0, 0, true, 3, 0, 1⟩]) (h3 : Kd.C (Kd.int .i64) w A3 1 [0]) :
    Calls Try.prog 33 #[.slice (some a0) 6 6, .int .i64 9, .slice A2 1 1, .slice A3 1 1] w fun e w' => e = .returned (.int .i64 19) ∧ Below w.heap.size w w' := by
  have h := ord_Check (some a0) A2 A3 6 1 1 getZ 9 [⟨0, 0, 0, true, 3, 0, 1⟩] [0] w hC (by decide) (by decide) h2 (by decide) h3 (by decide) (by decide)
  rw [or_lz] at h
  exact h
set_option maxRecDepth 100000 in
set_option maxHeartbeats 400000 in
theorem ord_lives (w : World) : Calls Try.prog 37 #[] w fun e w' => e = .returned (.bool true) ∧ Below w.heap.size w w' := by
  have hO := or_litO
  have hI := or_litI
  go_enter Try.func37, Try.ntmps37
  go_wp2_with (first | (go_at_call 64; (with_reducible refine (ord_get _).mono ?_); rintro e W1 ⟨ad, rfl, hC, hB1⟩; replace hC := Aside0.mk hC; replace hB1 := Aside0.mk hB1) | (go_at_call 33; (with_reducible refine (or_lchk ad _ _ _ (Kd.C_alloc (Kd.C_alloc hC.out _) _) (Kd.C_alloc (or_litOC _) _) (or_litICn _ _ ?hsz)).mono ?_); (case hsz => simp); rintro e W2 ⟨rfl, hB2⟩; replace hB2 := Aside0.mk hB2))
  go_ret
  exact ⟨rfl, below_step hB1.out (below_step (below_alloc (below_alloc (Below.refl _ _) _) _) hB2.out)⟩
theorem few17 (l : List S65) (n : Int) (h0 : 0 ≤ n) (h1 : n ≤ 1000) : inquestref17_Few.f l n = some (l.take n.toNat) := by
  unfold inquestref17_Few.f
  by_cases c : (l.length : Int) > n
  · rw [if_pos c, if_pos h0, if_pos (by omega), Option.bind_some, if_pos (by simp [List.length_take]; omega)]; rfl
  · rw [if_neg c, if_pos (by simp; omega), List.take_of_length_le (by omega)]; rfl
/-- What an order that is one is like. -/
structure OrdF (ops : List S65) (o : List Int) : Prop where
  ix : ∀ i : Nat, i < o.length → 0 ≤ rd o i ∧ rd o i < (ops.length : Int)
  nd : ∀ i k : Nat, i < k → k < o.length → rd o i ≠ rd o k
  dn : ∀ j : Nat, j < ops.length → (rd_T65 ops j).f3 = true → ∃ k : Nat, k < o.length ∧ rd o k = j
  tm : ∀ b a : Nat, b < a → a < o.length → befZ (rd_T65 ops (rd o a)) (rd_T65 ops (rd o b)) = false
theorem rd_get (o : List Int) (i : Nat) (h : i < o.length) : rd o (i : Int) = o[i] := by simp [rd, List.getElem?_eq_getElem h]
theorem doneZ_get (s : List Bool) (ops : List S65) : ∀ (d i : Nat), ops.length - i = d → doneZ s (ops.drop i) i = true → ∀ j : Nat, i ≤ j → j < ops.length → (rd_T65 ops j).f3 = true → rdOf false s (j : Int) = true
  | 0, i, hd, _, j, hij, hj, _ => by omega
  | d + 1, i, hd, h, j, hij, hj, hf => by
    rw [op_drop ops i (by omega), doneZ] at h
    by_cases c : (rd_T65 ops i).f3 = true ∧ rdOf false s (i : Int) = false
    · rw [if_pos c] at h; cases h
    · rw [if_neg c] at h
      by_cases e : j = i
      · subst e
        cases q : rdOf false s (j : Int) with
        | true => rfl
        | false => exact absurd ⟨hf, q⟩ c
      · exact doneZ_get s ops d (i + 1) (by omega) h j (by omega) hj hf
theorem rdB_set (s : List Bool) (i j : Nat) (h : i < s.length) : rdOf false (s.set i true) (j : Int) = if j = i then true else rdOf false s (j : Int) := by
  simp only [rdOf, Int.toNat_natCast, List.getD_eq_getElem?_getD]
  by_cases c : j = i
  · subst c; rw [if_pos rfl, List.getElem?_set_self h]; rfl
  · rw [if_neg c, List.getElem?_set_ne (by omega)]
theorem placeZ_facts (ops : List S65) : ∀ (o : List Int) (s : List Bool), placeZ ops o s = 0 → s.length = ops.length →
    o.Pairwise (· ≠ ·) ∧ (∀ i ∈ o, 0 ≤ i ∧ i < (ops.length : Int) ∧ rdOf false s i = false) ∧ (∀ j : Nat, j < ops.length → (rd_T65 ops j).f3 = true → rdOf false s (j : Int) = true ∨ (j : Int) ∈ o)
  | [], s, h, hs => by
    refine ⟨List.Pairwise.nil, by simp, fun j hj hf => .inl ?_⟩
    rw [placeZ] at h
    split at h
    · rename_i c; exact doneZ_get s ops _ 0 rfl c j (by omega) hj hf
    · cases h
  | x :: o, s, h, hs => by
    rw [placeZ] at h
    split at h
    rotate_left
    · cases h
    rename_i c
    obtain ⟨h1, h2, h3⟩ := placeZ_facts ops o _ h (by simpa using hs)
    have hx : ((x.toNat : Nat) : Int) = x := by omega
    refine ⟨List.Pairwise.cons (fun y hy e => ?_) h1, fun i hi => ?_, fun j hj hf => ?_⟩
    · subst e
      have := (h2 x hy).2.2
      rw [← hx, rdB_set s _ _ (by omega), if_pos (by omega)] at this
      cases this
    · rcases List.mem_cons.mp hi with rfl | hi
      · exact c
      · obtain ⟨a, b, d⟩ := h2 i hi
        refine ⟨a, b, ?_⟩
        have hi2 : ((i.toNat : Nat) : Int) = i := by omega
        rw [← hi2, rdB_set s _ _ (by omega)] at d
        split at d
        · cases d
        · rw [← hi2]; exact d
    · rcases h3 j hj hf with e | e
      · rw [rdB_set s _ _ (by omega)] at e
        split at e
        · rename_i q; exact .inr (List.mem_cons.mpr (.inl (by omega)))
        · exact .inl e
      · exact .inr (List.mem_cons_of_mem _ e)
theorem innerZ_get (ops : List S65) (a : S65) : ∀ (l : List Int), innerZ ops a l = true → ∀ x ∈ l, befZ a (rd_T65 ops x) = false
  | [], _, x, hx => by simp at hx
  | y :: l, h, x, hx => by
    rw [innerZ] at h
    cases q : befZ a (rd_T65 ops y) with
    | true => rw [q, if_pos rfl] at h; cases h
    | false =>
      rw [q, if_neg (by simp)] at h
      rcases List.mem_cons.mp hx with rfl | hx
      · exact q
      · exact innerZ_get ops a l h x hx
theorem timeZ_get (ops : List S65) : ∀ (r pre : List Int), timeZ ops pre r = true → ∀ (a : Nat) (ha : a < r.length) (x : Int), x ∈ pre ∨ x ∈ r.take a → befZ (rd_T65 ops r[a]) (rd_T65 ops x) = false
  | [], _, _, a, ha, _, _ => by simp at ha
  | y :: r, pre, h, a, ha, x, hx => by
    rw [timeZ] at h
    split at h
    rotate_left
    · cases h
    rename_i c
    cases a with
    | zero =>
      rcases hx with hx | hx
      · exact innerZ_get ops _ pre c x hx
      · simp at hx
    | succ a =>
      refine timeZ_get ops r (pre ++ [y]) h a (by simpa using ha) x ?_
      rcases hx with hx | hx
      · exact .inl (by simp [hx])
      · simp only [List.take_succ_cons, List.mem_cons] at hx
        rcases hx with rfl | hx
        · exact .inl (by simp)
        · exact .inr hx
theorem ordF_of {L : List S36} {f : Int} {ops : List S65} {o : List Int} (h : ordC L f ops o = 0) : ops.length ≤ 64 ∧ OrdF ops o := by
  unfold ordC at h
  by_cases ht : (thru L).2.2 = 0
  rotate_left
  · rw [if_pos ht] at h; exact absurd h ht
  rw [if_neg (fun q => q ht)] at h
  by_cases hf : f < 0 ∨ 10000 < f
  · rw [if_pos hf] at h; cases h
  rw [if_neg hf] at h
  by_cases hn : 64 < ops.length
  · rw [if_pos hn] at h; cases h
  rw [if_neg hn] at h
  by_cases hp : placeZ ops o (List.replicate ops.length false) = 0
  rotate_left
  · rw [if_pos hp] at h; exact absurd h hp
  rw [if_neg (fun q => q hp)] at h
  by_cases hq : timeZ ops [] o = false
  · rw [if_pos hq] at h; cases h
  have hq : timeZ ops [] o = true := by simpa using hq
  obtain ⟨h1, h2, h3⟩ := placeZ_facts ops o _ hp (by simp)
  refine ⟨by omega, fun i hi => ?_, fun i k hik hk => ?_, fun j hj hf => ?_, fun b a hba ha => ?_⟩
  · have := h2 _ (rd_mem o i hi); exact ⟨this.1, this.2.1⟩
  · rw [rd_get o i (by omega), rd_get o k hk]
    exact List.pairwise_iff_getElem.mp h1 i k (by omega) hk hik
  · rcases h3 j hj hf with e | e
    · have : rdOf false (List.replicate ops.length false) (j : Int) = false := by simp [rdOf, List.getElem?_replicate]; split <;> rfl
      rw [this] at e; cases e
    · obtain ⟨k, hk, e⟩ := List.getElem_of_mem e
      exact ⟨k, hk, by rw [rd_get o k hk]; exact e⟩
  · rw [rd_get o a ha, rd_get o b (by omega)]
    exact timeZ_get ops o [] hq a ha _ (.inr (List.mem_iff_getElem.mpr ⟨b, by rw [List.length_take]; omega, by simp⟩))
theorem vgo_inR {L : List S36} {kind arg : Int} {c0 : List Int} (hki : inR kind) (har : inR arg) (hco : ∀ i : Int, 0 ≤ i → i < (L.length : Int) → inR (rd_T36 L i).f1) (h0 : ∀ x ∈ c0, inR x) : ∀ (f : Nat) (u : Int) (r : VR) (rk : Int) (rs : List Int) (rr ru : Int), VRok r → vgo L kind arg c0 f u r = some (rk, rs, rr, ru) → ∀ x ∈ rs, inR x
  | f, u, r, rk, rs, rr, ru, hr, h => by
    by_cases he : r.en = 0
    · cases f with
      | zero => rw [vgo_0 he] at h; cases h; exact h0
      | succ f =>
        have h2 := h
        unfold vgo at h
        rw [if_pos he] at h
        dsimp only at h
        split at h
        · rename_i hg
          split at h
          · cases h
          · cases h; exact h0
          · rename_i r' hv
            exact vgo_inR hki har hco h0 f _ r' rk rs rr ru (vdo_ok _ _ _ _ _ _ hr (hco _ hg.1 hg.2.1) hki har hv) h
        · cases h
    · by_cases h2 : r.en = 2
      · rw [vgo_2 h2] at h; cases h; exact h0
      · rw [vgo_1 he h2] at h; cases h; exact hr.1
theorem vstep_inR {L : List S36} {kind arg fuel : Int} {c0 : List Int} (hki : inR kind) (har : inR arg) (hco : ∀ i : Int, 0 ≤ i → i < (L.length : Int) → inR (rd_T36 L i).f1) (h0 : ∀ x ∈ c0, inR x) {rk : Int} {rs : List Int} {rr ru : Int} (h : vstep L c0 kind arg fuel = some (rk, rs, rr, ru)) : ∀ x ∈ rs, inR x :=
  vgo_inR hki har hco h0 _ _ _ _ _ _ _ ⟨h0, by simp, by simp [inR]⟩ h
set_option maxRecDepth 100000 in
set_option maxHeartbeats 8000000 in
theorem r17_does (A0 A2 A3 : Option Addr) (n0 c0 c2 c3 : Nat) (L : List S36) (fuel : Int) (ops : List S65) (o : List Int) (s0 s1 s2 s3 : Int) (w : World) (hC0 : Kd.C k36 w A0 L.length L) (hc0 : L.length ≤ c0) (hL : L.length ≤ 300) (hC2 : Kd.C k65 w A2 ops.length ops) (hC3 : Kd.C (Kd.int .i64) w A3 o.length o) (ho : o.length ≤ 1000) (ht : (thru L).2.2 = 0)
    (hf : 0 ≤ fuel ∧ fuel ≤ 10000) (hx : ∀ i ∈ o, 0 ≤ i ∧ i < (ops.length : Int)) (hco : ∀ i : Int, 0 ≤ i → i < (L.length : Int) → inR (rd_T36 L i).f1) (hop : ∀ i : Int, 0 ≤ i → i < (ops.length : Int) → inR (rd_T65 ops i).f1 ∧ inR (rd_T65 ops i).f2) (hs0 : ∀ x ∈ [s0, s1, s2, s3], inR x) :
    Calls Try.prog 63 #[.slice A0 L.length c0, .int .i64 fuel, .slice A2 ops.length c2, .slice A3 o.length c3, .agg #[.int .i64 s0, .int .i64 s1, .int .i64 s2, .int .i64 s3]] w fun e w' => e = .returned (.int .i64 (ordZ L ops fuel o [s0, s1, s2, s3])) ∧ Below w.heap.size w w' := by
  have hK : Aside0 (inquestref15_Check.f L = some ((thru L).2.1, 0)) := ⟨by rw [← ht]; exact r15_Check L hL⟩
  have hGd := Aside0.mk (fun (cs : List Int) (h4 : cs.length = 4) (kind arg : Int) => vstep_good L ht cs h4 kind arg fuel)
  replace hC0 := Aside0.mk hC0
  replace hC2 := Aside0.mk hC2
  replace hC3 := Aside0.mk hC3
  replace hco := Aside0.mk hco
  replace hop := Aside0.mk hop
  replace hs0 := Aside0.mk hs0
  replace hx := Aside0.mk hx
  replace hf := Aside0.mk hf
  replace ho := Aside0.mk ho
  clear hL ht
  go_enter Try.func63, Try.ntmps63
  go_wp2
  refine vm_gen _ (fun W => W.heap[w.heap.size]? = some (.cells #[.int .i64 s0, .int .i64 s1, .int .i64 s2, .int .i64 s3] 24 (0, 0)) ∧ Below w.heap.size w W) ⟨blk_new _ _, below_alloc (Below.refl _ _) _⟩ ?_
  rintro W0 ⟨hsb, hB0⟩
  obtain ⟨gs, hgs⟩ : ∃ g, g = w.heap.size := ⟨_, rfl⟩
  rw [← hgs] at hsb ⊢
  replace hsb := Aside0.mk hsb
  replace hB0 := Aside0.mk hB0
  have hgT : Aside0 (w.heap.size ≤ gs) := ⟨by rw [hgs]; exact Nat.le_refl _⟩
  replace hgs := Aside0.mk hgs
  go_loopg [11] o.length (fun kk v11 W => ∃ (i : Nat) (e0 e1 e2 e3 : Int), v11 = .int .i64 i ∧ Aside0 (kk + i = o.length) ∧ Aside0 (W.heap[gs]? = some (.cells #[.int .i64 e0, .int .i64 e1, .int .i64 e2, .int .i64 e3] 24 (0, 0))) ∧ Aside0 (Below w.heap.size w W) ∧ Aside0 (ordZ L ops fuel (o.drop i) [e0, e1, e2, e3] = ordZ L ops fuel o [s0, s1, s2, s3]) ∧ Aside0 (∀ x ∈ [e0, e1, e2, e3], inR x))
  case atStart => exact ⟨0, s0, s1, s2, s3, rfl, ⟨by omega⟩, hsb, hB0, ⟨by simp⟩, hs0⟩
  case round =>
    obtain ⟨i, e0, e1, e2, e3, rfl, hki, hs, hBW, hz, hin⟩ := hrel
    cases gk with
    | zero =>
      obtain rfl : i = o.length := by have := hki.out; omega
      have hlt : decide ((o.length : Int) < (o.length : Int)) = false := decide_eq_false (by omega)
      have hz0 := Aside0.mk (show ordZ L ops fuel o [s0, s1, s2, s3] = 0 by rw [← hz.out, List.drop_eq_nil_of_le (Nat.le_refl _)]; rfl)
      go_wp2
      go_ret
      exact ⟨by rw [hz0.out]; rfl, hBW.out⟩
    | succ j =>
      have hi : Aside0 (i < o.length) := ⟨by have := hki.out; omega⟩
      have hlt : decide ((i : Int) < (o.length : Int)) = true := decide_eq_true (by have := hi.out; omega)
      have hlt2 : i < o.length := hi.out
      have hi0 : decide (0 ≤ (i : Int)) = true := decide_eq_true (by omega)
      have hdr := rd_drop o i hi.out
      have hix := hx.out _ (rd_mem o i hi.out)
      obtain ⟨ad3, e3', hc3a⟩ := Kd.at_int (Kd.C_below hC3.out hBW.out) (i : Int) (by omega) (by have := hi.out; omega)
      cases e3'
      obtain ⟨ix, hixe⟩ : ∃ x, x = rd o (i : Int) := ⟨_, rfl⟩
      rw [← hixe] at hdr hix hc3a
      simp only [Int.toNat_natCast] at hc3a
      obtain ⟨ad2, e2', y0, y1, y2, y3, y4, y5, y6⟩ := at_T65 (Kd.C_below hC2.out hBW.out) ix hix.1 hix.2
      cases e2'
      have hpo := hop.out ix hix.1 hix.2
      obtain ⟨rk, rs, rr, ru, hv, h4, _, _⟩ := hGd.out [e0, e1, e2, e3] rfl (rd_T65 ops ix).f1 (rd_T65 ops ix).f2
      obtain ⟨d0, d1, d2, d3, rfl⟩ := four_of h4
      have hin2 := Aside0.mk (vstep_inR hpo.1 hpo.2 hco.out hin.out hv)
      have hv3 := Aside0.mk hv
      obtain ⟨p, hp⟩ : ∃ x, x = rd_T65 ops ix := ⟨_, rfl⟩
      have hz2 : Aside0 (ordZ L ops fuel (ix :: o.drop (i + 1)) [e0, e1, e2, e3] = ordZ L ops fuel o [s0, s1, s2, s3]) := ⟨by rw [← hdr]; exact hz.out⟩
      rw [← hp] at y0 y1 y2 y3 y4 y5 y6 hpo hv
      have hv2 := Aside0.mk hv
      replace hpo := Aside0.mk hpo
      replace hp := Aside0.mk hp
      obtain ⟨qa, qb⟩ := hix
      have hsA := fun X => blk_cell (blk_alloc hs.out X) 0
      have hsB := fun X => blk_cell (blk_alloc hs.out X) 1
      have hsC := fun X => blk_cell (blk_alloc hs.out X) 2
      have hsD := fun X => blk_cell (blk_alloc hs.out X) 3
      simp only [List.getElem?_toArray, List.getElem?_cons_zero, List.getElem?_cons_succ] at hsA hsB hsC hsD
      clear hv hz h4 hdr hixe
      by_cases hrk : rk = 1
      rotate_left
      · have hnb : (rk != 1) = true := by simpa using hrk
        have hz3 := ordZ_18 (o := o.drop (i + 1)) hv3.out hrk
        replace hz3 := Aside0.mk (hz2.out.symm.trans hz3)
        clear hrk
        go_wp2_with (first | (go_at_call 28; (with_reducible refine (rf_Step4 A0 c0 L _ (Kd.C_alloc (Kd.C_below hC0.out hBW.out) _) hc0 _ hK.out e0 e1 e2 e3 p.f1 p.f2 fuel rk d0 d1 d2 d3 rr ru (hin.out _ (by simp)) (hin.out _ (by simp)) (hin.out _ (by simp)) (hin.out _ (by simp)) hpo.out.1 hpo.out.2 hco.out hv2.out (by have := hf.out; omega)).mono ?_); rintro e W1 ⟨rfl, hB1⟩; have bs := blk_below (blk_alloc hs.out _) hB1; have bo := blk_below (blk_new wr (.cells #[.int .i64 p.f0, .int .i64 p.f1, .int .i64 p.f2, .bool p.f3, .int .i64 p.f4, .int .i64 p.f5, .int .i64 p.f6] 65)) hB1; have u0_ := fun X => blk_cell (blk_alloc bs X) 0; have f0_ := fun X => blk_frozen (blk_alloc bs X) 0; have u1_ := fun X => blk_cell (blk_alloc bs X) 1; have f1_ := fun X => blk_frozen (blk_alloc bs X) 1; have u2_ := fun X => blk_cell (blk_alloc bs X) 2; have f2_ := fun X => blk_frozen (blk_alloc bs X) 2; have u3_ := fun X => blk_cell (blk_alloc bs X) 3; have f3_ := fun X => blk_frozen (blk_alloc bs X) 3; have t3 := fun X => blk_cell (blk_alloc bo X) 3; have t4 := fun X => blk_cell (blk_alloc bo X) 4; simp only [List.getElem?_toArray, List.getElem?_cons_zero, List.getElem?_cons_succ] at u0_ u1_ u2_ u3_ t3 t4; replace bs := Aside0.mk bs; clear bo; replace hB1 := Aside0.mk hB1))
        go_ret
        exact ⟨by rw [hz3.out]; rfl, below_step hBW.out (by exact below_alloc (below_step (below_alloc (Below.refl _ _) _) hB1.out) _)⟩
      subst hrk
      by_cases hd : p.f3 = true
      · by_cases hr : p.f4 = rr
        rotate_left
        · have hnb : (p.f4 != rr) = true := by simpa using hr
          have hz3 := ordZ_19 (o := o.drop (i + 1)) hv3.out (by rw [← hp.out]; exact hd) (by rw [← hp.out]; exact fun e => hr e.symm)
          replace hz3 := Aside0.mk (hz2.out.symm.trans hz3)
          clear hr
          rw [hd] at y3
          go_wp2_with (first | (go_at_call 28; (with_reducible refine (rf_Step4 A0 c0 L _ (Kd.C_alloc (Kd.C_below hC0.out hBW.out) _) hc0 _ hK.out e0 e1 e2 e3 p.f1 p.f2 fuel 1 d0 d1 d2 d3 rr ru (hin.out _ (by simp)) (hin.out _ (by simp)) (hin.out _ (by simp)) (hin.out _ (by simp)) hpo.out.1 hpo.out.2 hco.out hv2.out (by have := hf.out; omega)).mono ?_); rintro e W1 ⟨rfl, hB1⟩; have bs := blk_below (blk_alloc hs.out _) hB1; have bo := blk_below (blk_new wr (.cells #[.int .i64 p.f0, .int .i64 p.f1, .int .i64 p.f2, .bool true, .int .i64 p.f4, .int .i64 p.f5, .int .i64 p.f6] 65)) hB1; have u0_ := fun X => blk_cell (blk_alloc bs X) 0; have f0_ := fun X => blk_frozen (blk_alloc bs X) 0; have u1_ := fun X => blk_cell (blk_alloc bs X) 1; have f1_ := fun X => blk_frozen (blk_alloc bs X) 1; have u2_ := fun X => blk_cell (blk_alloc bs X) 2; have f2_ := fun X => blk_frozen (blk_alloc bs X) 2; have u3_ := fun X => blk_cell (blk_alloc bs X) 3; have f3_ := fun X => blk_frozen (blk_alloc bs X) 3; have t3 := fun X => blk_cell (blk_alloc bo X) 3; have t4 := fun X => blk_cell (blk_alloc bo X) 4; simp only [List.getElem?_toArray, List.getElem?_cons_zero, List.getElem?_cons_succ] at u0_ u1_ u2_ u3_ t3 t4; (try simp only [hd] at t3); replace bs := Aside0.mk bs; clear bo; replace hB1 := Aside0.mk hB1))
          go_ret
          exact ⟨by rw [hz3.out]; rfl, below_step hBW.out (by exact below_alloc (below_step (below_alloc (Below.refl _ _) _) hB1.out) _)⟩
        have hnb : (p.f4 != rr) = false := by simpa using hr
        have hz3 := ordZ_go (o := o.drop (i + 1)) hv3.out (.inr (by rw [← hp.out]; exact hr.symm))
        replace hz3 := Aside0.mk (hz3.symm.trans hz2.out)
        clear hr
        rw [hd] at y3
        go_wp2_with (first | (go_at_call 28; (with_reducible refine (rf_Step4 A0 c0 L _ (Kd.C_alloc (Kd.C_below hC0.out hBW.out) _) hc0 _ hK.out e0 e1 e2 e3 p.f1 p.f2 fuel 1 d0 d1 d2 d3 rr ru (hin.out _ (by simp)) (hin.out _ (by simp)) (hin.out _ (by simp)) (hin.out _ (by simp)) hpo.out.1 hpo.out.2 hco.out hv2.out (by have := hf.out; omega)).mono ?_); rintro e W1 ⟨rfl, hB1⟩; have bs := blk_below (blk_alloc hs.out _) hB1; have bo := blk_below (blk_new wr (.cells #[.int .i64 p.f0, .int .i64 p.f1, .int .i64 p.f2, .bool true, .int .i64 p.f4, .int .i64 p.f5, .int .i64 p.f6] 65)) hB1; have u0_ := fun X => blk_cell (blk_alloc bs X) 0; have f0_ := fun X => blk_frozen (blk_alloc bs X) 0; have u1_ := fun X => blk_cell (blk_alloc bs X) 1; have f1_ := fun X => blk_frozen (blk_alloc bs X) 1; have u2_ := fun X => blk_cell (blk_alloc bs X) 2; have f2_ := fun X => blk_frozen (blk_alloc bs X) 2; have u3_ := fun X => blk_cell (blk_alloc bs X) 3; have f3_ := fun X => blk_frozen (blk_alloc bs X) 3; have t3 := fun X => blk_cell (blk_alloc bo X) 3; have t4 := fun X => blk_cell (blk_alloc bo X) 4; simp only [List.getElem?_toArray, List.getElem?_cons_zero, List.getElem?_cons_succ] at u0_ u1_ u2_ u3_ t3 t4; (try simp only [hd] at t3); replace bs := Aside0.mk bs; clear bo; replace hB1 := Aside0.mk hB1))
        go_roundg j
        case measure => omega
        case rel => exact ⟨i + 1, d0, d1, d2, d3, by have a1 := hi.out; have a2 := ho.out; rw [w64 (by omega) (by omega)]; simp, ⟨by have := hki.out; omega⟩, ⟨st_put (blk_alloc bs.out _)⟩, ⟨below_set (below_set (below_set (below_set (below_step hBW.out (below_alloc (below_step (below_alloc (Below.refl _ _) _) hB1.out) _)) hgT.out) hgT.out) hgT.out) hgT.out⟩, hz3, hin2⟩
      · have hdf : p.f3 = false := by simpa using hd
        have hz3 := ordZ_go (o := o.drop (i + 1)) hv3.out (.inl (by rw [← hp.out]; exact hdf))
        replace hz3 := Aside0.mk (hz3.symm.trans hz2.out)
        clear hd
        rw [hdf] at y3
        go_wp2_with (first | (go_at_call 28; (with_reducible refine (rf_Step4 A0 c0 L _ (Kd.C_alloc (Kd.C_below hC0.out hBW.out) _) hc0 _ hK.out e0 e1 e2 e3 p.f1 p.f2 fuel 1 d0 d1 d2 d3 rr ru (hin.out _ (by simp)) (hin.out _ (by simp)) (hin.out _ (by simp)) (hin.out _ (by simp)) hpo.out.1 hpo.out.2 hco.out hv2.out (by have := hf.out; omega)).mono ?_); rintro e W1 ⟨rfl, hB1⟩; have bs := blk_below (blk_alloc hs.out _) hB1; have bo := blk_below (blk_new wr (.cells #[.int .i64 p.f0, .int .i64 p.f1, .int .i64 p.f2, .bool false, .int .i64 p.f4, .int .i64 p.f5, .int .i64 p.f6] 65)) hB1; have u0_ := fun X => blk_cell (blk_alloc bs X) 0; have f0_ := fun X => blk_frozen (blk_alloc bs X) 0; have u1_ := fun X => blk_cell (blk_alloc bs X) 1; have f1_ := fun X => blk_frozen (blk_alloc bs X) 1; have u2_ := fun X => blk_cell (blk_alloc bs X) 2; have f2_ := fun X => blk_frozen (blk_alloc bs X) 2; have u3_ := fun X => blk_cell (blk_alloc bs X) 3; have f3_ := fun X => blk_frozen (blk_alloc bs X) 3; have t3 := fun X => blk_cell (blk_alloc bo X) 3; have t4 := fun X => blk_cell (blk_alloc bo X) 4; simp only [List.getElem?_toArray, List.getElem?_cons_zero, List.getElem?_cons_succ] at u0_ u1_ u2_ u3_ t3 t4; (try simp only [hdf] at t3); replace bs := Aside0.mk bs; clear bo; replace hB1 := Aside0.mk hB1))
        go_roundg j
        case measure => omega
        case rel => exact ⟨i + 1, d0, d1, d2, d3, by have a1 := hi.out; have a2 := ho.out; rw [w64 (by omega) (by omega)]; simp, ⟨by have := hki.out; omega⟩, ⟨st_put (blk_alloc bs.out _)⟩, ⟨below_set (below_set (below_set (below_set (below_step hBW.out (below_alloc (below_step (below_alloc (Below.refl _ _) _) hB1.out) _)) hgT.out) hgT.out) hgT.out) hgT.out⟩, hz3, hin2⟩
/-- How often a number stands in a list. -/
def cntZ : List Int → Int → Int
  | [], _ => 0
  | x :: r, a => (if x = a then 1 else 0) + cntZ r a
theorem cntZ_nn : ∀ (l : List Int) (a : Int), 0 ≤ cntZ l a
  | [], _ => by simp [cntZ]
  | x :: r, a => by have := cntZ_nn r a; simp only [cntZ]; split <;> omega
theorem cntZ_mem : ∀ (l : List Int) (a : Int), 0 < cntZ l a ↔ a ∈ l
  | [], a => by simp [cntZ]
  | x :: r, a => by
    have h := cntZ_mem r a
    have h0 := cntZ_nn r a
    simp only [cntZ, List.mem_cons]
    by_cases c : x = a
    · rw [if_pos c]; exact ⟨fun _ => .inl c.symm, fun _ => by omega⟩
    · rw [if_neg c]
      constructor
      · intro q; exact .inr (h.mp (by omega))
      · rintro (q | q)
        · exact absurd q.symm c
        · have := h.mpr q; omega
theorem count_l0 (d : Nat) : ∀ (l : List Int) (a c : Int) (i : Nat), l.length - i = d → i ≤ l.length → l.length ≤ 1000 → 0 ≤ c → c ≤ i → Ev (fun k => inquestref17_count.l0 k l a c i) (c + cntZ (l.drop i) a) := by
  induction d with
  | zero =>
    intro l a c i hd hi hl h0 h1
    refine Ev.step (f := fun _ => some c) (fun k => ?_) (by rw [List.drop_of_length_le (by omega), cntZ, Int.add_zero]; exact Ev.now _)
    simp only [inquestref17_count.l0]; rw [if_neg (by omega)]
  | succ d ih =>
    intro l a c i hd hi hl h0 h1
    rw [rd_drop l i (by omega), cntZ]
    by_cases q : rd l i = a
    · rw [if_pos q]
      have h := ih l a (c + 1) (i + 1) (by omega) (by omega) hl (by omega) (by omega)
      rw [show c + (1 + cntZ (l.drop (i + 1)) a) = c + 1 + cntZ (l.drop (i + 1)) a by omega]
      refine Ev.step (fun k => ?_) h
      simp only [inquestref17_count.l0]; rw [if_pos (by omega), if_pos (by omega), if_pos q, w64 (by omega) (by omega), w64 (by omega) (by omega)]; rfl
    · rw [if_neg q, Int.zero_add]
      refine Ev.step (fun k => ?_) (ih l a c (i + 1) (by omega) (by omega) hl h0 (by omega))
      simp only [inquestref17_count.l0]; rw [if_pos (by omega), if_pos (by omega), if_neg q, w64 (by omega) (by omega)]; rfl
theorem count_ex (l : List Int) (a : Int) (hl : l.length ≤ 1000) : ∃ k, inquestref17_count.f k l a = some (cntZ l a) := by
  have h := count_l0 _ l a 0 0 rfl (by omega) hl (by omega) (by omega)
  rw [List.drop_zero, Int.zero_add] at h
  exact Ev.rounds h
theorem r17_count (A : Option Addr) (c : Nat) (l : List Int) (a : Int) (w : World) (hC : Kd.C (Kd.int .i64) w A l.length l) (hc : l.length ≤ c) (hl : l.length ≤ 1000) :
    Calls Try.prog 61 #[.slice A l.length c, .int .i64 a] w fun e w' => e = .returned (.int .i64 (cntZ l a)) ∧ ∃ m, w' = w.drewN m := by
  obtain ⟨k, h⟩ := count_ex l a hl
  exact (inquestref17_count.calls k A c l a _ w hC hc h).mono (fun e w' ⟨h1, m, hm⟩ => ⟨h1, m, hm⟩)
theorem r14_bef (a b : S65) (w : World) : Calls Try.prog 62 #[.agg #[.int .i64 a.f0, .int .i64 a.f1, .int .i64 a.f2, .bool a.f3, .int .i64 a.f4, .int .i64 a.f5, .int .i64 a.f6], .agg #[.int .i64 b.f0, .int .i64 b.f1, .int .i64 b.f2, .bool b.f3, .int .i64 b.f4, .int .i64 b.f5, .int .i64 b.f6]] w fun e w' => e = .returned (.bool (befZ a b)) ∧ Below w.heap.size w w' :=
  inquestref14_Before.calls a.f0 a.f1 a.f2 a.f3 a.f4 a.f5 a.f6 b.f0 b.f1 b.f2 b.f3 b.f4 b.f5 b.f6 _ w (by unfold inquestref14_Before.f befZ; split <;> rfl)
/-- The marks behind i numbers. -/
def MarkI (n : Nat) (o : List Int) (i : Nat) (s : List Bool) : Prop := s.length = n ∧ ∀ j : Nat, j < n → (rdOf false s (j : Int) = true ↔ (j : Int) ∈ o.take i)
theorem markI_zero (n : Nat) (o : List Int) : MarkI n o 0 (List.replicate n false) := by
  refine ⟨by simp, fun j hj => ?_⟩
  have : rdOf false (List.replicate n false) (j : Int) = false := by simp [rdOf, List.getElem?_replicate]; split <;> rfl
  rw [this]; simp
theorem take_snoc (o : List Int) (i : Nat) (h : i < o.length) : o.take (i + 1) = o.take i ++ [rd o i] := by
  rw [List.take_add_one, List.getElem?_eq_getElem h]; simp [rd, List.getElem?_eq_getElem h]
theorem markI_step {n : Nat} {o : List Int} {i : Nat} {s : List Bool} (h : MarkI n o i s) (hi : i < o.length) (hx : 0 ≤ rd o i ∧ rd o i < (n : Int)) : MarkI n o (i + 1) (s.set (rd o i).toNat true) := by
  refine ⟨by simpa using h.1, fun j hj => ?_⟩
  rw [rdB_set s _ _ (by have := h.1; omega), take_snoc o i hi, List.mem_append, List.mem_singleton]
  by_cases c : j = (rd o i).toNat
  · rw [if_pos c]; exact ⟨fun _ => .inr (by omega), fun _ => rfl⟩
  · rw [if_neg c, h.2 j hj]
    exact ⟨.inl, fun q => q.elim id (fun e => by omega)⟩
theorem timeZ_of (ops : List S65) : ∀ (r pre : List Int), (∀ (a : Nat) (ha : a < r.length) (x : Int), x ∈ pre ∨ x ∈ r.take a → befZ (rd_T65 ops r[a]) (rd_T65 ops x) = false) → timeZ ops pre r = true
  | [], _, _ => rfl
  | y :: r, pre, h => by
    have hin : ∀ l : List Int, (∀ x ∈ l, x ∈ pre) → innerZ ops (rd_T65 ops y) l = true := by
      intro l hl
      induction l with
      | nil => rfl
      | cons z l ih =>
        have hz := h 0 (by simp) z (.inl (hl z (by simp)))
        simp only [List.getElem_cons_zero] at hz
        rw [innerZ, hz, if_neg (by simp)]
        exact ih (fun x hx => hl x (by simp [hx]))
    rw [timeZ, if_pos (hin pre (fun _ h => h))]
    refine timeZ_of ops r (pre ++ [y]) (fun a ha x hx => ?_)
    refine h (a + 1) (by simpa using ha) x ?_
    rcases hx with hx | hx
    · rcases List.mem_append.mp hx with q | q
      · exact .inl q
      · exact .inr (by simp only [List.mem_singleton] at q; simp [q])
    · exact .inr (by simp [hx])
theorem timeZ_false (ops : List S65) (o : List Int) (i k : Nat) (hik : i < k) (hk : k < o.length) (h : befZ (rd_T65 ops (rd o k)) (rd_T65 ops (rd o i)) = true) : timeZ ops [] o = false := by
  cases q : timeZ ops [] o with
  | false => rfl
  | true =>
    have := timeZ_get ops o [] q k hk (rd o i) (.inr (List.mem_iff_getElem.mpr ⟨i, by rw [List.length_take]; omega, by rw [rd_get o i (by omega)]; simp⟩))
    rw [← rd_get o k hk, h] at this
    cases this
theorem timeZ_true (ops : List S65) (o : List Int) (h : ∀ i k : Nat, i < k → k < o.length → befZ (rd_T65 ops (rd o k)) (rd_T65 ops (rd o i)) = false) : timeZ ops [] o = true := by
  refine timeZ_of ops o [] (fun a ha x hx => ?_)
  rcases hx with hx | hx
  · simp at hx
  · obtain ⟨i, hi, e⟩ := List.mem_iff_getElem.mp hx
    rw [List.length_take] at hi
    have := h i a (by omega) ha
    rw [rd_get o a ha, rd_get o i (by omega)] at this
    simp at e
    rw [e] at this
    exact this
theorem cut_to0 (W : World) (A : Option Addr) (n c i : Nat) (h : i ≤ n) (hc : n ≤ c) : (Instr.slice 56 (.slice A n c) none (some (.int .i64 (i : Int))) none).run Try.prog W = .ok (.slice A i c) W := by
  obtain ⟨i0, hi0, _, hsz, _⟩ := info_parts or_info3
  have e := cut_to (P := Try.prog) 56 3 .i64 Try.underlying56 hi0 A n c (i : Int) (by omega) (by omega) hc
  simpa using e W
theorem op_cellsD {w : World} {A : Option Addr} {n : Nat} {xs : List S65} (h : Kd.C k65 w A n xs) (i : Int) (h0 : 0 ≤ i) (h1 : i < n) : ∃ ad, A = some ad ∧ ∀ W_ : World, Below w.heap.size w W_ → (W_.cell? ⟨(ad.add (i.toNat * 7)).block, (ad.add (i.toNat * 7)).off + 3, none⟩ = some (.bool (rd_T65 xs i).f3) ∧ W_.cell? ⟨(ad.add (i.toNat * 7)).block, (ad.add (i.toNat * 7)).off + 5, none⟩ = some (.int .i64 (rd_T65 xs i).f5) ∧ W_.cell? ⟨(ad.add (i.toNat * 7)).block, (ad.add (i.toNat * 7)).off + 6, none⟩ = some (.int .i64 (rd_T65 xs i).f6)) := by
  obtain ⟨ad, e, x0, x1, x2, x3, x4, x5, x6⟩ := at_T65 h i h0 h1
  exact ⟨ad, e, fun W_ hb => ⟨(hb.cell (World.block_lt_of_cell? w _ x3)).trans x3, (hb.cell (World.block_lt_of_cell? w _ x5)).trans x5, (hb.cell (World.block_lt_of_cell? w _ x6)).trans x6⟩⟩
theorem op_cells7 {w : World} {A : Option Addr} {n : Nat} {xs : List S65} (h : Kd.C k65 w A n xs) (i : Int) (h0 : 0 ≤ i) (h1 : i < n) : ∃ ad, A = some ad ∧ ∀ W_ : World, Below w.heap.size w W_ → (W_.cell? (ad.add (i.toNat * 7)) = some (.int .i64 (rd_T65 xs i).f0) ∧ W_.cell? ⟨(ad.add (i.toNat * 7)).block, (ad.add (i.toNat * 7)).off + 1, none⟩ = some (.int .i64 (rd_T65 xs i).f1) ∧ W_.cell? ⟨(ad.add (i.toNat * 7)).block, (ad.add (i.toNat * 7)).off + 2, none⟩ = some (.int .i64 (rd_T65 xs i).f2) ∧ W_.cell? ⟨(ad.add (i.toNat * 7)).block, (ad.add (i.toNat * 7)).off + 3, none⟩ = some (.bool (rd_T65 xs i).f3) ∧ W_.cell? ⟨(ad.add (i.toNat * 7)).block, (ad.add (i.toNat * 7)).off + 4, none⟩ = some (.int .i64 (rd_T65 xs i).f4) ∧ W_.cell? ⟨(ad.add (i.toNat * 7)).block, (ad.add (i.toNat * 7)).off + 5, none⟩ = some (.int .i64 (rd_T65 xs i).f5) ∧ W_.cell? ⟨(ad.add (i.toNat * 7)).block, (ad.add (i.toNat * 7)).off + 6, none⟩ = some (.int .i64 (rd_T65 xs i).f6)) := by
  obtain ⟨ad, e, x0, x1, x2, x3, x4, x5, x6⟩ := at_T65 h i h0 h1
  exact ⟨ad, e, fun W_ hb => ⟨(hb.cell (World.block_lt_of_cell? w _ x0)).trans x0, (hb.cell (World.block_lt_of_cell? w _ x1)).trans x1, (hb.cell (World.block_lt_of_cell? w _ x2)).trans x2, (hb.cell (World.block_lt_of_cell? w _ x3)).trans x3, (hb.cell (World.block_lt_of_cell? w _ x4)).trans x4, (hb.cell (World.block_lt_of_cell? w _ x5)).trans x5, (hb.cell (World.block_lt_of_cell? w _ x6)).trans x6⟩⟩
set_option maxRecDepth 100000 in
set_option maxHeartbeats 8000000 in
theorem r17_Check (A0 A2 A3 : Option Addr) (c0 c2 c3 : Nat) (L : List S36) (fuel : Int) (ops : List S65) (o : List Int) (w : World) (hC0 : Kd.C k36 w A0 L.length L) (hc0 : L.length ≤ c0) (hL : L.length ≤ 300) (hC2 : Kd.C k65 w A2 ops.length ops) (hC3 : Kd.C (Kd.int .i64) w A3 o.length o) (hc3 : o.length ≤ c3) (ho : o.length ≤ 1000) (hco : ∀ i : Int, 0 ≤ i → i < (L.length : Int) → inR (rd_T36 L i).f1) (hop : ∀ i : Int, 0 ≤ i → i < (ops.length : Int) → inR (rd_T65 ops i).f1 ∧ inR (rd_T65 ops i).f2) :
    Calls Try.prog 34 #[.slice A0 L.length c0, .int .i64 fuel, .slice A2 ops.length c2, .slice A3 o.length c3] w fun e w' => e = .returned (.int .i64 (ordC L fuel ops o)) ∧ Below w.heap.size w w' := by
  have hK : Aside0 (inquestref15_Check.f L = some ((thru L).2.1, (thru L).2.2)) := ⟨r15_Check L hL⟩
  replace hC0 := Aside0.mk hC0
  replace hC2 := Aside0.mk hC2
  replace hC3 := Aside0.mk hC3
  replace hco := Aside0.mk hco
  replace hop := Aside0.mk hop
  replace ho := Aside0.mk ho
  replace hL := Aside0.mk hL
  replace hc3 := Aside0.mk hc3
  by_cases ht : (thru L).2.2 = 0
  rotate_left
  · have hb0 : ((thru L).2.2 != 0) = true := by simpa using ht
    have hz := Aside0.mk (show ordC L fuel ops o = (thru L).2.2 by unfold ordC; rw [if_pos ht])
    clear ht
    go_enter Try.func34, Try.ntmps34
    go_wp2_with (first | (go_at_call 24; (with_reducible refine (inquestref15_Check.calls A0 c0 L (thru L).2.1 (thru L).2.2 _ hC0.out hc0 hK.out).mono ?_); rintro e W1 ⟨rfl, hB1⟩; replace hB1 := Aside0.mk hB1))
    go_ret
    exact ⟨by rw [hz.out] <;> rfl, hB1.out⟩
  have hb0 : ((thru L).2.2 != 0) = false := by simpa using ht
  by_cases hf1 : fuel < 0
  · have hb1 : decide (fuel < 0) = true := decide_eq_true hf1
    have hz := Aside0.mk (show ordC L fuel ops o = 2 by unfold ordC; rw [if_neg (fun q => q ht), if_pos (.inl hf1)])
    clear ht hf1
    go_enter Try.func34, Try.ntmps34
    go_wp2_with (first | (go_at_call 24; (with_reducible refine (inquestref15_Check.calls A0 c0 L (thru L).2.1 (thru L).2.2 _ hC0.out hc0 hK.out).mono ?_); rintro e W1 ⟨rfl, hB1⟩; replace hB1 := Aside0.mk hB1))
    go_ret
    exact ⟨by rw [hz.out] <;> rfl, hB1.out⟩
  have hb1 : decide (fuel < 0) = false := decide_eq_false hf1
  by_cases hf2 : 10000 < fuel
  · have hb2 : decide (10000 < fuel) = true := decide_eq_true hf2
    have hz := Aside0.mk (show ordC L fuel ops o = 2 by unfold ordC; rw [if_neg (fun q => q ht), if_pos (.inr hf2)])
    clear ht hf1 hf2
    go_enter Try.func34, Try.ntmps34
    go_wp2_with (first | (go_at_call 24; (with_reducible refine (inquestref15_Check.calls A0 c0 L (thru L).2.1 (thru L).2.2 _ hC0.out hc0 hK.out).mono ?_); rintro e W1 ⟨rfl, hB1⟩; replace hB1 := Aside0.mk hB1))
    go_ret
    exact ⟨by rw [hz.out] <;> rfl, hB1.out⟩
  have hb2 : decide (10000 < fuel) = false := decide_eq_false hf2
  by_cases hn : 64 < ops.length
  · have hb3 : decide (64 < (ops.length : Int)) = true := decide_eq_true (by omega)
    have hz := Aside0.mk (show ordC L fuel ops o = 5 by unfold ordC; rw [if_neg (fun q => q ht), if_neg (by omega), if_pos hn])
    clear ht hf1 hf2 hn
    go_enter Try.func34, Try.ntmps34
    go_wp2_with (first | (go_at_call 24; (with_reducible refine (inquestref15_Check.calls A0 c0 L (thru L).2.1 (thru L).2.2 _ hC0.out hc0 hK.out).mono ?_); rintro e W1 ⟨rfl, hB1⟩; replace hB1 := Aside0.mk hB1))
    go_ret
    exact ⟨by rw [hz.out] <;> rfl, hB1.out⟩
  have hb3 : decide (64 < (ops.length : Int)) = false := decide_eq_false (by omega)
  have hz : ordC L fuel ops o = if placeZ ops o (List.replicate ops.length false) ≠ 0 then placeZ ops o (List.replicate ops.length false) else if timeZ ops [] o = false then 17 else ordZ L ops fuel o [0, 0, 0, 0] := by
    unfold ordC; rw [if_neg (fun q => q ht), if_neg (by omega), if_neg hn]
  have hf : Aside0 (0 ≤ fuel ∧ fuel ≤ 10000) := ⟨by omega⟩
  have hn64 : Aside0 (ops.length ≤ 64) := ⟨by omega⟩
  have hM0 := Aside0.mk (markI_zero ops.length o)
  replace hz := Aside0.mk hz
  replace ht := Aside0.mk ht
  clear hf1 hf2 hn
  go_enter Try.func34, Try.ntmps34
  go_wp2_with (first | (go_at_call 24; (with_reducible refine (inquestref15_Check.calls A0 c0 L (thru L).2.1 (thru L).2.2 _ hC0.out hc0 hK.out).mono ?_); rintro e W1 ⟨rfl, hB1⟩; replace hB1 := Aside0.mk hB1))
  clear hb1 hb2 hb3
  go_loopg [11] o.length (fun kk v11 W => ∃ (i : Nat) (s : List Bool), v11 = .int .i64 i ∧ Aside0 (kk + i = o.length) ∧ Aside0 (MarkI ops.length o i s) ∧ Aside0 (placeZ ops (o.drop i) s = placeZ ops o (List.replicate ops.length false)) ∧ Aside0 (Below W1.heap.size W1 W))
  case atStart => exact ⟨0, _, rfl, ⟨by omega⟩, hM0, ⟨by rw [List.drop_zero]⟩, ⟨Below.refl _ _⟩⟩
  case round =>
    obtain ⟨i, s, rfl, hki, hM, hp, hBW⟩ := hrel
    cases gk with
    | succ j =>
      have hi : Aside0 (i < o.length) := ⟨by have := hki.out; omega⟩
      have hlt : decide ((i : Int) < (o.length : Int)) = true := decide_eq_true (by have := hi.out; omega)
      have hlt2 : i < o.length := hi.out
      have hi0 : decide (0 ≤ (i : Int)) = true := decide_eq_true (by omega)
      obtain ⟨ad3, e3, hc3a⟩ := Kd.at_int (Kd.C_below (Kd.C_below hC3.out hB1.out) hBW.out) (i : Int) (by omega) (by have := hi.out; omega)
      cases e3
      have hpd := hp.out
      rw [rd_drop o i hi.out, placeZ] at hpd
      obtain ⟨ix, hixe⟩ : ∃ x, x = rd o (i : Int) := ⟨_, rfl⟩
      rw [← hixe] at hpd hc3a
      simp only [Int.toNat_natCast] at hc3a
      replace hixe := Aside0.mk hixe
      by_cases h1 : ix < 0
      · have q1 : decide (ix < 0) = true := decide_eq_true h1
        have hz2 : Aside0 (ordC L fuel ops o = 2) := ⟨by rw [hz.out, show placeZ ops o (List.replicate ops.length false) = 2 by rw [← hpd, if_neg (by omega)]]; rfl⟩
        clear hpd h1
        go_wp2
        go_quiet (fail)
        go_wp2
        go_ret
        exact ⟨by rw [hz2.out]; rfl, below_step hB1.out (by first | exact hBW.out | exact pw_below_drewN hBW.out _ | exact hBW.out.drew)⟩
      have q1 : decide (ix < 0) = false := decide_eq_false h1
      by_cases h2 : (ops.length : Int) ≤ ix
      · have q2 : decide ((ops.length : Int) ≤ ix) = true := decide_eq_true h2
        have hz2 : Aside0 (ordC L fuel ops o = 2) := ⟨by rw [hz.out, show placeZ ops o (List.replicate ops.length false) = 2 by rw [← hpd, if_neg (by omega)]]; rfl⟩
        clear hpd h1 h2
        go_wp2
        go_quiet (fail)
        go_wp2
        go_ret
        exact ⟨by rw [hz2.out]; rfl, below_step hB1.out (by first | exact hBW.out | exact pw_below_drewN hBW.out _ | exact hBW.out.drew)⟩
      have q2 : decide ((ops.length : Int) ≤ ix) = false := decide_eq_false h2
      have hct : Aside0 (∀ m : Nat, Calls Try.prog 61 #[.slice (some ad3) i c3, .int .i64 ix] (wr.drewN m) fun e w' => e = .returned (.int .i64 (cntZ (o.take i) ix)) ∧ ∃ m', w' = wr.drewN m') := ⟨fun m => by
        have hl : (o.take i).length = i := by rw [List.length_take]; have := hi.out; omega
        have hC := Kd.C_take (m := i) (Kd.C_below (Kd.C_below hC3.out hB1.out) hBW.out) (by have := hi.out; omega)
        have h := r17_count (some ad3) c3 (o.take i) ix (wr.drewN m) (Kd.C_drewN hC m) (by have := hc3.out; have := hi.out; omega) (by have := ho.out; have := hi.out; omega)
        rw [hl] at h
        exact h.mono (fun e w' hh => by obtain ⟨h1, m', rfl⟩ := hh; exact ⟨h1, m + m', by first | rfl | simp [World.drewN, Nat.add_assoc]⟩)⟩
      have hmem := cntZ_mem (o.take i) ix
      obtain ⟨cn, hcn⟩ : ∃ x, x = cntZ (o.take i) ix := ⟨_, rfl⟩
      rw [← hcn] at hmem hct
      have hmk := hM.out.2 ix.toNat (by omega)
      rw [show ((ix.toNat : Nat) : Int) = ix by omega] at hmk
      replace hcn := Aside0.mk hcn
      have hcut := fun W : World => cut_to0 W (some ad3) o.length c3 i (Nat.le_of_lt hi.out) hc3.out
      by_cases h3 : 0 < cn
      · have q3 : decide (0 < cn) = true := decide_eq_true h3
        have hz2 : Aside0 (ordC L fuel ops o = 2) := ⟨by rw [hz.out, show placeZ ops o (List.replicate ops.length false) = 2 by rw [← hpd, if_neg (by rintro ⟨_, _, e⟩; rw [hmk.mpr (hmem.mp h3)] at e; cases e)]]; rfl⟩
        clear hpd h1 h2 h3 hmem hmk
        go_wp2
        go_quiet ((go_at_call 61; exact hct.out _))
        go_wp2
        go_ret
        exact ⟨by rw [hz2.out]; rfl, below_step hB1.out (by first | exact hBW.out | exact pw_below_drewN hBW.out _ | exact hBW.out.drew)⟩
      have q3 : decide (0 < cn) = false := decide_eq_false h3
      have hp2 : Aside0 (placeZ ops (o.drop (i + 1)) (s.set ix.toNat true) = placeZ ops o (List.replicate ops.length false)) := ⟨by rw [← hpd, if_pos ⟨by omega, by omega, by cases q : rdOf false s ix with | false => rfl | true => exact absurd (hmem.mpr (hmk.mp q)) h3⟩]⟩
      have hM2 : Aside0 (MarkI ops.length o (i + 1) (s.set ix.toNat true)) := ⟨by have := markI_step hM.out hi.out (by rw [← hixe.out]; omega); rw [← hixe.out] at this; exact this⟩
      clear hpd h1 h2 h3 hmem hmk
      go_wp2
      go_quiet ((go_at_call 61; exact hct.out _))
      go_wp2
      go_roundg j
      case measure => omega
      case rel => exact ⟨i + 1, _, by have a1 := hi.out; have a2 := ho.out; rw [w64 (by omega) (by omega)]; simp, ⟨by have := hki.out; omega⟩, hM2, hp2, ⟨by first | exact hBW.out | exact pw_below_drewN hBW.out _ | exact hBW.out.drew⟩⟩
    | zero =>
      obtain rfl : i = o.length := by have := hki.out; omega
      have hlt : decide ((o.length : Int) < (o.length : Int)) = false := decide_eq_false (by omega)
      have hpe : placeZ ops o (List.replicate ops.length false) = if doneZ s ops 0 = true then 0 else 9 := by rw [← hp.out, List.drop_eq_nil_of_le (Nat.le_refl _)]; rfl
      replace hpe := Aside0.mk hpe
      have hmk : Aside0 (∀ j : Nat, j < ops.length → (rdOf false s (j : Int) = true ↔ (j : Int) ∈ o)) := ⟨fun j hj => by have := hM.out.2 j hj; rwa [List.take_of_length_le (Nat.le_refl _)] at this⟩
      clear hp hM
      go_wp2
      go_loopg [12] ops.length (fun kk v12 W => ∃ (i : Nat), v12 = .int .i64 i ∧ Aside0 (kk + i = ops.length) ∧ Aside0 (doneZ s (ops.drop i) i = doneZ s ops 0) ∧ Aside0 (Below W1.heap.size W1 W))
      case atStart => exact ⟨0, rfl, ⟨by omega⟩, ⟨by rw [List.drop_zero]⟩, hBW⟩
      case round =>
        obtain ⟨i, rfl, hki, hdz, hBW⟩ := hrel
        cases gk with
        | succ j =>
          have hi : Aside0 (i < ops.length) := ⟨by have := hki.out; omega⟩
          have hlt : decide ((i : Int) < (ops.length : Int)) = true := decide_eq_true (by have := hi.out; omega)
          have hlt2 : i < ops.length := hi.out
          have hi0 : decide (0 ≤ (i : Int)) = true := decide_eq_true (by omega)
          obtain ⟨ad2, e2, hops⟩ := op_cellsD (Kd.C_below (Kd.C_below hC2.out hB1.out) hBW.out) (i : Int) (by omega) (by have := hi.out; omega)
          cases e2
          obtain ⟨z3, z5, z6⟩ := hops wr (Below.refl _ _)
          clear z5 z6 hops
          simp only [Int.toNat_natCast] at z3
          obtain ⟨p, hp⟩ : ∃ x, x = rd_T65 ops (i : Int) := ⟨_, rfl⟩
          have hdd := hdz.out
          rw [op_drop ops i hi.out, doneZ, ← hp] at hdd
          rw [← hp] at z3
          replace hp := Aside0.mk hp
          have hmem := cntZ_mem o (i : Int)
          have hnn := cntZ_nn o (i : Int)
          obtain ⟨cn, hcn⟩ : ∃ x, x = cntZ o (i : Int) := ⟨_, rfl⟩
          rw [← hcn] at hmem hnn
          have hmi := hmk.out i hi.out
          replace hcn := Aside0.mk hcn
          by_cases hd : p.f3 = true
          · rw [hd] at z3
            by_cases h3 : cn = 0
            · have q3 : (cn == 0) = true := by simpa using h3
              have hrf : rdOf false s (i : Int) = false := by cases q : rdOf false s (i : Int) with | false => rfl | true => exact absurd (hmem.mpr (hmi.mp q)) (by omega)
              rw [if_pos ⟨hd, hrf⟩] at hdd
              have hz2 : Aside0 (ordC L fuel ops o = 9) := ⟨by rw [hz.out, hpe.out, ← hdd]; rfl⟩
              clear hdd h3 hmem hnn hmi hrf hd
              go_wp2_with (first | (go_at_call 61; (with_reducible refine (r17_count A3 c3 o (i : Int) _ (Kd.C_below (Kd.C_below hC3.out hB1.out) hBW.out) hc3.out ho.out).mono ?_); rw [← hcn.out]; rintro e W5 ⟨rfl, ⟨nd, rfl⟩⟩))
              go_ret
              exact ⟨by rw [hz2.out] <;> rfl, below_step hB1.out (by first | exact hBW.out | exact pw_below_drewN hBW.out _ | exact hBW.out.drew)⟩
            · have q3 : (cn == 0) = false := by simpa using h3
              have hrt : rdOf false s (i : Int) = true := hmi.mpr (hmem.mp (by omega))
              rw [if_neg (by rintro ⟨_, e⟩; rw [hrt] at e; cases e)] at hdd
              replace hdd := Aside0.mk hdd
              clear h3 hmem hnn hmi hrt hd
              go_wp2_with (first | (go_at_call 61; (with_reducible refine (r17_count A3 c3 o (i : Int) _ (Kd.C_below (Kd.C_below hC3.out hB1.out) hBW.out) hc3.out ho.out).mono ?_); rw [← hcn.out]; rintro e W5 ⟨rfl, ⟨nd, rfl⟩⟩))
              go_roundg j
              case measure => omega
              case rel => exact ⟨i + 1, by have a1 := hi.out; have a2 := hn64.out; rw [w64 (by omega) (by omega)]; simp, ⟨by have := hki.out; omega⟩, hdd, ⟨by first | exact hBW.out | exact pw_below_drewN hBW.out _ | exact hBW.out.drew⟩⟩
          · have hdf : p.f3 = false := by simpa using hd
            rw [hdf] at z3
            rw [if_neg (by rintro ⟨e, _⟩; exact hd e)] at hdd
            replace hdd := Aside0.mk hdd
            clear hmem hnn hmi hd hdf
            go_wp2_with (first | (go_at_call 61; (with_reducible refine (r17_count A3 c3 o (i : Int) _ (Kd.C_below (Kd.C_below hC3.out hB1.out) hBW.out) hc3.out ho.out).mono ?_); rw [← hcn.out]; rintro e W5 ⟨rfl, ⟨nd, rfl⟩⟩))
            go_roundg j
            case measure => omega
            case rel => exact ⟨i + 1, by have a1 := hi.out; have a2 := hn64.out; rw [w64 (by omega) (by omega)]; simp, ⟨by have := hki.out; omega⟩, hdd, ⟨by first | exact hBW.out | exact pw_below_drewN hBW.out _ | exact hBW.out.drew⟩⟩
        | zero =>
          obtain rfl : i = ops.length := by have := hki.out; omega
          have hlt2 : decide ((ops.length : Int) < (ops.length : Int)) = false := decide_eq_false (by omega)
          have hdt : doneZ s ops 0 = true := by rw [← hdz.out, List.drop_eq_nil_of_le (Nat.le_refl _)]; rfl
          have hp0 : placeZ ops o (List.replicate ops.length false) = 0 := by rw [hpe.out, if_pos hdt]
          have hx := Aside0.mk (placeZ_in ops o _ (show placeZ ops o (List.replicate ops.length false) ≠ 2 by rw [hp0]; decide))
          have hz1 : Aside0 (ordC L fuel ops o = if timeZ ops [] o = false then 17 else ordZ L ops fuel o [0, 0, 0, 0]) := ⟨by rw [hz.out, if_neg (fun q => q hp0)]⟩
          clear hdt hp0 hpe hmk hdz
          go_wp2
          go_loopg [13] o.length (fun kk v13 W => ∃ (i : Nat), v13 = .int .i64 i ∧ Aside0 (kk + i = o.length) ∧ Aside0 (∀ a k : Nat, a < i → a < k → k < o.length → befZ (rd_T65 ops (rd o k)) (rd_T65 ops (rd o a)) = false) ∧ Aside0 (Below W1.heap.size W1 W))
          case atStart => exact ⟨0, rfl, ⟨by omega⟩, ⟨fun a k h => by omega⟩, hBW⟩
          case round =>
            obtain ⟨i, rfl, hki, hno, hBW⟩ := hrel
            cases gk with
            | zero =>
              obtain rfl : i = o.length := by have := hki.out; omega
              have hlt3 : decide ((o.length : Int) < (o.length : Int)) = false := decide_eq_false (by omega)
              have hz2 : Aside0 (ordC L fuel ops o = ordZ L ops fuel o [0, 0, 0, 0]) := ⟨by rw [hz1.out, timeZ_true ops o (fun a k h1 h2 => hno.out a k (by omega) h1 h2), if_neg (by simp)]⟩
              go_wp2_with (first | (go_at_call 63; (with_reducible refine (r17_does A0 A2 A3 0 c0 c2 c3 L fuel ops o 0 0 0 0 _ (Kd.C_below (Kd.C_below hC0.out hB1.out) hBW.out) hc0 hL.out (Kd.C_below (Kd.C_below hC2.out hB1.out) hBW.out) (Kd.C_below (Kd.C_below hC3.out hB1.out) hBW.out) ho.out ht.out hf.out hx.out hco.out hop.out (by intro x hx_; simp only [List.mem_cons, List.not_mem_nil, or_false, or_self] at hx_; subst hx_; simp [inR])).mono ?_); rintro e W9 ⟨rfl, hB9⟩; replace hB9 := Aside0.mk hB9))
              go_ret
              exact ⟨by rw [hz2.out] <;> rfl, below_step hB1.out (below_step hBW.out hB9.out)⟩
            | succ j =>
              have hi : Aside0 (i < o.length) := ⟨by have := hki.out; omega⟩
              have hlt3 : decide ((i : Int) < (o.length : Int)) = true := decide_eq_true (by have := hi.out; omega)
              have hlt4 : i < o.length := hi.out
              go_wp2
              go_loopg [14] (o.length - (i + 1)) (fun kk v14 W => ∃ (k : Nat), v14 = .int .i64 k ∧ Aside0 (kk + k = o.length) ∧ Aside0 (i < k) ∧ Aside0 (∀ k' : Nat, i < k' → k' < k → befZ (rd_T65 ops (rd o k')) (rd_T65 ops (rd o i)) = false) ∧ Aside0 (Below W1.heap.size W1 W))
              case atStart => exact ⟨i + 1, by have a1 := hi.out; have a2 := ho.out; rw [w64 (by omega) (by omega)]; simp, ⟨by have := hi.out; omega⟩, ⟨by omega⟩, ⟨fun k' h1 h2 => by omega⟩, hBW⟩
              case round =>
                obtain ⟨k, rfl, hkk, hik, hnk, hBW⟩ := hrel
                cases gk with
                | zero =>
                  obtain rfl : k = o.length := by have := hkk.out; omega
                  have hlt5 : decide ((o.length : Int) < (o.length : Int)) = false := decide_eq_false (by omega)
                  go_wp2
                  go_roundg j
                  case measure => omega
                  case rel => exact ⟨i + 1, by have a1 := hi.out; have a2 := ho.out; rw [w64 (by omega) (by omega)]; simp, ⟨by have := hki.out; omega⟩, ⟨fun a k h1 h2 h3 => if q : a = i then by subst q; exact hnk.out k h2 h3 else hno.out a k (by omega) h2 h3⟩, hBW⟩
                | succ j2 =>
                  have hk : Aside0 (k < o.length) := ⟨by have := hkk.out; omega⟩
                  have hlt5 : decide ((k : Int) < (o.length : Int)) = true := decide_eq_true (by have := hk.out; omega)
                  have hlt6 : k < o.length := hk.out
                  have hi0 : decide (0 ≤ (i : Int)) = true := decide_eq_true (by omega)
                  have hk0 : decide (0 ≤ (k : Int)) = true := decide_eq_true (by omega)
                  obtain ⟨ad3, e3, hcA⟩ := Kd.at_int (Kd.C_below (Kd.C_below hC3.out hB1.out) hBW.out) (i : Int) (by omega) (by have := hi.out; omega)
                  cases e3
                  obtain ⟨ad4, e4, hcB⟩ := Kd.at_int (Kd.C_below (Kd.C_below hC3.out hB1.out) hBW.out) (k : Int) (by omega) (by have := hk.out; omega)
                  cases e4
                  have hxi := hx.out _ (rd_mem o i hi.out)
                  have hxk := hx.out _ (rd_mem o k hk.out)
                  obtain ⟨ix, hixe⟩ : ∃ x, x = rd o (i : Int) := ⟨_, rfl⟩
                  obtain ⟨kx, hkxe⟩ : ∃ x, x = rd o (k : Int) := ⟨_, rfl⟩
                  rw [← hixe] at hxi hcA
                  rw [← hkxe] at hxk hcB
                  simp only [Int.toNat_natCast] at hcA hcB
                  obtain ⟨ad2, e2, hoI⟩ := op_cells7 (Kd.C_below (Kd.C_below hC2.out hB1.out) hBW.out) ix hxi.1 hxi.2
                  cases e2
                  obtain ⟨ad5, e5, hoK⟩ := op_cells7 (Kd.C_below (Kd.C_below hC2.out hB1.out) hBW.out) kx hxk.1 hxk.2
                  cases e5
                  obtain ⟨pi, hpi⟩ : ∃ x, x = rd_T65 ops ix := ⟨_, rfl⟩
                  obtain ⟨pk, hpk⟩ : ∃ x, x = rd_T65 ops kx := ⟨_, rfl⟩
                  rw [← hpi] at hoI
                  rw [← hpk] at hoK
                  have hb17 : Aside0 (befZ pk pi = true → ordC L fuel ops o = 17) := ⟨fun hb => by rw [hz1.out, timeZ_false ops o i k hik.out hk.out (by rw [← hixe, ← hkxe, ← hpi, ← hpk]; exact hb), if_pos rfl]⟩
                  have hbno : Aside0 (befZ pk pi = false → ∀ k' : Nat, i < k' → k' < k + 1 → befZ (rd_T65 ops (rd o k')) (rd_T65 ops (rd o i)) = false) := ⟨fun hb k' h1 h2 => if q : k' = k then by subst q; rw [← hixe, ← hkxe, ← hpi, ← hpk]; exact hb else hnk.out k' h1 (by omega)⟩
                  have hcAW : Aside0 (∀ W_ : World, Below wr.heap.size wr W_ → W_.cell? (ad3.add i) = some (.int .i64 ix)) := ⟨fun W_ hb => (hb.cell (World.block_lt_of_cell? wr _ hcA)).trans hcA⟩
                  have hcBW : Aside0 (∀ W_ : World, Below wr.heap.size wr W_ → W_.cell? (ad3.add k) = some (.int .i64 kx)) := ⟨fun W_ hb => (hb.cell (World.block_lt_of_cell? wr _ hcB)).trans hcB⟩
                  replace hoI := Aside0.mk hoI
                  replace hoK := Aside0.mk hoK
                  replace hxi := Aside0.mk hxi
                  replace hxk := Aside0.mk hxk
                  replace hixe := Aside0.mk hixe
                  replace hkxe := Aside0.mk hkxe
                  replace hpi := Aside0.mk hpi
                  replace hpk := Aside0.mk hpk
                  obtain ⟨bq, hbq⟩ : ∃ x, x = befZ pk pi := ⟨_, rfl⟩
                  rw [← hbq] at hb17 hbno
                  replace hbq := Aside0.mk hbq
                  clear hcA hcB
                  go_wp2
                  refine region_by (fun b us W_ => Below wr.heap.size wr W_) (by kernel_rfl) (by kernel_rfl) ⟨fun _ => undef, below_drew (Below.refl _ _)⟩ ?_
                  (refine rb_want (fun us => rfl) ?_; apply Exists.intro; apply And.intro; (focus (apply rb_pure; (focus (intro b us w h; exact h)); intro b us W_ hC; go_simp; rfl)); apply Exists.intro; apply And.intro; (focus (intro us; simp only [Act.put, List.setIfInBounds_toArray, List.set_cons_zero, List.set_cons_succ]; rfl)))
                  (refine rb_want (fun us => rfl) ?_; apply Exists.intro; apply And.intro; (focus (apply rb_pure; (focus (intro b us w h; exact h)); intro b us W_ hC; go_simp; rfl)); apply Exists.intro; apply And.intro; (focus (intro us; simp only [Act.put, List.setIfInBounds_toArray, List.set_cons_zero, List.set_cons_succ]; rfl)))
                  (refine rb_want (fun us => rfl) ?_; apply Exists.intro; apply And.intro; (focus (apply rb_pure; (focus (intro b us w h; exact h)); intro b us W_ hC; go_simp; rfl)); apply Exists.intro; apply And.intro; (focus (intro us; simp only [Act.put, List.setIfInBounds_toArray, List.set_cons_zero, List.set_cons_succ]; rfl)))
                  (refine rb_want (fun us => rfl) ?_; apply Exists.intro; apply And.intro; (focus (apply rb_pure; (focus (intro b us w h; exact h)); intro b us W_ hC; have q := hlt6; go_simp; rfl)); apply Exists.intro; apply And.intro; (focus (intro us; simp only [Act.put, List.setIfInBounds_toArray, List.set_cons_zero, List.set_cons_succ]; rfl)))
                  (refine rb_want (fun us => rfl) ?_; apply Exists.intro; apply And.intro; (focus (apply rb_pure; (focus (intro b us w h; exact h)); intro b us W_ hC; have q := hcBW.out W_ hC; go_simp; rfl)); apply Exists.intro; apply And.intro; (focus (intro us; simp only [Act.put, List.setIfInBounds_toArray, List.set_cons_zero, List.set_cons_succ]; rfl)))
                  (refine rb_want (fun us => rfl) ?_; apply Exists.intro; apply And.intro; (focus (apply rb_pure; (focus (intro b us w h; exact h)); intro b us W_ hC; have qq := hxk.out; obtain ⟨qa, qb⟩ := qq; go_simp; rfl)); apply Exists.intro; apply And.intro; (focus (intro us; simp only [Act.put, List.setIfInBounds_toArray, List.set_cons_zero, List.set_cons_succ]; rfl)))
                  (refine rb_want (fun us => rfl) ?_; apply Exists.intro; apply And.intro; (focus (apply rb_pure; (focus (intro b us w h; exact h)); intro b us W_ hC; have y := hoK.out W_ hC; obtain ⟨y0, y1, y2, y3, y4, y5, y6⟩ := y; go_simp; rfl)); apply Exists.intro; apply And.intro; (focus (intro us; simp only [Act.put, List.setIfInBounds_toArray, List.set_cons_zero, List.set_cons_succ]; rfl)))
                  (refine rb_want (fun us => rfl) ?_; apply Exists.intro; apply And.intro; (focus (apply rb_pure; (focus (intro b us w h; exact h)); intro b us W_ hC; go_simp; rfl)); apply Exists.intro; apply And.intro; (focus (intro us; simp only [Act.put, List.setIfInBounds_toArray, List.set_cons_zero, List.set_cons_succ]; rfl)))
                  (refine rb_want (fun us => rfl) ?_; apply Exists.intro; apply And.intro; (focus (apply rb_pure; (focus (intro b us w h; exact h)); intro b us W_ hC; go_simp; rfl)); apply Exists.intro; apply And.intro; (focus (intro us; simp only [Act.put, List.setIfInBounds_toArray, List.set_cons_zero, List.set_cons_succ]; rfl)))
                  (refine rb_want (fun us => rfl) ?_; apply Exists.intro; apply And.intro; (focus (apply rb_pure; (focus (intro b us w h; exact h)); intro b us W_ hC; go_simp; rfl)); apply Exists.intro; apply And.intro; (focus (intro us; simp only [Act.put, List.setIfInBounds_toArray, List.set_cons_zero, List.set_cons_succ]; rfl)))
                  (refine rb_want (fun us => rfl) ?_; apply Exists.intro; apply And.intro; (focus (apply rb_pure; (focus (intro b us w h; exact h)); intro b us W_ hC; have q := hlt4; go_simp; rfl)); apply Exists.intro; apply And.intro; (focus (intro us; simp only [Act.put, List.setIfInBounds_toArray, List.set_cons_zero, List.set_cons_succ]; rfl)))
                  (refine rb_want (fun us => rfl) ?_; apply Exists.intro; apply And.intro; (focus (apply rb_pure; (focus (intro b us w h; exact h)); intro b us W_ hC; have q := hcAW.out W_ hC; go_simp; rfl)); apply Exists.intro; apply And.intro; (focus (intro us; simp only [Act.put, List.setIfInBounds_toArray, List.set_cons_zero, List.set_cons_succ]; rfl)))
                  (refine rb_want (fun us => rfl) ?_; apply Exists.intro; apply And.intro; (focus (apply rb_pure; (focus (intro b us w h; exact h)); intro b us W_ hC; have qq := hxi.out; obtain ⟨qa, qb⟩ := qq; go_simp; rfl)); apply Exists.intro; apply And.intro; (focus (intro us; simp only [Act.put, List.setIfInBounds_toArray, List.set_cons_zero, List.set_cons_succ]; rfl)))
                  (refine rb_want (fun us => rfl) ?_; apply Exists.intro; apply And.intro; (focus (apply rb_pure; (focus (intro b us w h; exact h)); intro b us W_ hC; have y := hoI.out W_ hC; obtain ⟨y0, y1, y2, y3, y4, y5, y6⟩ := y; go_simp; rfl)); apply Exists.intro; apply And.intro; (focus (intro us; simp only [Act.put, List.setIfInBounds_toArray, List.set_cons_zero, List.set_cons_succ]; rfl)))
                  (refine rb_want (fun us => rfl) ⟨.bool bq, rb_call (f := 62) (args := fun us => #[.agg #[.int .i64 pk.f0, .int .i64 pk.f1, .int .i64 pk.f2, .bool pk.f3, .int .i64 pk.f4, .int .i64 pk.f5, .int .i64 pk.f6], .agg #[.int .i64 pi.f0, .int .i64 pi.f1, .int .i64 pi.f2, .bool pi.f3, .int .i64 pi.f4, .int .i64 pi.f5, .int .i64 pi.f6]]) (fun us W_ => ?_) (fun b us W_ hb hon hC => ?_), ?_⟩; (focus (exact rb_enters Try.func62 (by kernel_rfl) rfl (by rfl) W_)); (focus (rw [hbq.out]; refine (r14_bef pk pi W_).mono ?_; rintro e w1 ⟨rfl, hbw⟩; exact ⟨rfl, below_step hC hbw⟩)); apply Exists.intro; apply And.intro; (focus (intro us; simp only [Act.put, List.setIfInBounds_toArray, List.set_cons_zero, List.set_cons_succ]; rfl)))
                  refine rb_done (fun b us W8 hall hC => ?_)
                  have hB8 := Aside0.mk hC
                  clear hC hall
                  try dsimp only
                  clear us b
                  cases bq with
                  | true =>
                    have hz2 := Aside0.mk (hb17.out rfl)
                    go_wp2
                    go_ret
                    exact ⟨by rw [hz2.out] <;> rfl, below_step hB1.out (below_step hBW.out hB8.out)⟩
                  | false =>
                    go_wp2
                    go_roundg j2
                    case measure => omega
                    case rel => exact ⟨k + 1, by have a1 := hk.out; have a2 := ho.out; rw [w64 (by omega) (by omega)]; simp, ⟨by have := hkk.out; omega⟩, ⟨by have := hik.out; omega⟩, ⟨hbno.out (by first | exact rfl | trivial | simp)⟩, ⟨below_step hBW.out hB8.out⟩⟩
theorem alike_l0 (l : List S65) (hl : l.length ≤ 1000) (d : Nat) : ∀ i : Nat, l.length - i = d → i ≤ l.length → Ev (fun k => inquestref14_Alike.l0 k l l i) true := by
  induction d with
  | zero =>
    intro i hd hi
    refine Ev.step (f := fun _ => some true) (fun k => ?_) (Ev.now _)
    simp only [inquestref14_Alike.l0]; rw [if_neg (by omega)]
  | succ d ih =>
    intro i hd hi
    refine Ev.step (fun k => ?_) (ih (i + 1) (by omega) (by omega))
    simp only [inquestref14_Alike.l0]; rw [if_pos (by omega), if_pos (by omega), if_pos (by omega), if_neg (by simp), w64 (by omega) (by omega)]; rfl
theorem ints_l0 (l : List Int) (hl : l.length ≤ 1000) (d : Nat) : ∀ i : Nat, l.length - i = d → i ≤ l.length → Ev (fun k => inquestref15_Ints.l0 k l l i) true := by
  induction d with
  | zero =>
    intro i hd hi
    refine Ev.step (f := fun _ => some true) (fun k => ?_) (Ev.now _)
    simp only [inquestref15_Ints.l0]; rw [if_neg (by omega)]
  | succ d ih =>
    intro i hd hi
    refine Ev.step (fun k => ?_) (ih (i + 1) (by omega) (by omega))
    simp only [inquestref15_Ints.l0]; rw [if_pos (by omega), if_pos (by omega), if_pos (by omega), if_pos trivial, w64 (by omega) (by omega)]; rfl
theorem alike_ex (l : List S65) (hl : l.length ≤ 1000) : ∃ k, inquestref14_Alike.f k l l = some true := by
  obtain ⟨k, h⟩ := Ev.rounds (alike_l0 l hl _ 0 rfl (by omega)); exact ⟨k, by unfold inquestref14_Alike.f; rw [if_pos rfl]; exact h⟩
theorem ints_ex (l : List Int) (hl : l.length ≤ 1000) : ∃ k, inquestref15_Ints.f k l l = some true := by
  obtain ⟨k, h⟩ := Ev.rounds (ints_l0 l hl _ 0 rfl (by omega)); exact ⟨k, by unfold inquestref15_Ints.f; rw [if_pos rfl]; exact h⟩
theorem op_in (ops : List S65) (h : ∀ x ∈ ops, (Lit.int .i64 x.f0).wf = true ∧ (Lit.int .i64 x.f1).wf = true ∧ (Lit.int .i64 x.f2).wf = true ∧ (Lit.int .i64 x.f4).wf = true ∧ (Lit.int .i64 x.f5).wf = true ∧ (Lit.int .i64 x.f6).wf = true) (i : Int) (h0 : 0 ≤ i) (h1 : i < (ops.length : Int)) : inR (rd_T65 ops i).f1 ∧ inR (rd_T65 ops i).f2 := by
  have hm : rd_T65 ops i ∈ ops := by
    unfold rd_T65
    rw [List.getD_eq_getElem?_getD, List.getElem?_eq_getElem (by omega)]
    exact List.getElem_mem _
  have := h _ hm
  exact ⟨inR_wf this.2.1, inR_wf this.2.2.1⟩
set_option maxRecDepth 100000 in
set_option maxHeartbeats 8000000 in
theorem inquestlaw17_OrderChecks.any (A : Option Addr) (cap : Nat) (l : List S36) (fuel : Int) (A2 : Option Addr) (c2 : Nat) (ops0 : List S65) (A3 : Option Addr) (c3 : Nat) (o0 : List Int) (w : World) (hr : Kd.C k36 w A l.length l) (hc : l.length ≤ cap) (hm : l.length ≤ maxLen) (hw : ∀ x ∈ l, (Lit.int .i64 x.f0).wf = true ∧ (Lit.int .i64 x.f1).wf = true) {P1 : Prop} (_ : P1) (hr2 : Kd.C k65 w A2 ops0.length ops0) (hc2 : ops0.length ≤ c2) {P3 : Prop} (_ : P3) (hw2 : ∀ x ∈ ops0, (Lit.int .i64 x.f0).wf = true ∧ (Lit.int .i64 x.f1).wf = true ∧ (Lit.int .i64 x.f2).wf = true ∧ (Lit.int .i64 x.f4).wf = true ∧ (Lit.int .i64 x.f5).wf = true ∧ (Lit.int .i64 x.f6).wf = true) (hr3 : Kd.C (Kd.int .i64) w A3 o0.length o0) (hc3 : o0.length ≤ c3) {P5 : Prop} (_ : P5) {P6 : Prop} (_ : P6) :
    Calls Try.prog 10 #[.slice A l.length cap, .int .i64 fuel, .slice A2 ops0.length c2, .slice A3 o0.length c3] w fun e w' => e = .returned (.bool true) ∧ Below w.heap.size w w' := by
  have hF := Aside0.mk (few15 l hm)
  have hF2 := Aside0.mk (few17 ops0 70 (by decide) (by decide))
  have hL2 : (l.take 210).length ≤ 210 := by rw [List.length_take]; omega
  have hP2 : (ops0.take (70 : Int).toNat).length ≤ 70 := by rw [List.length_take]; exact Nat.min_le_left _ _
  have hO2 : (o0.take (80 : Int).toNat).length ≤ 80 := by rw [List.length_take]; exact Nat.min_le_left _ _
  have hI := Aside0.mk (fun (W : World) (h : Kd.C (Kd.int .i64) W A3 o0.length o0) => ord_Ints A3 c3 o0 80 W h hc3 (by decide) (by decide))
  have hco := Aside0.mk (rd_in (l.take 210) (fun x hx => hw x (List.mem_of_mem_take hx)))
  have hop := Aside0.mk (op_in (ops0.take (70 : Int).toNat) (fun x hx => hw2 x (List.mem_of_mem_take hx)))
  clear hw hw2
  generalize l.take 210 = L at *
  generalize ops0.take (70 : Int).toNat = ops at *
  generalize o0.take (80 : Int).toNat = o at *
  have hFb : Aside0 (inquestref15_Few.f L = some L) := ⟨by have h := few15 L (by unfold maxLen; omega); rwa [List.take_of_length_le hL2] at h⟩
  have hF2b : Aside0 (inquestref17_Few.f ops 70 = some ops) := ⟨by have h := few17 ops 70 (by decide) (by decide); rwa [List.take_of_length_le (show ops.length ≤ (70 : Int).toNat from hP2)] at h⟩
  have hIb := Aside0.mk (fun (Ax : Option Addr) (cx : Nat) (W : World) (h : Kd.C (Kd.int .i64) W Ax o.length o) (hcx : o.length ≤ cx) => (by have q := ord_Ints Ax cx o 80 W h hcx (by decide) (by decide); rwa [List.take_of_length_le (show o.length ≤ (80 : Int).toNat from hO2)] at q : Calls Try.prog 32 #[.slice Ax o.length cx, .int .i64 80] W fun e w' => ∃ v, e = .returned v ∧ Kd.R (Kd.int .i64) 3 w' W.heap.size (fun _ => True) v o ∧ Below W.heap.size W w'))
  have hL3 : Aside0 (L.length ≤ 300) := ⟨by omega⟩
  have hO3 : Aside0 (o.length ≤ 1000) := ⟨by omega⟩
  obtain ⟨ks, hks⟩ := Ev.rounds (same15_t L L (by omega) rfl)
  obtain ⟨ka, hka⟩ := alike_ex ops (by omega)
  obtain ⟨ki, hki⟩ := ints_ex o (by omega)
  replace hks := Aside0.mk hks
  replace hka := Aside0.mk hka
  replace hki := Aside0.mk hki
  replace hr := Aside0.mk hr
  replace hr2 := Aside0.mk hr2
  replace hr3 := Aside0.mk hr3
  clear hL2 hP2 hO2 hm
  by_cases h1 : 2000 < fuel
  · have b1 : decide (2000 < fuel) = true := decide_eq_true h1
    by_cases h2 : fuel ≤ 10000
    · have b2 : decide (fuel ≤ 10000) = true := decide_eq_true h2
      obtain ⟨a, ha⟩ : ∃ a, a = ordC L 2000 ops o := ⟨_, rfl⟩
      replace ha := Aside0.mk ha
      clear h1 h2
      go_enter Try.func10, Try.ntmps10
      go_wp2_with (first | (go_at_call 22; (with_reducible refine (inquestref15_Few.calls A cap l L _ hr.out hc hF.out).mono ?_); rintro e W1 ⟨vF, rfl, hRF, hB1⟩; obtain ⟨AF, cF, rfl⟩ := Kd.R_slice hRF; obtain ⟨_, hcF, hCF⟩ := Kd.R_reads' hRF; replace hCF := Aside0.mk hCF; replace hB1 := Aside0.mk hB1; replace hcF := Aside0.mk hcF; clear hRF) | (go_at_call 31; (with_reducible refine (inquestref17_Few.calls A2 c2 ops0 70 ops _ (Kd.C_below hr2.out hB1.out) hc2 hF2.out).mono ?_); rintro e W2 ⟨vG, rfl, hRG, hB2⟩; obtain ⟨AG, cG, rfl⟩ := Kd.R_slice hRG; obtain ⟨_, hcG, hCG⟩ := Kd.R_reads' hRG; replace hCG := Aside0.mk hCG; replace hB2 := Aside0.mk hB2; replace hcG := Aside0.mk hcG; clear hRG) | (go_at_call 32; (with_reducible refine (hI.out _ (Kd.C_below (Kd.C_below hr3.out hB1.out) hB2.out)).mono ?_); rintro e W3 ⟨vH, rfl, hRH, hB3⟩; obtain ⟨AH, cH, rfl⟩ := Kd.R_slice hRH; obtain ⟨_, hcH, hCH⟩ := Kd.R_reads' hRH; have hB03 := Aside0.mk (below_step (below_step hB1.out hB2.out) hB3); have hCF3 := Aside0.mk (Kd.C_below (Kd.C_below hCF.out hB2.out) hB3); have hCG3 := Aside0.mk (Kd.C_below hCG.out hB3); replace hCH := Aside0.mk hCH; replace hcH := Aside0.mk hcH; clear hRH hB3) | (go_at_call 22; (with_reducible refine (inquestref15_Few.calls AF cF L L _ hCF3.out hcF.out hFb.out).mono ?_); rintro e W4 ⟨vF2, rfl, hRF2, hB4⟩; obtain ⟨BF, dF, rfl⟩ := Kd.R_slice hRF2; obtain ⟨_, hdF, hCF2⟩ := Kd.R_reads' hRF2; replace hCF2 := Aside0.mk hCF2; replace hB4 := Aside0.mk hB4; replace hdF := Aside0.mk hdF; clear hRF2) | (go_at_call 31; (with_reducible refine (inquestref17_Few.calls AG cG ops 70 ops _ (Kd.C_below hCG3.out hB4.out) hcG.out hF2b.out).mono ?_); rintro e W5 ⟨vG2, rfl, hRG2, hB5⟩; obtain ⟨BG, dG, rfl⟩ := Kd.R_slice hRG2; obtain ⟨_, hdG, hCG2⟩ := Kd.R_reads' hRG2; replace hCG2 := Aside0.mk hCG2; replace hB5 := Aside0.mk hB5; replace hdG := Aside0.mk hdG; clear hRG2) | (go_at_call 32; (with_reducible refine (hIb.out AH cH _ (Kd.C_below (Kd.C_below hCH.out hB4.out) hB5.out) hcH.out).mono ?_); rintro e W6 ⟨vH2, rfl, hRH2, hB6⟩; obtain ⟨BH, dH, rfl⟩ := Kd.R_slice hRH2; obtain ⟨_, hdH, hCH2⟩ := Kd.R_reads' hRH2; have hB06 := Aside0.mk (below_step (below_step (below_step hB03.out hB4.out) hB5.out) hB6); have k1 := Aside0.mk (Kd.C_below (Kd.C_below (Kd.C_below hCF3.out hB4.out) hB5.out) hB6); have k2 := Aside0.mk (Kd.C_below (Kd.C_below (Kd.C_below hCG3.out hB4.out) hB5.out) hB6); have k3 := Aside0.mk (Kd.C_below (Kd.C_below (Kd.C_below hCH.out hB4.out) hB5.out) hB6); have k4 := Aside0.mk (Kd.C_below (Kd.C_below hCF2.out hB5.out) hB6); have k5 := Aside0.mk (Kd.C_below hCG2.out hB6); have k6 := Aside0.mk hCH2; replace hdH := Aside0.mk hdH; clear hRH2 hCH2 hB6) | (go_at_call 33; (with_reducible refine (ord_Check BF BG BH dF dG dH L 2000 ops o _ k4.out hdF.out hL3.out k5.out hdG.out k6.out hdH.out hO3.out).mono ?_); rw [← ha.out]; rintro e W7 ⟨rfl, hB7⟩; replace hB7 := Aside0.mk hB7) | (go_at_call 34; (with_reducible refine (r17_Check AF AG AH cF cG cH L 2000 ops o _ (Kd.C_below k1.out hB7.out) hcF.out hL3.out (Kd.C_below k2.out hB7.out) (Kd.C_below k3.out hB7.out) hcH.out hO3.out hco.out hop.out).mono ?_); rw [← ha.out]; rintro e W8 ⟨rfl, hB8⟩; replace hB8 := Aside0.mk hB8) | (go_at_call 25; (with_reducible refine (inquestref15_Same.calls ks BF dF L AF cF L true _ (by (with_reducible repeat (first | apply Kd.C_drewN | apply Kd.C_drew)); exact Kd.C_below (Kd.C_below k4.out hB7.out) hB8.out) hdF.out (by (with_reducible repeat (first | apply Kd.C_drewN | apply Kd.C_drew)); exact Kd.C_below (Kd.C_below k1.out hB7.out) hB8.out) hcF.out hks.out).mono ?_); rintro e WS ⟨rfl, ⟨n1, rfl⟩⟩) | (go_at_call 35; (with_reducible refine (inquestref14_Alike.calls ka BG dG ops AG cG ops true _ (by (with_reducible repeat (first | apply Kd.C_drewN | apply Kd.C_drew)); exact Kd.C_below (Kd.C_below k5.out hB7.out) hB8.out) hdG.out (by (with_reducible repeat (first | apply Kd.C_drewN | apply Kd.C_drew)); exact Kd.C_below (Kd.C_below k2.out hB7.out) hB8.out) hcG.out hka.out).mono ?_); rintro e WS ⟨rfl, ⟨n2, rfl⟩⟩) | (go_at_call 36; (with_reducible refine (inquestref15_Ints.calls ki BH dH o AH cH o true _ (by (with_reducible repeat (first | apply Kd.C_drewN | apply Kd.C_drew)); exact Kd.C_below (Kd.C_below k6.out hB7.out) hB8.out) hdH.out (by (with_reducible repeat (first | apply Kd.C_drewN | apply Kd.C_drew)); exact Kd.C_below (Kd.C_below k3.out hB7.out) hB8.out) hcH.out hki.out).mono ?_); rintro e WS ⟨rfl, ⟨n3, rfl⟩⟩) | (go_at_call 37; (with_reducible refine (ord_lives _).mono ?_); rintro e WZ ⟨rfl, hBZ⟩; replace hBZ := Aside0.mk hBZ))
      go_ret
      exact ⟨rfl, below_step (below_step (below_step hB06.out hB7.out) hB8.out) (below_step (by repeat (first | exact Below.refl _ _ | apply pw_below_drewN)) hBZ.out)⟩
    · have b2 : decide (fuel ≤ 10000) = false := decide_eq_false h2
      obtain ⟨a, ha⟩ : ∃ a, a = ordC L fuel ops o := ⟨_, rfl⟩
      replace ha := Aside0.mk ha
      clear h1 h2
      go_enter Try.func10, Try.ntmps10
      go_wp2_with (first | (go_at_call 22; (with_reducible refine (inquestref15_Few.calls A cap l L _ hr.out hc hF.out).mono ?_); rintro e W1 ⟨vF, rfl, hRF, hB1⟩; obtain ⟨AF, cF, rfl⟩ := Kd.R_slice hRF; obtain ⟨_, hcF, hCF⟩ := Kd.R_reads' hRF; replace hCF := Aside0.mk hCF; replace hB1 := Aside0.mk hB1; replace hcF := Aside0.mk hcF; clear hRF) | (go_at_call 31; (with_reducible refine (inquestref17_Few.calls A2 c2 ops0 70 ops _ (Kd.C_below hr2.out hB1.out) hc2 hF2.out).mono ?_); rintro e W2 ⟨vG, rfl, hRG, hB2⟩; obtain ⟨AG, cG, rfl⟩ := Kd.R_slice hRG; obtain ⟨_, hcG, hCG⟩ := Kd.R_reads' hRG; replace hCG := Aside0.mk hCG; replace hB2 := Aside0.mk hB2; replace hcG := Aside0.mk hcG; clear hRG) | (go_at_call 32; (with_reducible refine (hI.out _ (Kd.C_below (Kd.C_below hr3.out hB1.out) hB2.out)).mono ?_); rintro e W3 ⟨vH, rfl, hRH, hB3⟩; obtain ⟨AH, cH, rfl⟩ := Kd.R_slice hRH; obtain ⟨_, hcH, hCH⟩ := Kd.R_reads' hRH; have hB03 := Aside0.mk (below_step (below_step hB1.out hB2.out) hB3); have hCF3 := Aside0.mk (Kd.C_below (Kd.C_below hCF.out hB2.out) hB3); have hCG3 := Aside0.mk (Kd.C_below hCG.out hB3); replace hCH := Aside0.mk hCH; replace hcH := Aside0.mk hcH; clear hRH hB3) | (go_at_call 22; (with_reducible refine (inquestref15_Few.calls AF cF L L _ hCF3.out hcF.out hFb.out).mono ?_); rintro e W4 ⟨vF2, rfl, hRF2, hB4⟩; obtain ⟨BF, dF, rfl⟩ := Kd.R_slice hRF2; obtain ⟨_, hdF, hCF2⟩ := Kd.R_reads' hRF2; replace hCF2 := Aside0.mk hCF2; replace hB4 := Aside0.mk hB4; replace hdF := Aside0.mk hdF; clear hRF2) | (go_at_call 31; (with_reducible refine (inquestref17_Few.calls AG cG ops 70 ops _ (Kd.C_below hCG3.out hB4.out) hcG.out hF2b.out).mono ?_); rintro e W5 ⟨vG2, rfl, hRG2, hB5⟩; obtain ⟨BG, dG, rfl⟩ := Kd.R_slice hRG2; obtain ⟨_, hdG, hCG2⟩ := Kd.R_reads' hRG2; replace hCG2 := Aside0.mk hCG2; replace hB5 := Aside0.mk hB5; replace hdG := Aside0.mk hdG; clear hRG2) | (go_at_call 32; (with_reducible refine (hIb.out AH cH _ (Kd.C_below (Kd.C_below hCH.out hB4.out) hB5.out) hcH.out).mono ?_); rintro e W6 ⟨vH2, rfl, hRH2, hB6⟩; obtain ⟨BH, dH, rfl⟩ := Kd.R_slice hRH2; obtain ⟨_, hdH, hCH2⟩ := Kd.R_reads' hRH2; have hB06 := Aside0.mk (below_step (below_step (below_step hB03.out hB4.out) hB5.out) hB6); have k1 := Aside0.mk (Kd.C_below (Kd.C_below (Kd.C_below hCF3.out hB4.out) hB5.out) hB6); have k2 := Aside0.mk (Kd.C_below (Kd.C_below (Kd.C_below hCG3.out hB4.out) hB5.out) hB6); have k3 := Aside0.mk (Kd.C_below (Kd.C_below (Kd.C_below hCH.out hB4.out) hB5.out) hB6); have k4 := Aside0.mk (Kd.C_below (Kd.C_below hCF2.out hB5.out) hB6); have k5 := Aside0.mk (Kd.C_below hCG2.out hB6); have k6 := Aside0.mk hCH2; replace hdH := Aside0.mk hdH; clear hRH2 hCH2 hB6) | (go_at_call 33; (with_reducible refine (ord_Check BF BG BH dF dG dH L fuel ops o _ k4.out hdF.out hL3.out k5.out hdG.out k6.out hdH.out hO3.out).mono ?_); rw [← ha.out]; rintro e W7 ⟨rfl, hB7⟩; replace hB7 := Aside0.mk hB7) | (go_at_call 34; (with_reducible refine (r17_Check AF AG AH cF cG cH L fuel ops o _ (Kd.C_below k1.out hB7.out) hcF.out hL3.out (Kd.C_below k2.out hB7.out) (Kd.C_below k3.out hB7.out) hcH.out hO3.out hco.out hop.out).mono ?_); rw [← ha.out]; rintro e W8 ⟨rfl, hB8⟩; replace hB8 := Aside0.mk hB8) | (go_at_call 25; (with_reducible refine (inquestref15_Same.calls ks BF dF L AF cF L true _ (by (with_reducible repeat (first | apply Kd.C_drewN | apply Kd.C_drew)); exact Kd.C_below (Kd.C_below k4.out hB7.out) hB8.out) hdF.out (by (with_reducible repeat (first | apply Kd.C_drewN | apply Kd.C_drew)); exact Kd.C_below (Kd.C_below k1.out hB7.out) hB8.out) hcF.out hks.out).mono ?_); rintro e WS ⟨rfl, ⟨n1, rfl⟩⟩) | (go_at_call 35; (with_reducible refine (inquestref14_Alike.calls ka BG dG ops AG cG ops true _ (by (with_reducible repeat (first | apply Kd.C_drewN | apply Kd.C_drew)); exact Kd.C_below (Kd.C_below k5.out hB7.out) hB8.out) hdG.out (by (with_reducible repeat (first | apply Kd.C_drewN | apply Kd.C_drew)); exact Kd.C_below (Kd.C_below k2.out hB7.out) hB8.out) hcG.out hka.out).mono ?_); rintro e WS ⟨rfl, ⟨n2, rfl⟩⟩) | (go_at_call 36; (with_reducible refine (inquestref15_Ints.calls ki BH dH o AH cH o true _ (by (with_reducible repeat (first | apply Kd.C_drewN | apply Kd.C_drew)); exact Kd.C_below (Kd.C_below k6.out hB7.out) hB8.out) hdH.out (by (with_reducible repeat (first | apply Kd.C_drewN | apply Kd.C_drew)); exact Kd.C_below (Kd.C_below k3.out hB7.out) hB8.out) hcH.out hki.out).mono ?_); rintro e WS ⟨rfl, ⟨n3, rfl⟩⟩) | (go_at_call 37; (with_reducible refine (ord_lives _).mono ?_); rintro e WZ ⟨rfl, hBZ⟩; replace hBZ := Aside0.mk hBZ))
      go_ret
      exact ⟨rfl, below_step (below_step (below_step hB06.out hB7.out) hB8.out) (below_step (by repeat (first | exact Below.refl _ _ | apply pw_below_drewN)) hBZ.out)⟩
  · have b1 : decide (2000 < fuel) = false := decide_eq_false h1
    obtain ⟨a, ha⟩ : ∃ a, a = ordC L fuel ops o := ⟨_, rfl⟩
    replace ha := Aside0.mk ha
    clear h1
    go_enter Try.func10, Try.ntmps10
    go_wp2_with (first | (go_at_call 22; (with_reducible refine (inquestref15_Few.calls A cap l L _ hr.out hc hF.out).mono ?_); rintro e W1 ⟨vF, rfl, hRF, hB1⟩; obtain ⟨AF, cF, rfl⟩ := Kd.R_slice hRF; obtain ⟨_, hcF, hCF⟩ := Kd.R_reads' hRF; replace hCF := Aside0.mk hCF; replace hB1 := Aside0.mk hB1; replace hcF := Aside0.mk hcF; clear hRF) | (go_at_call 31; (with_reducible refine (inquestref17_Few.calls A2 c2 ops0 70 ops _ (Kd.C_below hr2.out hB1.out) hc2 hF2.out).mono ?_); rintro e W2 ⟨vG, rfl, hRG, hB2⟩; obtain ⟨AG, cG, rfl⟩ := Kd.R_slice hRG; obtain ⟨_, hcG, hCG⟩ := Kd.R_reads' hRG; replace hCG := Aside0.mk hCG; replace hB2 := Aside0.mk hB2; replace hcG := Aside0.mk hcG; clear hRG) | (go_at_call 32; (with_reducible refine (hI.out _ (Kd.C_below (Kd.C_below hr3.out hB1.out) hB2.out)).mono ?_); rintro e W3 ⟨vH, rfl, hRH, hB3⟩; obtain ⟨AH, cH, rfl⟩ := Kd.R_slice hRH; obtain ⟨_, hcH, hCH⟩ := Kd.R_reads' hRH; have hB03 := Aside0.mk (below_step (below_step hB1.out hB2.out) hB3); have hCF3 := Aside0.mk (Kd.C_below (Kd.C_below hCF.out hB2.out) hB3); have hCG3 := Aside0.mk (Kd.C_below hCG.out hB3); replace hCH := Aside0.mk hCH; replace hcH := Aside0.mk hcH; clear hRH hB3) | (go_at_call 22; (with_reducible refine (inquestref15_Few.calls AF cF L L _ hCF3.out hcF.out hFb.out).mono ?_); rintro e W4 ⟨vF2, rfl, hRF2, hB4⟩; obtain ⟨BF, dF, rfl⟩ := Kd.R_slice hRF2; obtain ⟨_, hdF, hCF2⟩ := Kd.R_reads' hRF2; replace hCF2 := Aside0.mk hCF2; replace hB4 := Aside0.mk hB4; replace hdF := Aside0.mk hdF; clear hRF2) | (go_at_call 31; (with_reducible refine (inquestref17_Few.calls AG cG ops 70 ops _ (Kd.C_below hCG3.out hB4.out) hcG.out hF2b.out).mono ?_); rintro e W5 ⟨vG2, rfl, hRG2, hB5⟩; obtain ⟨BG, dG, rfl⟩ := Kd.R_slice hRG2; obtain ⟨_, hdG, hCG2⟩ := Kd.R_reads' hRG2; replace hCG2 := Aside0.mk hCG2; replace hB5 := Aside0.mk hB5; replace hdG := Aside0.mk hdG; clear hRG2) | (go_at_call 32; (with_reducible refine (hIb.out AH cH _ (Kd.C_below (Kd.C_below hCH.out hB4.out) hB5.out) hcH.out).mono ?_); rintro e W6 ⟨vH2, rfl, hRH2, hB6⟩; obtain ⟨BH, dH, rfl⟩ := Kd.R_slice hRH2; obtain ⟨_, hdH, hCH2⟩ := Kd.R_reads' hRH2; have hB06 := Aside0.mk (below_step (below_step (below_step hB03.out hB4.out) hB5.out) hB6); have k1 := Aside0.mk (Kd.C_below (Kd.C_below (Kd.C_below hCF3.out hB4.out) hB5.out) hB6); have k2 := Aside0.mk (Kd.C_below (Kd.C_below (Kd.C_below hCG3.out hB4.out) hB5.out) hB6); have k3 := Aside0.mk (Kd.C_below (Kd.C_below (Kd.C_below hCH.out hB4.out) hB5.out) hB6); have k4 := Aside0.mk (Kd.C_below (Kd.C_below hCF2.out hB5.out) hB6); have k5 := Aside0.mk (Kd.C_below hCG2.out hB6); have k6 := Aside0.mk hCH2; replace hdH := Aside0.mk hdH; clear hRH2 hCH2 hB6) | (go_at_call 33; (with_reducible refine (ord_Check BF BG BH dF dG dH L fuel ops o _ k4.out hdF.out hL3.out k5.out hdG.out k6.out hdH.out hO3.out).mono ?_); rw [← ha.out]; rintro e W7 ⟨rfl, hB7⟩; replace hB7 := Aside0.mk hB7) | (go_at_call 34; (with_reducible refine (r17_Check AF AG AH cF cG cH L fuel ops o _ (Kd.C_below k1.out hB7.out) hcF.out hL3.out (Kd.C_below k2.out hB7.out) (Kd.C_below k3.out hB7.out) hcH.out hO3.out hco.out hop.out).mono ?_); rw [← ha.out]; rintro e W8 ⟨rfl, hB8⟩; replace hB8 := Aside0.mk hB8) | (go_at_call 25; (with_reducible refine (inquestref15_Same.calls ks BF dF L AF cF L true _ (by (with_reducible repeat (first | apply Kd.C_drewN | apply Kd.C_drew)); exact Kd.C_below (Kd.C_below k4.out hB7.out) hB8.out) hdF.out (by (with_reducible repeat (first | apply Kd.C_drewN | apply Kd.C_drew)); exact Kd.C_below (Kd.C_below k1.out hB7.out) hB8.out) hcF.out hks.out).mono ?_); rintro e WS ⟨rfl, ⟨n1, rfl⟩⟩) | (go_at_call 35; (with_reducible refine (inquestref14_Alike.calls ka BG dG ops AG cG ops true _ (by (with_reducible repeat (first | apply Kd.C_drewN | apply Kd.C_drew)); exact Kd.C_below (Kd.C_below k5.out hB7.out) hB8.out) hdG.out (by (with_reducible repeat (first | apply Kd.C_drewN | apply Kd.C_drew)); exact Kd.C_below (Kd.C_below k2.out hB7.out) hB8.out) hcG.out hka.out).mono ?_); rintro e WS ⟨rfl, ⟨n2, rfl⟩⟩) | (go_at_call 36; (with_reducible refine (inquestref15_Ints.calls ki BH dH o AH cH o true _ (by (with_reducible repeat (first | apply Kd.C_drewN | apply Kd.C_drew)); exact Kd.C_below (Kd.C_below k6.out hB7.out) hB8.out) hdH.out (by (with_reducible repeat (first | apply Kd.C_drewN | apply Kd.C_drew)); exact Kd.C_below (Kd.C_below k3.out hB7.out) hB8.out) hcH.out hki.out).mono ?_); rintro e WS ⟨rfl, ⟨n3, rfl⟩⟩) | (go_at_call 37; (with_reducible refine (ord_lives _).mono ?_); rintro e WZ ⟨rfl, hBZ⟩; replace hBZ := Aside0.mk hBZ))
    go_ret
    exact ⟨rfl, below_step (below_step (below_step hB06.out hB7.out) hB8.out) (below_step (by repeat (first | exact Below.refl _ _ | apply pw_below_drewN)) hBZ.out)⟩
end Go.Proofs.Ytddkoimaghcbeaa.PVmSteps
