/- A part of what the law LinWhole stands on, only as far as it is needed (the words and walks were printed or written in this seat; this text was cut by a program of this session, wip/bin/trim.py). No condition beyond what each theorem says. -/
import Derived.IntWalk
import Derived.StillTailTactics
import Derived.Deep.RegionHeld3
import Derived.Deep.QuietTactic
import Derived.BigQuiet
import Derived.Test.YtddkoimaghcbeaaZLWPVmStepsx0
import Derived.Test.YtddkoimaghcbeaaZLWPVmStepsx2
import Derived.Test.YtddkoimaghcbeaaZLWPVmStepsx3
import Derived.Test.YtddkoimaghcbeaaZLWPVmStepsx4
import Derived.Test.YtddkoimaghcbeaaZLWPVmStepsx5
import Derived.Test.YtddkoimaghcbeaaZLWTmpvmu
import Derived.Test.YtddkoimaghcbeaaZLWTmpvmq
import Derived.Test.YtddkoimaghcbeaaZLWTmporp
namespace Go.Proofs.Ytddkoimaghcbeaa.PVmSteps
open Go.RowKit Go.Proofs.YtddkoimaghcbeaaW.PrintWords Go.Proofs.YtddkoimaghcbeaaW.PrintLast Go.Proofs.YtddkoimaghcbeaaW.PrintMore
set_option linter.unusedVariables false
set_option linter.unusedSimpArgs false
set_option maxRecDepth 100000 in
set_option maxHeartbeats 4000000 in
theorem ord_new (A0 A2 A3 : Option Addr) (c0 c2 c3 : Nat) (L : List S36) (fuel : Int) (ops : List S65) (o : List Int) (w : World) (hC0 : Kd.C k36 w A0 L.length L) (hc0 : L.length ≤ c0) (hL : L.length ≤ 300) (hC2 : Kd.C k65 w A2 ops.length ops) (hc2 : ops.length ≤ c2) (hC3 : Kd.C (Kd.int .i64) w A3 o.length o) (hc3 : o.length ≤ c3) (ht : (thru L).2.2 ≠ 0) :
    Calls Try.prog 33 #[.slice A0 L.length c0, .int .i64 fuel, .slice A2 ops.length c2, .slice A3 o.length c3] w fun e w' => e = .returned (.int .i64 ((thru L).2.2)) ∧ Below w.heap.size w w' := by
  replace hC0 := Aside0.mk hC0
  replace hC2 := Aside0.mk hC2
  replace hC3 := Aside0.mk hC3
  replace hL := Aside0.mk hL
  have hb0 : ((thru L).2.2 != 0) = true := by simpa using ht
  replace ht := Aside0.mk ht
  go_enter Try.func33, Try.ntmps33
  go_wp2_with (first | (go_at_call 23; (with_reducible refine (vm_New_e A0 c0 L _ hC0.out hc0 hL.out ht.out).mono ?_); rintro e WM ⟨rfl, hBM⟩; replace hBM := Aside0.mk hBM))
  go_ret
  exact ⟨rfl, hBM.out⟩
set_option maxRecDepth 100000 in
set_option maxHeartbeats 4000000 in
theorem ord_fuel0 (A0 A2 A3 : Option Addr) (c0 c2 c3 : Nat) (L : List S36) (fuel : Int) (ops : List S65) (o : List Int) (w : World) (hC0 : Kd.C k36 w A0 L.length L) (hc0 : L.length ≤ c0) (hL : L.length ≤ 300) (hC2 : Kd.C k65 w A2 ops.length ops) (hc2 : ops.length ≤ c2) (hC3 : Kd.C (Kd.int .i64) w A3 o.length o) (hc3 : o.length ≤ c3) (ht : (thru L).2.2 = 0) (hf : fuel < 0) :
    Calls Try.prog 33 #[.slice A0 L.length c0, .int .i64 fuel, .slice A2 ops.length c2, .slice A3 o.length c3] w fun e w' => e = .returned (.int .i64 (2)) ∧ Below w.heap.size w w' := by
  replace hC0 := Aside0.mk hC0
  replace hC2 := Aside0.mk hC2
  replace hC3 := Aside0.mk hC3
  replace hL := Aside0.mk hL
  have hb1 : decide (fuel < 0) = true := decide_eq_true hf
  clear hf
  replace ht := Aside0.mk ht
  go_enter Try.func33, Try.ntmps33
  go_wp2_with (first | (go_at_call 23; (with_reducible refine (vm_New_k A0 c0 L _ hC0.out hc0 hL.out ht.out).mono ?_); rintro e WM ⟨gm, vM, rfl, hM, hBM⟩; replace hM := Aside0.mk hM; replace hBM := Aside0.mk hBM))
  go_ret
  exact ⟨rfl, hBM.out⟩
set_option maxRecDepth 100000 in
set_option maxHeartbeats 4000000 in
theorem ord_fuel1 (A0 A2 A3 : Option Addr) (c0 c2 c3 : Nat) (L : List S36) (fuel : Int) (ops : List S65) (o : List Int) (w : World) (hC0 : Kd.C k36 w A0 L.length L) (hc0 : L.length ≤ c0) (hL : L.length ≤ 300) (hC2 : Kd.C k65 w A2 ops.length ops) (hc2 : ops.length ≤ c2) (hC3 : Kd.C (Kd.int .i64) w A3 o.length o) (hc3 : o.length ≤ c3) (ht : (thru L).2.2 = 0) (hf : 10000 < fuel) :
    Calls Try.prog 33 #[.slice A0 L.length c0, .int .i64 fuel, .slice A2 ops.length c2, .slice A3 o.length c3] w fun e w' => e = .returned (.int .i64 (2)) ∧ Below w.heap.size w w' := by
  replace hC0 := Aside0.mk hC0
  replace hC2 := Aside0.mk hC2
  replace hC3 := Aside0.mk hC3
  replace hL := Aside0.mk hL
  have hb1 : decide (fuel < 0) = false := decide_eq_false (by omega)
  have hb2 : decide (10000 < fuel) = true := decide_eq_true hf
  clear hf
  replace ht := Aside0.mk ht
  go_enter Try.func33, Try.ntmps33
  go_wp2_with (first | (go_at_call 23; (with_reducible refine (vm_New_k A0 c0 L _ hC0.out hc0 hL.out ht.out).mono ?_); rintro e WM ⟨gm, vM, rfl, hM, hBM⟩; replace hM := Aside0.mk hM; replace hBM := Aside0.mk hBM))
  go_ret
  exact ⟨rfl, hBM.out⟩
set_option maxRecDepth 100000 in
set_option maxHeartbeats 4000000 in
theorem ord_big (A0 A2 A3 : Option Addr) (c0 c2 c3 : Nat) (L : List S36) (fuel : Int) (ops : List S65) (o : List Int) (w : World) (hC0 : Kd.C k36 w A0 L.length L) (hc0 : L.length ≤ c0) (hL : L.length ≤ 300) (hC2 : Kd.C k65 w A2 ops.length ops) (hc2 : ops.length ≤ c2) (hC3 : Kd.C (Kd.int .i64) w A3 o.length o) (hc3 : o.length ≤ c3) (ht : (thru L).2.2 = 0) (hf : 0 ≤ fuel ∧ fuel ≤ 10000) (ho : 64 < ops.length) :
    Calls Try.prog 33 #[.slice A0 L.length c0, .int .i64 fuel, .slice A2 ops.length c2, .slice A3 o.length c3] w fun e w' => e = .returned (.int .i64 (5)) ∧ Below w.heap.size w w' := by
  replace hC0 := Aside0.mk hC0
  replace hC2 := Aside0.mk hC2
  replace hC3 := Aside0.mk hC3
  replace hL := Aside0.mk hL
  have hb1 : decide (fuel < 0) = false := decide_eq_false (by omega)
  have hb2 : decide (10000 < fuel) = false := decide_eq_false (by omega)
  have hb3 : decide (64 < (ops.length : Int)) = true := decide_eq_true (by omega)
  clear hf ho
  replace ht := Aside0.mk ht
  go_enter Try.func33, Try.ntmps33
  go_wp2_with (first | (go_at_call 23; (with_reducible refine (vm_New_k A0 c0 L _ hC0.out hc0 hL.out ht.out).mono ?_); rintro e WM ⟨gm, vM, rfl, hM, hBM⟩; replace hM := Aside0.mk hM; replace hBM := Aside0.mk hBM))
  go_ret
  exact ⟨rfl, hBM.out⟩
set_option maxRecDepth 100000 in
set_option maxHeartbeats 4000000 in
theorem ord_place (A0 A2 A3 : Option Addr) (c0 c2 c3 : Nat) (L : List S36) (fuel : Int) (ops : List S65) (o : List Int) (w : World) (hC0 : Kd.C k36 w A0 L.length L) (hc0 : L.length ≤ c0) (hL : L.length ≤ 300) (hC2 : Kd.C k65 w A2 ops.length ops) (hc2 : ops.length ≤ c2) (hC3 : Kd.C (Kd.int .i64) w A3 o.length o) (hc3 : o.length ≤ c3) (ht : (thru L).2.2 = 0) (hf : 0 ≤ fuel ∧ fuel ≤ 10000) (ho : ops.length ≤ 64) (k : Nat) (p : Int) (hp : order_placed.f k ops o = some p) (hp0 : p ≠ 0) :
    Calls Try.prog 33 #[.slice A0 L.length c0, .int .i64 fuel, .slice A2 ops.length c2, .slice A3 o.length c3] w fun e w' => e = .returned (.int .i64 (p)) ∧ Below w.heap.size w w' := by
  replace hC0 := Aside0.mk hC0
  replace hC2 := Aside0.mk hC2
  replace hC3 := Aside0.mk hC3
  replace hL := Aside0.mk hL
  have hb1 : decide (fuel < 0) = false := decide_eq_false (by omega)
  have hb2 : decide (10000 < fuel) = false := decide_eq_false (by omega)
  have hb3 : decide (64 < (ops.length : Int)) = false := decide_eq_false (by omega)
  have hb4 : (p != 0) = true := by simpa using hp0
  clear hf ho hp0
  replace ht := Aside0.mk ht
  replace hp := Aside0.mk hp
  go_enter Try.func33, Try.ntmps33
  go_wp2_with (first | (go_at_call 23; (with_reducible refine (vm_New_k A0 c0 L _ hC0.out hc0 hL.out ht.out).mono ?_); rintro e WM ⟨gm, vM, rfl, hM, hBM⟩; replace hM := Aside0.mk hM; replace hBM := Aside0.mk hBM) | (go_at_call 59; (with_reducible refine (order_placed.calls k A2 c2 ops A3 c3 o p _ (Kd.C_below hC2.out hBM.out) hc2 (Kd.C_below hC3.out hBM.out) hc3 hp.out).mono ?_); rintro e WP ⟨rfl, hBP⟩; replace hBP := Aside0.mk hBP))
  go_ret
  exact ⟨rfl, below_step hBM.out hBP.out⟩
set_option maxRecDepth 100000 in
set_option maxHeartbeats 4000000 in
theorem ord_late (A0 A2 A3 : Option Addr) (c0 c2 c3 : Nat) (L : List S36) (fuel : Int) (ops : List S65) (o : List Int) (w : World) (hC0 : Kd.C k36 w A0 L.length L) (hc0 : L.length ≤ c0) (hL : L.length ≤ 300) (hC2 : Kd.C k65 w A2 ops.length ops) (hc2 : ops.length ≤ c2) (hC3 : Kd.C (Kd.int .i64) w A3 o.length o) (hc3 : o.length ≤ c3) (ht : (thru L).2.2 = 0) (hf : 0 ≤ fuel ∧ fuel ≤ 10000) (ho : ops.length ≤ 64) (k : Nat) (hp : order_placed.f k ops o = some 0) (hq : order_timely.f k ops o = some false) :
    Calls Try.prog 33 #[.slice A0 L.length c0, .int .i64 fuel, .slice A2 ops.length c2, .slice A3 o.length c3] w fun e w' => e = .returned (.int .i64 (17)) ∧ Below w.heap.size w w' := by
  replace hC0 := Aside0.mk hC0
  replace hC2 := Aside0.mk hC2
  replace hC3 := Aside0.mk hC3
  replace hL := Aside0.mk hL
  have hb1 : decide (fuel < 0) = false := decide_eq_false (by omega)
  have hb2 : decide (10000 < fuel) = false := decide_eq_false (by omega)
  have hb3 : decide (64 < (ops.length : Int)) = false := decide_eq_false (by omega)
  clear hf ho
  replace ht := Aside0.mk ht
  replace hp := Aside0.mk hp
  replace hq := Aside0.mk hq
  go_enter Try.func33, Try.ntmps33
  go_wp2_with (first | (go_at_call 23; (with_reducible refine (vm_New_k A0 c0 L _ hC0.out hc0 hL.out ht.out).mono ?_); rintro e WM ⟨gm, vM, rfl, hM, hBM⟩; replace hM := Aside0.mk hM; replace hBM := Aside0.mk hBM) | (go_at_call 59; (with_reducible refine (order_placed.calls k A2 c2 ops A3 c3 o 0 _ (Kd.C_below hC2.out hBM.out) hc2 (Kd.C_below hC3.out hBM.out) hc3 hp.out).mono ?_); rintro e WP ⟨rfl, hBP⟩; replace hBP := Aside0.mk hBP) | (go_at_call 60; (with_reducible refine (order_timely.calls k A2 c2 ops A3 c3 o false _ (Kd.C_below (Kd.C_below hC2.out hBM.out) hBP.out) hc2 (Kd.C_below (Kd.C_below hC3.out hBM.out) hBP.out) hc3 hq.out).mono ?_); rintro e WT ⟨rfl, hBT⟩; replace hBT := Aside0.mk hBT))
  go_ret
  exact ⟨rfl, below_step (below_step hBM.out hBP.out) hBT.out⟩
/-- What the operations of an order do, one by one, from a state: 0, ErrStep, ErrRet. -/
def ordZ (L : List S36) (ops : List S65) (fuel : Int) : List Int → List Int → Int
  | [], _ => 0
  | i :: o, cs => match vstep L cs (rd_T65 ops i).f1 (rd_T65 ops i).f2 fuel with
    | none => 0
    | some x => if x.1 = 1 then (if (rd_T65 ops i).f3 = true ∧ x.2.2.1 ≠ (rd_T65 ops i).f4 then 19 else ordZ L ops fuel o x.2.1) else 18
theorem ordZ_18 {L : List S36} {ops : List S65} {fuel i : Int} {o cs : List Int} {rk : Int} {rs : List Int} {rr ru : Int} (h : vstep L cs (rd_T65 ops i).f1 (rd_T65 ops i).f2 fuel = some (rk, rs, rr, ru)) (hk : rk ≠ 1) : ordZ L ops fuel (i :: o) cs = 18 := by
  simp only [ordZ, h, if_neg hk]
theorem ordZ_19 {L : List S36} {ops : List S65} {fuel i : Int} {o cs : List Int} {rs : List Int} {rr ru : Int} (h : vstep L cs (rd_T65 ops i).f1 (rd_T65 ops i).f2 fuel = some (1, rs, rr, ru)) (hd : (rd_T65 ops i).f3 = true) (hk : rr ≠ (rd_T65 ops i).f4) : ordZ L ops fuel (i :: o) cs = 19 := by
  simp only [ordZ, h]; rw [if_pos trivial, if_pos ⟨hd, hk⟩]
theorem ordZ_go {L : List S36} {ops : List S65} {fuel i : Int} {o cs : List Int} {rs : List Int} {rr ru : Int} (h : vstep L cs (rd_T65 ops i).f1 (rd_T65 ops i).f2 fuel = some (1, rs, rr, ru)) (hd : (rd_T65 ops i).f3 = false ∨ rr = (rd_T65 ops i).f4) : ordZ L ops fuel (i :: o) cs = ordZ L ops fuel o rs := by
  simp only [ordZ, h]; rw [if_pos trivial, if_neg (by rintro ⟨a, b⟩; rcases hd with e | e <;> simp_all)]
theorem op_cells {w : World} {A : Option Addr} {n : Nat} {xs : List S65} (h : Kd.C k65 w A n xs) (i : Int) (h0 : 0 ≤ i) (h1 : i < n) : ∃ ad, A = some ad ∧ ∀ W_ : World, Below w.heap.size w W_ → (W_.cell? ⟨(ad.add (i.toNat * 7)).block, (ad.add (i.toNat * 7)).off + 1, none⟩ = some (.int .i64 (rd_T65 xs i).f1) ∧ W_.cell? ⟨(ad.add (i.toNat * 7)).block, (ad.add (i.toNat * 7)).off + 2, none⟩ = some (.int .i64 (rd_T65 xs i).f2) ∧ W_.cell? ⟨(ad.add (i.toNat * 7)).block, (ad.add (i.toNat * 7)).off + 3, none⟩ = some (.bool (rd_T65 xs i).f3) ∧ W_.cell? ⟨(ad.add (i.toNat * 7)).block, (ad.add (i.toNat * 7)).off + 4, none⟩ = some (.int .i64 (rd_T65 xs i).f4)) := by
  obtain ⟨ad, e, x0, x1, x2, x3, x4, x5, x6⟩ := at_T65 h i h0 h1
  exact ⟨ad, e, fun W_ hb => ⟨(hb.cell (World.block_lt_of_cell? w _ x1)).trans x1, (hb.cell (World.block_lt_of_cell? w _ x2)).trans x2, (hb.cell (World.block_lt_of_cell? w _ x3)).trans x3, (hb.cell (World.block_lt_of_cell? w _ x4)).trans x4⟩⟩
theorem st_cells {WX : World} {g : Nat} {a b c d : Int} {T : Nat} (h : WX.heap[g]? = some (.cells #[.int .i64 a, .int .i64 b, .int .i64 c, .int .i64 d] T (0, 0))) (W_ : World) (hb : Below WX.heap.size WX W_) : W_.cell? ⟨g, 0, none⟩ = some (.int .i64 a) ∧ W_.cell? ⟨g, 1, none⟩ = some (.int .i64 b) ∧ W_.cell? ⟨g, 2, none⟩ = some (.int .i64 c) ∧ W_.cell? ⟨g, 3, none⟩ = some (.int .i64 d) := by
  have h2 := blk_below h hb
  exact ⟨blk_cell h2 0, blk_cell h2 1, blk_cell h2 2, blk_cell h2 3⟩
theorem st_put {W : World} {b T : Nat} {z0 z1 z2 z3 v0 v1 v2 v3 : Value} (h : W.heap[b]? = some (.cells #[z0, z1, z2, z3] T (0, 0))) :
    ((((W.setCell ⟨b, 0, none⟩ v0).setCell ⟨b, 1, none⟩ v1).setCell ⟨b, 2, none⟩ v2).setCell ⟨b, 3, none⟩ v3).heap[b]? = some (.cells #[v0, v1, v2, v3] T (0, 0)) := by
  have e := blk_set (blk_set (blk_set (blk_set h 0 v0) 1 v1) 2 v2) 3 v3
  simpa using e
set_option maxRecDepth 100000 in
set_option maxHeartbeats 4000000 in
theorem ord_go (A0 A2 A3 : Option Addr) (c0 c2 c3 : Nat) (L : List S36) (fuel : Int) (ops : List S65) (o : List Int) (w : World) (hC0 : Kd.C k36 w A0 L.length L) (hc0 : L.length ≤ c0) (hL : L.length ≤ 300) (hC2 : Kd.C k65 w A2 ops.length ops) (hc2 : ops.length ≤ c2) (hC3 : Kd.C (Kd.int .i64) w A3 o.length o) (hc3 : o.length ≤ c3) (ht : (thru L).2.2 = 0) (hf : 0 ≤ fuel ∧ fuel ≤ 10000) (ho : ops.length ≤ 64) (hn : o.length ≤ 1000) (k : Nat) (hp : order_placed.f k ops o = some 0) (hq : order_timely.f k ops o = some true) (hx : ∀ i ∈ o, 0 ≤ i ∧ i < (ops.length : Int)) :
    Calls Try.prog 33 #[.slice A0 L.length c0, .int .i64 fuel, .slice A2 ops.length c2, .slice A3 o.length c3] w fun e w' => e = .returned (.int .i64 (ordZ L ops fuel o [0, 0, 0, 0])) ∧ Below w.heap.size w w' := by
  replace hC0 := Aside0.mk hC0
  replace hC2 := Aside0.mk hC2
  replace hC3 := Aside0.mk hC3
  replace hL := Aside0.mk hL
  have hL0 : 0 < L.length := (thru_good L ht).pos
  have hGd := Aside0.mk (fun (cs : List Int) (h4 : cs.length = 4) (kind arg : Int) => vstep_good L ht cs h4 kind arg fuel)
  have hb1 : decide (fuel < 0) = false := decide_eq_false (by omega)
  have hb2 : decide (10000 < fuel) = false := decide_eq_false (by omega)
  have hb3 : decide (64 < (ops.length : Int)) = false := decide_eq_false (by omega)
  replace hf := Aside0.mk hf
  clear ho
  replace hL0 := Aside0.mk hL0
  replace hn := Aside0.mk hn
  replace hx := Aside0.mk hx
  replace ht := Aside0.mk ht
  replace hp := Aside0.mk hp
  replace hq := Aside0.mk hq
  go_enter Try.func33, Try.ntmps33
  go_wp2_with (first | (go_at_call 23; (with_reducible refine (vm_New_k A0 c0 L _ hC0.out hc0 hL.out ht.out).mono ?_); rintro e WM ⟨gm, vM, rfl, hM, hBM⟩; replace hM := Aside0.mk hM; replace hBM := Aside0.mk hBM) | (go_at_call 59; (with_reducible refine (order_placed.calls k A2 c2 ops A3 c3 o 0 _ (Kd.C_below hC2.out hBM.out) hc2 (Kd.C_below hC3.out hBM.out) hc3 hp.out).mono ?_); rintro e WP ⟨rfl, hBP⟩; replace hBP := Aside0.mk hBP) | (go_at_call 60; (with_reducible refine (order_timely.calls k A2 c2 ops A3 c3 o true _ (Kd.C_below (Kd.C_below hC2.out hBM.out) hBP.out) hc2 (Kd.C_below (Kd.C_below hC3.out hBM.out) hBP.out) hc3 hq.out).mono ?_); rintro e WT ⟨rfl, hBT⟩; replace hBT := Aside0.mk hBT))
  refine vm_gen _ (fun W => W.heap[WT.heap.size]? = some (.cells #[.int .i64 0, .int .i64 0, .int .i64 0, .int .i64 0] 24 (0, 0)) ∧ Below WT.heap.size WT W) ⟨blk_new _ _, below_alloc (Below.refl _ _) _⟩ ?_
  rintro W0 ⟨hs0, hB0⟩
  have hwT : Aside0 (Below w.heap.size w WT) := ⟨below_step (below_step hBM.out hBP.out) hBT.out⟩
  have hMT := Aside0.mk (hM.out.came (below_step hBP.out hBT.out))
  have hsz : Aside0 (w.heap.size ≤ WT.heap.size) := ⟨hwT.out.size⟩
  have hsM : Aside0 (w.heap.size ≤ WM.heap.size) := ⟨hBM.out.size⟩
  obtain ⟨gs, hgs⟩ : ∃ g, g = WT.heap.size := ⟨_, rfl⟩
  rw [← hgs] at hs0 ⊢
  replace hs0 := Aside0.mk hs0
  replace hB0 := Aside0.mk hB0
  replace hgs := Aside0.mk hgs
  clear hM hBM hBP hBT
  go_loopg [48] o.length (fun kk v48 W => ∃ (i : Nat) (e0 e1 e2 e3 : Int), v48 = .int .i64 i ∧ Aside0 (kk + i = o.length) ∧ Aside0 (W.heap[gs]? = some (.cells #[.int .i64 e0, .int .i64 e1, .int .i64 e2, .int .i64 e3] 24 (0, 0))) ∧ Aside0 (Below WT.heap.size WT W) ∧ Aside0 (ordZ L ops fuel (o.drop i) [e0, e1, e2, e3] = ordZ L ops fuel o [0, 0, 0, 0]))
  case atStart => exact ⟨0, 0, 0, 0, 0, rfl, ⟨by omega⟩, hs0, hB0, ⟨by simp⟩⟩
  case round =>
    obtain ⟨i, e0, e1, e2, e3, rfl, hki, hs, hBW, hz⟩ := hrel
    cases gk with
    | zero =>
      have hlt : decide ((i : Int) < (o.length : Int)) = false := decide_eq_false (by have := hki.out; omega)
      have hlt2 : decide (i < o.length) = false := decide_eq_false (by have := hki.out; omega)
      have hlt3 : ¬ i < o.length := by have := hki.out; omega
      have hz0 : ordZ L ops fuel o [0, 0, 0, 0] = 0 := by rw [← hz.out, List.drop_eq_nil_of_le (by have := hki.out; omega)]; rfl
      go_wp2
      go_ret
      exact ⟨by rw [hz0]; rfl, below_step hwT.out hBW.out⟩
    | succ j =>
      have hi : Aside0 (i < o.length) := ⟨by have := hki.out; omega⟩
      have hlt : decide ((i : Int) < (o.length : Int)) = true := decide_eq_true (by have := hi.out; omega)
      have hlt2 : i < o.length := hi.out
      have hi0 : decide (0 ≤ (i : Int)) = true := decide_eq_true (by omega)
      have hdr := rd_drop o i hi.out
      have hix := hx.out _ (rd_mem o i hi.out)
      obtain ⟨ad3, e3, hc3a⟩ := Kd.at_int (Kd.C_below (Kd.C_below hC3.out hwT.out) hBW.out) (i : Int) (by omega) (by have := hi.out; omega)
      cases e3
      obtain ⟨ix, hixe⟩ : ∃ x, x = rd o (i : Int) := ⟨_, rfl⟩
      rw [← hixe] at hdr hix hc3a
      simp only [Int.toNat_natCast] at hc3a
      have hixa : Aside0 (0 ≤ ix ∧ ix < (ops.length : Int)) := ⟨hix⟩
      obtain ⟨ad2, e2, hops⟩ := op_cells (Kd.C_below (Kd.C_below hC2.out hwT.out) hBW.out) ix hix.1 hix.2
      cases e2
      replace hops := Aside0.mk hops
      obtain ⟨rk, rs, rr, ru, hv, h4, _, _⟩ := hGd.out [e0, e1, e2, e3] rfl (rd_T65 ops ix).f1 (rd_T65 ops ix).f2
      obtain ⟨d0, d1, d2, d3, rfl⟩ := four_of h4
      obtain ⟨op, hop⟩ : ∃ x, x = rd_T65 ops ix := ⟨_, rfl⟩
      have hz2 : Aside0 (ordZ L ops fuel (ix :: o.drop (i + 1)) [e0, e1, e2, e3] = ordZ L ops fuel o [0, 0, 0, 0]) := ⟨by rw [← hdr]; exact hz.out⟩
      have hv2 : Aside0 (vstep L [e0, e1, e2, e3] op.f1 op.f2 fuel = some (rk, [d0, d1, d2, d3], rr, ru)) := ⟨by rw [hop]; exact hv⟩
      have hv3 : Aside0 (vstep L [e0, e1, e2, e3] (rd_T65 ops ix).f1 (rd_T65 ops ix).f2 fuel = some (rk, [d0, d1, d2, d3], rr, ru)) := ⟨hv⟩
      rw [← hop] at hops
      replace hop := Aside0.mk hop
      clear hv hz hix h4 hdr hixe
      have hM0 := Aside0.mk (hMT.out.came hBW.out)
      have hst := Aside0.mk (st_cells hs.out)
      have q0 : decide (0 ≤ ix) = true := decide_eq_true hixa.out.1
      have q1 : decide (ix < (ops.length : Int)) = true := decide_eq_true hixa.out.2
      go_wp2
      obtain ⟨WX, hWX⟩ : ∃ x : World, x = wr := ⟨_, rfl⟩
      try clear hWX
      refine region_by (fun b us W_ => OneC wr 14 15 stepZ (stepO rk d0 d1 d2 d3 rr ru) b us W_) (by kernel_rfl) (by kernel_rfl) ⟨fun _ => undef, OneC.start wr 14 15 _ _ _⟩ ?_
      (refine rb_want (fun us => rfl) ?_; apply Exists.intro; apply And.intro; (focus (apply rb_pure; (focus (intro b us w h; exact h.off (by decide) (by decide))); intro b us W_ hC; go_simp; rfl)); apply Exists.intro; apply And.intro; (focus (intro us; simp only [Act.put, List.setIfInBounds_toArray, List.set_cons_zero, List.set_cons_succ]; rfl)))
      (refine rb_want (fun us => rfl) ?_; apply Exists.intro; apply And.intro; (focus (apply rb_pure; (focus (intro b us w h; exact h.off (by decide) (by decide))); intro b us W_ hC; have y := hst.out W_ hC.hB; obtain ⟨y0, y1, y2, y3⟩ := y; go_simp; rfl)); apply Exists.intro; apply And.intro; (focus (intro us; simp only [Act.put, List.setIfInBounds_toArray, List.set_cons_zero, List.set_cons_succ]; rfl)))
      (refine rb_want (fun us => rfl) ?_; apply Exists.intro; apply And.intro; (focus (apply rb_pure; (focus (intro b us w h; exact h.off (by decide) (by decide))); intro b us W_ hC; go_simp; rfl)); apply Exists.intro; apply And.intro; (focus (intro us; simp only [Act.put, List.setIfInBounds_toArray, List.set_cons_zero, List.set_cons_succ]; rfl)))
      (refine rb_want (fun us => rfl) ?_; apply Exists.intro; apply And.intro; (focus (apply rb_pure; (focus (intro b us w h; exact h.off (by decide) (by decide))); intro b us W_ hC; go_simp; rfl)); apply Exists.intro; apply And.intro; (focus (intro us; simp only [Act.put, List.setIfInBounds_toArray, List.set_cons_zero, List.set_cons_succ]; rfl)))
      (refine rb_want (fun us => rfl) ?_; apply Exists.intro; apply And.intro; (focus (apply rb_pure; (focus (intro b us w h; exact h.off (by decide) (by decide))); intro b us W_ hC; have qq := hixa.out; obtain ⟨qa, qb⟩ := qq; go_simp; rfl)); apply Exists.intro; apply And.intro; (focus (intro us; simp only [Act.put, List.setIfInBounds_toArray, List.set_cons_zero, List.set_cons_succ]; rfl)))
      (refine rb_want (fun us => rfl) ?_; apply Exists.intro; apply And.intro; (focus (apply rb_pure; (focus (intro b us w h; exact h.off (by decide) (by decide))); intro b us W_ hC; go_simp; rfl)); apply Exists.intro; apply And.intro; (focus (intro us; simp only [Act.put, List.setIfInBounds_toArray, List.set_cons_zero, List.set_cons_succ]; rfl)))
      (refine rb_want (fun us => rfl) ?_; apply Exists.intro; apply And.intro; (focus (apply rb_pure; (focus (intro b us w h; exact h.off (by decide) (by decide))); intro b us W_ hC; have z := hops.out W_ hC.hB; obtain ⟨z1, z2, z3, z4⟩ := z; go_simp; rfl)); apply Exists.intro; apply And.intro; (focus (intro us; simp only [Act.put, List.setIfInBounds_toArray, List.set_cons_zero, List.set_cons_succ]; rfl)))
      (refine rb_want (fun us => rfl) ?_; apply Exists.intro; apply And.intro; (focus (apply rb_pure; (focus (intro b us w h; exact h.off (by decide) (by decide))); intro b us W_ hC; go_simp; rfl)); apply Exists.intro; apply And.intro; (focus (intro us; simp only [Act.put, List.setIfInBounds_toArray, List.set_cons_zero, List.set_cons_succ]; rfl)))
      (refine rb_want (fun us => rfl) ?_; apply Exists.intro; apply And.intro; (focus (apply rb_pure; (focus (intro b us w h; exact h.off (by decide) (by decide))); intro b us W_ hC; go_simp; rfl)); apply Exists.intro; apply And.intro; (focus (intro us; simp only [Act.put, List.setIfInBounds_toArray, List.set_cons_zero, List.set_cons_succ]; rfl)))
      (refine rb_want (fun us => rfl) ?_; apply Exists.intro; apply And.intro; (focus (apply rb_pure; (focus (intro b us w h; exact h.off (by decide) (by decide))); intro b us W_ hC; have qq := hixa.out; obtain ⟨qa, qb⟩ := qq; go_simp; rfl)); apply Exists.intro; apply And.intro; (focus (intro us; simp only [Act.put, List.setIfInBounds_toArray, List.set_cons_zero, List.set_cons_succ]; rfl)))
      (refine rb_want (fun us => rfl) ?_; apply Exists.intro; apply And.intro; (focus (apply rb_pure; (focus (intro b us w h; exact h.off (by decide) (by decide))); intro b us W_ hC; go_simp; rfl)); apply Exists.intro; apply And.intro; (focus (intro us; simp only [Act.put, List.setIfInBounds_toArray, List.set_cons_zero, List.set_cons_succ]; rfl)))
      (refine rb_want (fun us => rfl) ?_; apply Exists.intro; apply And.intro; (focus (apply rb_pure; (focus (intro b us w h; exact h.off (by decide) (by decide))); intro b us W_ hC; have z := hops.out W_ hC.hB; obtain ⟨z1, z2, z3, z4⟩ := z; go_simp; rfl)); apply Exists.intro; apply And.intro; (focus (intro us; simp only [Act.put, List.setIfInBounds_toArray, List.set_cons_zero, List.set_cons_succ]; rfl)))
      (refine rb_want (fun us => rfl) ?_; apply Exists.intro; apply And.intro; (focus (apply rb_pure; (focus (intro b us w h; exact h.off (by decide) (by decide))); intro b us W_ hC; go_simp; rfl)); apply Exists.intro; apply And.intro; (focus (intro us; simp only [Act.put, List.setIfInBounds_toArray, List.set_cons_zero, List.set_cons_succ]; rfl)))
      (refine rb_want (fun us => rfl) ⟨.agg #[.int .i64 rk, .int .i64 d0, .int .i64 d1, .int .i64 d2, .int .i64 d3, .int .i64 rr, .int .i64 ru], rb_call (f := 26) (args := fun us => #[.pointer (some ⟨gm, 0, none⟩), .agg #[.int .i64 e0, .int .i64 e1, .int .i64 e2, .int .i64 e3], .int .i64 op.f1, .int .i64 op.f2, .int .i64 fuel]) (fun us W_ => ?_) (fun b us W_ hb hon hC => ?_), ?_⟩; (focus (exact rb_enters Try.func26 (by kernel_rfl) rfl (by rfl) W_)); (focus (refine (vm_Step4 (hM0.out.came hC.hB) (Nat.le_trans (Nat.le_trans hsz.out hBW.out.size) hC.hB.size) hL0.out e0 e1 e2 e3 op.f1 op.f2 fuel rk d0 d1 d2 d3 rr ru hv2.out (by have := hf.out; omega)).mono ?_; rintro e w1 ⟨rfl, hbw⟩; exact ⟨rfl, (hC.came hbw).off (by decide) (by decide)⟩)); apply Exists.intro; apply And.intro; (focus (intro us; simp only [Act.put, List.setIfInBounds_toArray, List.set_cons_zero, List.set_cons_succ]; rfl)))
      (refine rb_open (fun us => rfl) (rb_new (fun b us W_ hb hon hC => ⟨.pointer (some ⟨W_.heap.size, 0, none⟩), W_.alloc stepZ, ?_, ?_⟩)) ?_; (focus (first | (go_simp; done) | (go_simp; rfl))); (focus (exact hC.new (by decide) hb)); apply Exists.intro; apply And.intro; (focus (intro us; simp only [Act.put, List.setIfInBounds_toArray, List.set_cons_zero, List.set_cons_succ]; rfl)))
      (refine rb_want (fun us => rfl) ⟨undef, rb_store (fun b us W_ hb hon hC => ?_), ?_⟩; (focus (obtain ⟨g, eg, hg, hbk⟩ := hC.at (hon 14 (by decide) (by decide)) hb; refine ⟨stepPut W_ g rk d0 d1 d2 d3 rr ru, ?_, hC.put (by decide) (hon 14 (by decide) (by decide)) eg hg (vm_bel7 hC.hB hg) (vm_out7 hbk)⟩; unfold stepZ at hbk; have k0 := blk_cell hbk 0; have v0 := blk_frozen hbk 0; have k1 := blk_cell hbk 1; have v1 := blk_frozen hbk 1; have k2 := blk_cell hbk 2; have v2 := blk_frozen hbk 2; have k3 := blk_cell hbk 3; have v3 := blk_frozen hbk 3; have k4 := blk_cell hbk 4; have v4 := blk_frozen hbk 4; have k5 := blk_cell hbk 5; have v5 := blk_frozen hbk 5; have k6 := blk_cell hbk 6; have v6 := blk_frozen hbk 6; simp only [List.getElem?_toArray, List.getElem?_cons_zero, List.getElem?_cons_succ] at k0 k1 k2 k3 k4 k5 k6; rw [eg]; clear hbk; unfold stepPut; first | (go_simp; done) | (go_simp; rfl))); apply Exists.intro; apply And.intro; (focus (intro us; simp only [Act.put, List.setIfInBounds_toArray, List.set_cons_zero, List.set_cons_succ]; rfl)))
      refine rb_done (fun b us W3 hall hC => ?_)
      obtain ⟨gx, ex, hgx, hbk⟩ := hC.done (hall 14 (by decide)) (hall 15 (by decide))
      have hB3 := Aside0.mk hC.hB
      have hsb := Aside0.mk (step_cells hbk)
      try dsimp only
      rw [ex]
      clear ex hC hall hbk
      clear us b
      have hst3 := hst.out W3 hB3.out
      have hops3 := Aside0.mk (fun (X : World) (hX : Below W3.heap.size W3 X) => hops.out X (below_step hB3.out hX))
      have zc := hsb.out W3 (Below.refl _ _)
      obtain ⟨z0, z1, z2, z3, z4, z5, z6⟩ := zc
      clear hst3
      have hgT : Aside0 (WT.heap.size ≤ gs) := ⟨by rw [hgs.out]; exact Nat.le_refl _⟩
      have hW3 : Aside0 (Below w.heap.size w W3) := ⟨below_step hwT.out (below_step hBW.out hB3.out)⟩
      have hs3 := blk_below hs.out hB3.out
      have y0 := blk_cell hs3 0
      have y1 := blk_cell hs3 1
      have y2 := blk_cell hs3 2
      have y3 := blk_cell hs3 3
      have v0 := blk_frozen hs3 0
      have v1 := blk_frozen hs3 1
      have v2 := blk_frozen hs3 2
      have v3 := blk_frozen hs3 3
      simp only [List.getElem?_toArray, List.getElem?_cons_zero, List.getElem?_cons_succ] at y0 y1 y2 y3
      replace hs3 := Aside0.mk hs3
      have x := hops3.out W3 (Below.refl _ _)
      obtain ⟨x1, x2, x3, x4⟩ := x
      by_cases hrk : rk = 1
      rotate_left
      · have hnb : (rk != 1) = true := by simpa using hrk
        have hz3 := ordZ_18 (o := o.drop (i + 1)) hv3.out hrk
        replace hz3 := Aside0.mk (hz2.out.symm.trans hz3)
        clear hrk
        go_wp2
        go_ret
        exact ⟨by rw [hz3.out]; rfl, hW3.out⟩
      subst hrk
      have qq := hixa.out
      obtain ⟨qa, qb⟩ := qq
      by_cases hd : op.f3 = true
      · by_cases hr : rr = op.f4
        rotate_left
        · have hnb : (rr != op.f4) = true := by simpa using hr
          have hz3 := ordZ_19 (o := o.drop (i + 1)) hv3.out (by rw [← hop.out]; exact hd) (by rw [← hop.out]; exact hr)
          replace hz3 := Aside0.mk (hz2.out.symm.trans hz3)
          clear hr
          go_wp2
          go_quiet (fail)
          go_wp2
          go_ret
          exact ⟨by rw [hz3.out]; rfl, by first | exact hW3.out | exact pw_below_drewN hW3.out _ | exact hW3.out.drew⟩
        have hnb : (rr != op.f4) = false := by simpa using hr
        have hz3 := ordZ_go (o := o.drop (i + 1)) hv3.out (.inr (by rw [← hop.out]; exact hr))
        replace hz3 := Aside0.mk (hz3.symm.trans hz2.out)
        clear hr
        go_wp2
        go_quiet (fail)
        go_wp2
        go_roundg j
        case measure => omega
        case rel => exact ⟨i + 1, d0, d1, d2, d3, by have a1 := hi.out; have a2 := hn.out; rw [w64 (by omega) (by omega)]; simp, ⟨by have := hki.out; omega⟩, ⟨by first | exact st_put hs3.out | (have e := st_put hs3.out; exact e)⟩, ⟨below_set (below_set (below_set (below_set (by first | exact pw_below_drewN (below_step hBW.out hB3.out) _ | exact (below_step hBW.out hB3.out).drew | exact below_step hBW.out hB3.out) hgT.out) hgT.out) hgT.out) hgT.out⟩, hz3⟩
      · have hdf : op.f3 = false := by simpa using hd
        clear hd
        have hz3 := ordZ_go (o := o.drop (i + 1)) hv3.out (.inl (by rw [← hop.out]; exact hdf))
        replace hz3 := Aside0.mk (hz3.symm.trans hz2.out)
        go_wp2
        go_quiet (fail)
        go_wp2
        go_roundg j
        case measure => omega
        case rel => exact ⟨i + 1, d0, d1, d2, d3, by have a1 := hi.out; have a2 := hn.out; rw [w64 (by omega) (by omega)]; simp, ⟨by have := hki.out; omega⟩, ⟨by first | exact st_put hs3.out | (have e := st_put hs3.out; exact e)⟩, ⟨below_set (below_set (below_set (below_set (by first | exact pw_below_drewN (below_step hBW.out hB3.out) _ | exact (below_step hBW.out hB3.out).drew | exact below_step hBW.out hB3.out) hgT.out) hgT.out) hgT.out) hgT.out⟩, hz3⟩
theorem op_drop (xs : List S65) (i : Nat) (h : i < xs.length) : xs.drop i = rd_T65 xs i :: xs.drop (i + 1) := by
  rw [List.drop_eq_getElem_cons h]; congr 1; simp [rd_T65, List.getElem?_eq_getElem h]
/-- All that are done are seen. -/
def doneZ (s : List Bool) : List S65 → Nat → Bool
  | [], _ => true
  | x :: xs, j => if x.f3 = true ∧ rdOf false s j = false then false else doneZ s xs (j + 1)
/-- Each number is a place, once, and all that are done are there: 0, ErrArg, ErrNone. -/
def placeZ (ops : List S65) : List Int → List Bool → Int
  | [], s => if doneZ s ops 0 = true then 0 else 9
  | i :: o, s => if 0 ≤ i ∧ i < (ops.length : Int) ∧ rdOf false s i = false then placeZ ops o (s.set i.toNat true) else 2
theorem order_placed_l1 (d : Nat) : ∀ (s : List Bool) (ops : List S65) (i : Nat), ops.length - i = d → i ≤ ops.length → ops.length ≤ 1000 → s.length = ops.length →
    Ev (fun k => order_placed.l1 k s ops (ops.length : Int) i) (if doneZ s (ops.drop i) i = true then 0 else 9) := by
  induction d with
  | zero =>
    intro s ops i hd hi hl hs
    refine Ev.step (f := fun _ => some 0) (fun k => ?_) (by rw [List.drop_of_length_le (by omega)]; exact Ev.now _)
    simp only [order_placed.l1]; rw [if_neg (by omega)]
  | succ d ih =>
    intro s ops i hd hi hl hs
    rw [op_drop ops i (by omega)]
    by_cases c : (rd_T65 ops i).f3 = true
    · cases c1 : rdOf false s (i : Int) with
      | false =>
        rw [show doneZ s (rd_T65 ops i :: ops.drop (i + 1)) i = false by rw [doneZ, if_pos ⟨c, c1⟩], if_neg (by simp)]
        refine Ev.step (f := fun _ => some 9) (fun k => ?_) (Ev.now _)
        simp only [order_placed.l1]; rw [if_pos (by omega), if_pos (by omega), if_pos (by omega), if_pos c, if_pos (by omega), c1]; rfl
      | true =>
        rw [show doneZ s (rd_T65 ops i :: ops.drop (i + 1)) i = doneZ s (ops.drop (i + 1)) (i + 1) by rw [doneZ, if_neg (by rw [c1]; simp)]]
        refine Ev.step (fun k => ?_) (ih s ops (i + 1) (by omega) (by omega) hl hs)
        simp only [order_placed.l1]; rw [if_pos (by omega), if_pos (by omega), if_pos (by omega), if_pos c, if_pos (by omega), c1, if_pos rfl, w64 (by omega) (by omega)]; rfl
    · rw [show doneZ s (rd_T65 ops i :: ops.drop (i + 1)) i = doneZ s (ops.drop (i + 1)) (i + 1) by rw [doneZ, if_neg (by rintro ⟨a, _⟩; exact c a)]]
      refine Ev.step (fun k => ?_) (ih s ops (i + 1) (by omega) (by omega) hl hs)
      simp only [order_placed.l1]; rw [if_pos (by omega), if_pos (by omega), if_pos (by omega), if_neg c, w64 (by omega) (by omega)]; rfl
theorem order_placed_l0 (ops : List S65) (hl : ops.length ≤ 1000) (d : Nat) : ∀ (s : List Bool) (o : List Int) (i : Nat), o.length - i = d → i ≤ o.length → o.length ≤ 1000 → s.length = ops.length →
    Ev (fun k => order_placed.l0 k ops s o (o.length : Int) i) (placeZ ops (o.drop i) s) := by
  induction d with
  | zero =>
    intro s o i hd hi ho hs
    rw [List.drop_of_length_le (by omega), placeZ]
    refine Ev.step (fun k => ?_) (order_placed_l1 _ s ops 0 rfl (by omega) hl hs)
    simp only [order_placed.l0]; rw [if_neg (by omega)]; rfl
  | succ d ih =>
    intro s o i hd hi ho hs
    rw [rd_drop o i (by omega), placeZ]
    by_cases c : rd o i < 0
    · rw [if_neg (by omega)]
      refine Ev.step (f := fun _ => some 2) (fun k => ?_) (Ev.now _)
      simp only [order_placed.l0]; rw [if_pos (by omega), if_pos (by omega), if_pos (by omega), if_pos c]
    by_cases c1 : rd o i ≥ (ops.length : Int)
    · rw [if_neg (by omega)]
      refine Ev.step (f := fun _ => some 2) (fun k => ?_) (Ev.now _)
      simp only [order_placed.l0]; rw [if_pos (by omega), if_pos (by omega), if_pos (by omega), if_neg c, if_pos c1]
    cases c2 : rdOf false s (rd o i) with
    | true =>
      rw [if_neg (by simp)]
      refine Ev.step (f := fun _ => some 2) (fun k => ?_) (Ev.now _)
      simp only [order_placed.l0]; rw [if_pos (by omega), if_pos (by omega), if_pos (by omega), if_neg c, if_neg c1, if_pos (by omega), if_pos (by omega), c2, if_pos rfl]
    | false =>
      rw [if_pos ⟨by omega, by omega, rfl⟩]
      refine Ev.step (fun k => ?_) (ih (s.set (rd o i).toNat true) o (i + 1) (by omega) (by omega) ho (by simpa using hs))
      simp only [order_placed.l0]; rw [if_pos (by omega), if_pos (by omega), if_pos (by omega), if_neg c, if_neg c1, if_pos (by omega), if_pos (by omega), c2, if_neg (by simp), w64 (by omega) (by omega)]; rfl
theorem order_placed_ev (ops : List S65) (o : List Int) (hl : ops.length ≤ 1000) (ho : o.length ≤ 1000) : Ev (fun k => order_placed.f k ops o) (placeZ ops o (List.replicate ops.length false)) := by
  refine Ev.congr (fun k => ?_) (order_placed_l0 ops hl _ (List.replicate ops.length false) o 0 rfl (by omega) ho (by simp))
  unfold order_placed.f
  rw [if_pos (by omega), if_pos (by omega)]; simp
theorem placeZ_in (ops : List S65) : ∀ (o : List Int) (s : List Bool), placeZ ops o s ≠ 2 → ∀ i ∈ o, 0 ≤ i ∧ i < (ops.length : Int)
  | [], _, _, i, hi => by simp at hi
  | x :: o, s, h, i, hi => by
    rw [placeZ] at h
    split at h
    · rename_i c
      rcases List.mem_cons.mp hi with rfl | hi
      · exact ⟨c.1, c.2.1⟩
      · exact placeZ_in ops o _ h i hi
    · exact absurd rfl h
def befZ (a b : S65) : Bool := if a.f3 = true then decide (a.f6 < b.f5) else false
/-- None of these is behind one that it must be ahead of. -/
def innerZ (ops : List S65) (a : S65) : List Int → Bool
  | [] => true
  | j :: r => if befZ a (rd_T65 ops j) = true then false else innerZ ops a r
def timeZ (ops : List S65) : List Int → List Int → Bool
  | _, [] => true
  | pre, x :: r => if innerZ ops (rd_T65 ops x) pre = true then timeZ ops (pre ++ [x]) r else false
theorem hist_bef (a b : S65) : hist_Before.f a.f0 a.f1 a.f2 a.f3 a.f4 a.f5 a.f6 b.f0 b.f1 b.f2 b.f3 b.f4 b.f5 b.f6 = some (befZ a b) := by
  unfold hist_Before.f befZ; split <;> rfl
theorem timely_l1 (ops : List S65) (o : List Int) (i : Nat) (hi : i < o.length) (ho : o.length ≤ 1000) (hx : ∀ q_ ∈ o, 0 ≤ q_ ∧ q_ < (ops.length : Int)) (r : Bool)
    (h0 : Ev (fun k => order_timely.l0 k ops o (o.length : Int) ((i + 1 : Nat) : Int)) r) (d : Nat) : ∀ (j : Nat), i - j = d → j ≤ i →
    Ev (fun k => order_timely.l1 k ops o i (o.length : Int) i i j) (if innerZ ops (rd_T65 ops (rd o i)) ((o.take i).drop j) = true then r else false) := by
  induction d with
  | zero =>
    intro j hd hj
    rw [List.drop_of_length_le (by rw [List.length_take]; omega), innerZ, if_pos rfl]
    refine Ev.step (fun k => ?_) h0
    simp only [order_timely.l1]; rw [if_neg (by omega), w64 (by omega) (by omega)]; rfl
  | succ d ih =>
    intro j hd hj
    have e : (o.take i).drop j = rd o j :: (o.take i).drop (j + 1) := by
      rw [rd_drop (o.take i) j (by rw [List.length_take]; omega)]
      congr 1
      simp [rd, List.getElem?_take, show j < i by omega]
    have h1 := hx _ (rd_mem o i hi)
    have h2 := hx _ (rd_mem o j (by omega))
    rw [e, innerZ]
    have hb := hist_bef (rd_T65 ops (rd o i)) (rd_T65 ops (rd o j))
    by_cases c : befZ (rd_T65 ops (rd o i)) (rd_T65 ops (rd o j)) = true
    · rw [if_pos c, if_neg (by simp)]
      refine Ev.step (f := fun _ => some false) (fun k => ?_) (Ev.now _)
      simp only [order_timely.l1]; rw [if_pos (by omega), if_pos (by omega), if_pos (by omega), if_pos (by omega), if_pos (by omega), if_pos (by omega), if_pos (by omega), if_pos (by omega), if_pos (by omega), hb, c]; rfl
    · rw [if_neg c]
      refine Ev.step (fun k => ?_) (ih (j + 1) (by omega) (by omega))
      simp only [order_timely.l1]; rw [if_pos (by omega), if_pos (by omega), if_pos (by omega), if_pos (by omega), if_pos (by omega), if_pos (by omega), if_pos (by omega), if_pos (by omega), if_pos (by omega), hb, Option.bind_some, if_neg c, w64 (by omega) (by omega)]; rfl
theorem timely_l0 (ops : List S65) (o : List Int) (ho : o.length ≤ 1000) (hx : ∀ q_ ∈ o, 0 ≤ q_ ∧ q_ < (ops.length : Int)) (d : Nat) : ∀ (i : Nat), o.length - i = d → i ≤ o.length →
    Ev (fun k => order_timely.l0 k ops o (o.length : Int) i) (timeZ ops (o.take i) (o.drop i)) := by
  induction d with
  | zero =>
    intro i hd hi
    rw [List.drop_of_length_le (by omega), timeZ]
    refine Ev.step (f := fun _ => some true) (fun k => ?_) (Ev.now _)
    simp only [order_timely.l0]; rw [if_neg (by omega)]
  | succ d ih =>
    intro i hd hi
    have e : o.take i ++ [rd o i] = o.take (i + 1) := by
      rw [List.take_add_one, List.getElem?_eq_getElem (by omega)]; simp [rd, List.getElem?_eq_getElem (show i < o.length by omega)]
    rw [rd_drop o i (by omega), timeZ, e]
    have h := timely_l1 ops o i (by omega) ho hx _ (ih (i + 1) (by omega) (by omega)) _ 0 rfl (by omega)
    rw [List.drop_zero] at h
    refine Ev.step (fun k => ?_) h
    simp only [order_timely.l0]; rw [if_pos (by omega)]; rfl
theorem order_timely_ev (ops : List S65) (o : List Int) (ho : o.length ≤ 1000) (hx : ∀ q_ ∈ o, 0 ≤ q_ ∧ q_ < (ops.length : Int)) : Ev (fun k => order_timely.f k ops o) (timeZ ops [] o) := by
  have h := timely_l0 ops o ho hx _ 0 rfl (by omega)
  exact h
/-- What order.Check answers. -/
def ordC (L : List S36) (fuel : Int) (ops : List S65) (o : List Int) : Int :=
  if (thru L).2.2 ≠ 0 then (thru L).2.2 else if fuel < 0 ∨ 10000 < fuel then 2 else if 64 < ops.length then 5
  else if placeZ ops o (List.replicate ops.length false) ≠ 0 then placeZ ops o (List.replicate ops.length false)
  else if timeZ ops [] o = false then 17 else ordZ L ops fuel o [0, 0, 0, 0]
theorem ord_Check (A0 A2 A3 : Option Addr) (c0 c2 c3 : Nat) (L : List S36) (fuel : Int) (ops : List S65) (o : List Int) (w : World) (hC0 : Kd.C k36 w A0 L.length L) (hc0 : L.length ≤ c0) (hL : L.length ≤ 300) (hC2 : Kd.C k65 w A2 ops.length ops) (hc2 : ops.length ≤ c2) (hC3 : Kd.C (Kd.int .i64) w A3 o.length o) (hc3 : o.length ≤ c3) (ho : o.length ≤ 1000) :
    Calls Try.prog 33 #[.slice A0 L.length c0, .int .i64 fuel, .slice A2 ops.length c2, .slice A3 o.length c3] w fun e w' => e = .returned (.int .i64 (ordC L fuel ops o)) ∧ Below w.heap.size w w' := by
  unfold ordC
  by_cases ht : (thru L).2.2 = 0
  rotate_left
  · rw [if_pos ht]; exact ord_new A0 A2 A3 c0 c2 c3 L fuel ops o w hC0 hc0 hL hC2 hc2 hC3 hc3 ht
  rw [if_neg (by simpa using ht)]
  by_cases hf : fuel < 0
  · rw [if_pos (.inl hf)]; exact ord_fuel0 A0 A2 A3 c0 c2 c3 L fuel ops o w hC0 hc0 hL hC2 hc2 hC3 hc3 ht hf
  by_cases hf2 : 10000 < fuel
  · rw [if_pos (.inr hf2)]; exact ord_fuel1 A0 A2 A3 c0 c2 c3 L fuel ops o w hC0 hc0 hL hC2 hc2 hC3 hc3 ht hf2
  rw [if_neg (by omega)]
  by_cases hn : 64 < ops.length
  · rw [if_pos hn]; exact ord_big A0 A2 A3 c0 c2 c3 L fuel ops o w hC0 hc0 hL hC2 hc2 hC3 hc3 ht (by omega) hn
  rw [if_neg hn]
  obtain ⟨K1, h1⟩ := order_placed_ev ops o (by omega) ho
  by_cases hp : placeZ ops o (List.replicate ops.length false) = 0
  rotate_left
  · rw [if_pos hp]; exact ord_place A0 A2 A3 c0 c2 c3 L fuel ops o w hC0 hc0 hL hC2 hc2 hC3 hc3 ht (by omega) (by omega) K1 _ (h1 K1 (Nat.le_refl _)) hp
  rw [if_neg (by simpa using hp)]
  have hx := placeZ_in ops o _ (by rw [hp]; decide)
  obtain ⟨K2, h2⟩ := order_timely_ev ops o ho hx
  rw [hp] at h1
  cases hq : timeZ ops [] o with
  | false => rw [if_pos rfl]; rw [hq] at h2; exact ord_late A0 A2 A3 c0 c2 c3 L fuel ops o w hC0 hc0 hL hC2 hc2 hC3 hc3 ht (by omega) (by omega) (K1 + K2) (h1 _ (by omega)) (h2 _ (by omega))
  | true => rw [if_neg (by simp)]; rw [hq] at h2; exact ord_go A0 A2 A3 c0 c2 c3 L fuel ops o w hC0 hc0 hL hC2 hc2 hC3 hc3 ht (by omega) (by omega) ho (K1 + K2) (h1 _ (by omega)) (h2 _ (by omega)) hx
theorem or_info3 : (Try.prog.info? 3).map (fun i => (i.zero, i.size, i.bytes)) = some (some (.int .i64 0), 1, 8) := by kernel_rfl
theorem few17 (l : List S65) (n : Int) (h0 : 0 ≤ n) (h1 : n ≤ 1000) : inquestref17_Few.f l n = some (l.take n.toNat) := by
  unfold inquestref17_Few.f
  by_cases c : (l.length : Int) > n
  · rw [if_pos c, if_pos h0, if_pos (by omega), Option.bind_some, if_pos (by simp [List.length_take]; omega)]; rfl
  · rw [if_neg c, if_pos (by simp; omega), List.take_of_length_le (by omega)]; rfl
/-- What an order that is one is like. -/
structure OrdF (ops : List S65) (o : List Int) : Prop where
  ix : ∀ i : Nat, i < o.length → 0 ≤ rd o i ∧ rd o i < (ops.length : Int)
  nd : ∀ i k : Nat, i < k → k < o.length → rd o i ≠ rd o k
  dn : ∀ j : Nat, j < ops.length → (rd_T65 ops j).f3 = true → ∃ k : Nat, k < o.length ∧ rd o k = j
  tm : ∀ b a : Nat, b < a → a < o.length → befZ (rd_T65 ops (rd o a)) (rd_T65 ops (rd o b)) = false
theorem rd_get (o : List Int) (i : Nat) (h : i < o.length) : rd o (i : Int) = o[i] := by simp [rd, List.getElem?_eq_getElem h]
theorem doneZ_get (s : List Bool) (ops : List S65) : ∀ (d i : Nat), ops.length - i = d → doneZ s (ops.drop i) i = true → ∀ j : Nat, i ≤ j → j < ops.length → (rd_T65 ops j).f3 = true → rdOf false s (j : Int) = true
  | 0, i, hd, _, j, hij, hj, _ => by omega
  | d + 1, i, hd, h, j, hij, hj, hf => by
    rw [op_drop ops i (by omega), doneZ] at h
    by_cases c : (rd_T65 ops i).f3 = true ∧ rdOf false s (i : Int) = false
    · rw [if_pos c] at h; cases h
    · rw [if_neg c] at h
      by_cases e : j = i
      · subst e
        cases q : rdOf false s (j : Int) with
        | true => rfl
        | false => exact absurd ⟨hf, q⟩ c
      · exact doneZ_get s ops d (i + 1) (by omega) h j (by omega) hj hf
theorem rdB_set (s : List Bool) (i j : Nat) (h : i < s.length) : rdOf false (s.set i true) (j : Int) = if j = i then true else rdOf false s (j : Int) := by
  simp only [rdOf, Int.toNat_natCast, List.getD_eq_getElem?_getD]
  by_cases c : j = i
  · subst c; rw [if_pos rfl, List.getElem?_set_self h]; rfl
  · rw [if_neg c, List.getElem?_set_ne (by omega)]
theorem placeZ_facts (ops : List S65) : ∀ (o : List Int) (s : List Bool), placeZ ops o s = 0 → s.length = ops.length →
    o.Pairwise (· ≠ ·) ∧ (∀ i ∈ o, 0 ≤ i ∧ i < (ops.length : Int) ∧ rdOf false s i = false) ∧ (∀ j : Nat, j < ops.length → (rd_T65 ops j).f3 = true → rdOf false s (j : Int) = true ∨ (j : Int) ∈ o)
  | [], s, h, hs => by
    refine ⟨List.Pairwise.nil, by simp, fun j hj hf => .inl ?_⟩
    rw [placeZ] at h
    split at h
    · rename_i c; exact doneZ_get s ops _ 0 rfl c j (by omega) hj hf
    · cases h
  | x :: o, s, h, hs => by
    rw [placeZ] at h
    split at h
    rotate_left
    · cases h
    rename_i c
    obtain ⟨h1, h2, h3⟩ := placeZ_facts ops o _ h (by simpa using hs)
    have hx : ((x.toNat : Nat) : Int) = x := by omega
    refine ⟨List.Pairwise.cons (fun y hy e => ?_) h1, fun i hi => ?_, fun j hj hf => ?_⟩
    · subst e
      have := (h2 x hy).2.2
      rw [← hx, rdB_set s _ _ (by omega), if_pos (by omega)] at this
      cases this
    · rcases List.mem_cons.mp hi with rfl | hi
      · exact c
      · obtain ⟨a, b, d⟩ := h2 i hi
        refine ⟨a, b, ?_⟩
        have hi2 : ((i.toNat : Nat) : Int) = i := by omega
        rw [← hi2, rdB_set s _ _ (by omega)] at d
        split at d
        · cases d
        · rw [← hi2]; exact d
    · rcases h3 j hj hf with e | e
      · rw [rdB_set s _ _ (by omega)] at e
        split at e
        · rename_i q; exact .inr (List.mem_cons.mpr (.inl (by omega)))
        · exact .inl e
      · exact .inr (List.mem_cons_of_mem _ e)
theorem innerZ_get (ops : List S65) (a : S65) : ∀ (l : List Int), innerZ ops a l = true → ∀ x ∈ l, befZ a (rd_T65 ops x) = false
  | [], _, x, hx => by simp at hx
  | y :: l, h, x, hx => by
    rw [innerZ] at h
    cases q : befZ a (rd_T65 ops y) with
    | true => rw [q, if_pos rfl] at h; cases h
    | false =>
      rw [q, if_neg (by simp)] at h
      rcases List.mem_cons.mp hx with rfl | hx
      · exact q
      · exact innerZ_get ops a l h x hx
theorem timeZ_get (ops : List S65) : ∀ (r pre : List Int), timeZ ops pre r = true → ∀ (a : Nat) (ha : a < r.length) (x : Int), x ∈ pre ∨ x ∈ r.take a → befZ (rd_T65 ops r[a]) (rd_T65 ops x) = false
  | [], _, _, a, ha, _, _ => by simp at ha
  | y :: r, pre, h, a, ha, x, hx => by
    rw [timeZ] at h
    split at h
    rotate_left
    · cases h
    rename_i c
    cases a with
    | zero =>
      rcases hx with hx | hx
      · exact innerZ_get ops _ pre c x hx
      · simp at hx
    | succ a =>
      refine timeZ_get ops r (pre ++ [y]) h a (by simpa using ha) x ?_
      rcases hx with hx | hx
      · exact .inl (by simp [hx])
      · simp only [List.take_succ_cons, List.mem_cons] at hx
        rcases hx with rfl | hx
        · exact .inl (by simp)
        · exact .inr hx
theorem ordF_of {L : List S36} {f : Int} {ops : List S65} {o : List Int} (h : ordC L f ops o = 0) : ops.length ≤ 64 ∧ OrdF ops o := by
  unfold ordC at h
  by_cases ht : (thru L).2.2 = 0
  rotate_left
  · rw [if_pos ht] at h; exact absurd h ht
  rw [if_neg (fun q => q ht)] at h
  by_cases hf : f < 0 ∨ 10000 < f
  · rw [if_pos hf] at h; cases h
  rw [if_neg hf] at h
  by_cases hn : 64 < ops.length
  · rw [if_pos hn] at h; cases h
  rw [if_neg hn] at h
  by_cases hp : placeZ ops o (List.replicate ops.length false) = 0
  rotate_left
  · rw [if_pos hp] at h; exact absurd h hp
  rw [if_neg (fun q => q hp)] at h
  by_cases hq : timeZ ops [] o = false
  · rw [if_pos hq] at h; cases h
  have hq : timeZ ops [] o = true := by simpa using hq
  obtain ⟨h1, h2, h3⟩ := placeZ_facts ops o _ hp (by simp)
  refine ⟨by omega, fun i hi => ?_, fun i k hik hk => ?_, fun j hj hf => ?_, fun b a hba ha => ?_⟩
  · have := h2 _ (rd_mem o i hi); exact ⟨this.1, this.2.1⟩
  · rw [rd_get o i (by omega), rd_get o k hk]
    exact List.pairwise_iff_getElem.mp h1 i k (by omega) hk hik
  · rcases h3 j hj hf with e | e
    · have : rdOf false (List.replicate ops.length false) (j : Int) = false := by simp [rdOf, List.getElem?_replicate]; split <;> rfl
      rw [this] at e; cases e
    · obtain ⟨k, hk, e⟩ := List.getElem_of_mem e
      exact ⟨k, hk, by rw [rd_get o k hk]; exact e⟩
  · rw [rd_get o a ha, rd_get o b (by omega)]
    exact timeZ_get ops o [] hq a ha _ (.inr (List.mem_iff_getElem.mpr ⟨b, by rw [List.length_take]; omega, by simp⟩))
theorem timeZ_of (ops : List S65) : ∀ (r pre : List Int), (∀ (a : Nat) (ha : a < r.length) (x : Int), x ∈ pre ∨ x ∈ r.take a → befZ (rd_T65 ops r[a]) (rd_T65 ops x) = false) → timeZ ops pre r = true
  | [], _, _ => rfl
  | y :: r, pre, h => by
    have hin : ∀ l : List Int, (∀ x ∈ l, x ∈ pre) → innerZ ops (rd_T65 ops y) l = true := by
      intro l hl
      induction l with
      | nil => rfl
      | cons z l ih =>
        have hz := h 0 (by simp) z (.inl (hl z (by simp)))
        simp only [List.getElem_cons_zero] at hz
        rw [innerZ, hz, if_neg (by simp)]
        exact ih (fun x hx => hl x (by simp [hx]))
    rw [timeZ, if_pos (hin pre (fun _ h => h))]
    refine timeZ_of ops r (pre ++ [y]) (fun a ha x hx => ?_)
    refine h (a + 1) (by simpa using ha) x ?_
    rcases hx with hx | hx
    · rcases List.mem_append.mp hx with q | q
      · exact .inl q
      · exact .inr (by simp only [List.mem_singleton] at q; simp [q])
    · exact .inr (by simp [hx])
theorem timeZ_true (ops : List S65) (o : List Int) (h : ∀ i k : Nat, i < k → k < o.length → befZ (rd_T65 ops (rd o k)) (rd_T65 ops (rd o i)) = false) : timeZ ops [] o = true := by
  refine timeZ_of ops o [] (fun a ha x hx => ?_)
  rcases hx with hx | hx
  · simp at hx
  · obtain ⟨i, hi, e⟩ := List.mem_iff_getElem.mp hx
    rw [List.length_take] at hi
    have := h i a (by omega) ha
    rw [rd_get o a ha, rd_get o i (by omega)] at this
    simp at e
    rw [e] at this
    exact this
theorem op_cells7 {w : World} {A : Option Addr} {n : Nat} {xs : List S65} (h : Kd.C k65 w A n xs) (i : Int) (h0 : 0 ≤ i) (h1 : i < n) : ∃ ad, A = some ad ∧ ∀ W_ : World, Below w.heap.size w W_ → (W_.cell? (ad.add (i.toNat * 7)) = some (.int .i64 (rd_T65 xs i).f0) ∧ W_.cell? ⟨(ad.add (i.toNat * 7)).block, (ad.add (i.toNat * 7)).off + 1, none⟩ = some (.int .i64 (rd_T65 xs i).f1) ∧ W_.cell? ⟨(ad.add (i.toNat * 7)).block, (ad.add (i.toNat * 7)).off + 2, none⟩ = some (.int .i64 (rd_T65 xs i).f2) ∧ W_.cell? ⟨(ad.add (i.toNat * 7)).block, (ad.add (i.toNat * 7)).off + 3, none⟩ = some (.bool (rd_T65 xs i).f3) ∧ W_.cell? ⟨(ad.add (i.toNat * 7)).block, (ad.add (i.toNat * 7)).off + 4, none⟩ = some (.int .i64 (rd_T65 xs i).f4) ∧ W_.cell? ⟨(ad.add (i.toNat * 7)).block, (ad.add (i.toNat * 7)).off + 5, none⟩ = some (.int .i64 (rd_T65 xs i).f5) ∧ W_.cell? ⟨(ad.add (i.toNat * 7)).block, (ad.add (i.toNat * 7)).off + 6, none⟩ = some (.int .i64 (rd_T65 xs i).f6)) := by
  obtain ⟨ad, e, x0, x1, x2, x3, x4, x5, x6⟩ := at_T65 h i h0 h1
  exact ⟨ad, e, fun W_ hb => ⟨(hb.cell (World.block_lt_of_cell? w _ x0)).trans x0, (hb.cell (World.block_lt_of_cell? w _ x1)).trans x1, (hb.cell (World.block_lt_of_cell? w _ x2)).trans x2, (hb.cell (World.block_lt_of_cell? w _ x3)).trans x3, (hb.cell (World.block_lt_of_cell? w _ x4)).trans x4, (hb.cell (World.block_lt_of_cell? w _ x5)).trans x5, (hb.cell (World.block_lt_of_cell? w _ x6)).trans x6⟩⟩
end Go.Proofs.Ytddkoimaghcbeaa.PVmSteps
