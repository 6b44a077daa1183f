/- A part of what the law LinWhole stands on, only as far as it is needed (the words and walks were printed or written in this seat; this text was cut by a program of this session, wip/bin/trim.py). No condition beyond what each theorem says. -/
import Derived.StillTailTactics
import Derived.Deep.RegionHeld3
import Derived.IntWalk
import Derived.Deep.QuietTactic
import Derived.BigQuiet
import Derived.Test.YtddkoimaghcbeaaZLWPVmStepsx0
import Derived.Test.YtddkoimaghcbeaaZLWPVmStepsx2
import Derived.Test.YtddkoimaghcbeaaZLWPVmStepsx3
import Derived.Test.YtddkoimaghcbeaaZLWPVmStepsx4
import Derived.Test.YtddkoimaghcbeaaZLWPVmStepsx5
import Derived.Test.YtddkoimaghcbeaaZLWTmplja
import Derived.Test.YtddkoimaghcbeaaZLWTmpvmu
import Derived.Test.YtddkoimaghcbeaaZLWTmpvmq
import Derived.Test.YtddkoimaghcbeaaZLWTmpljp
section
namespace Go.Proofs.Ytddkoimaghcbeaa.PVmSteps
open Go.RowKit Go.Proofs.YtddkoimaghcbeaaW.PrintWords Go.Proofs.YtddkoimaghcbeaaW.PrintLast Go.Proofs.YtddkoimaghcbeaaW.PrintMore
set_option linter.unusedVariables false
set_option linter.unusedSimpArgs false
/-- How many tries are enough. -/
def enZ (n : Int) : Int := if n ≤ 0 then 0 else if 20 < n then 4611686018427387904 else (lin_Enough.f 100 n).getD 0
theorem enZ_small : ∀ m : Nat, m < 26 → lin_Enough.f 100 (m : Int) = some (enZ m) := by decide +kernel
def enR (d : Nat) : Int := (List.range (16 - d)).foldl (fun (a : Int) (t : Nat) => a * (26 - (t : Int))) 1
theorem enR_step : ∀ d : Nat, d < 16 → enR d = enR (d + 1) * (11 + (d : Int)) ∧ 1 ≤ enR (d + 1) := by decide +kernel
theorem en_big : ∀ (d : Nat), d ≤ 16 → ∀ x0 x3 x4 : Int, 10 + (d : Int) ≤ x0 → x0 ≤ 9223372036854775807 → 0 ≤ x3 → x3 ≤ 4611686018427387904 → enR d ≤ x4 → x4 ≤ 4611686018427387904 → ∃ k, lin_Enough.l0 k x0 x3 x4 = some 4611686018427387904
  | 0, _, x0, x3, x4, h0, _, _, _, h4, h5 => by
    have : (4611686018427387904 : Int) < enR 0 := by decide +kernel
    omega
  | d + 1, hd, x0, x3, x4, h0, h1, h2, h3, h4, h5 => by
    obtain ⟨e1, e2⟩ := enR_step d (by omega)
    have hx0 : 0 < x0 := by omega
    have hq0 : 0 ≤ (4611686018427387904 : Int) / x0 := Int.ediv_nonneg (by decide) (by omega)
    have hq1 : (4611686018427387904 : Int) / x0 ≤ 4611686018427387904 := Int.ediv_le_self _ (by decide)
    have hw : wrap64 (Int.tdiv (4611686018427387904 : Int) x0) = (4611686018427387904 : Int) / x0 := by rw [Int.tdiv_eq_ediv_of_nonneg (by decide)]; exact w64 (by omega) (by omega)
    by_cases c : x4 > (4611686018427387904 : Int) / x0
    · refine ⟨1, ?_⟩
      rw [lin_Enough.l0, if_pos (by omega), if_neg (by omega), hw, if_pos c]
    have hm : x4 * x0 ≤ 4611686018427387904 := (Int.le_ediv_iff_mul_le hx0).mp (by omega)
    have hl : enR d ≤ x4 * x0 := by
      rw [e1]
      have h40 : 0 ≤ x4 := by omega
      have hd0 : 0 ≤ 11 + (d : Int) := by omega
      exact Int.mul_le_mul h4 (by push_cast at h0; omega) hd0 h40
    have hp : 0 ≤ x4 * x0 := Int.mul_nonneg (by omega) (by omega)
    have hwm : wrap64 (x4 * x0) = x4 * x0 := w64 (by omega) (by omega)
    have hws : wrap64 (4611686018427387904 - x4 * x0) = 4611686018427387904 - x4 * x0 := w64 (by omega) (by omega)
    by_cases c2 : x3 > 4611686018427387904 - x4 * x0
    · refine ⟨1, ?_⟩
      rw [lin_Enough.l0, if_pos (by omega), if_neg (by omega), hw, if_neg c, hwm, hws, if_pos c2]
    have hw1 : wrap64 (x0 - 1) = x0 - 1 := w64 (by omega) (by omega)
    have hw2 : wrap64 (x3 + x4 * x0) = x3 + x4 * x0 := w64 (by omega) (by omega)
    obtain ⟨k, hk⟩ := en_big d (by omega) (x0 - 1) (x3 + x4 * x0) (x4 * x0) (by push_cast at h0; omega) (by omega) (by omega) (by omega) hl hm
    refine ⟨k + 1, ?_⟩
    rw [lin_Enough.l0, if_pos (by omega), if_neg (by omega), hw, if_neg c, hwm, hws, if_neg c2, hw1, hw2]
    exact hk
theorem lin_en (n : Int) (h1 : n ≤ 9223372036854775807) : ∃ k, lin_Enough.f k n = some (enZ n) := by
  by_cases c : n ≤ 0
  · refine ⟨1, ?_⟩
    rw [lin_Enough.f, lin_Enough.l0, if_neg (by omega), enZ, if_pos c]
  by_cases d : n < 26
  · obtain ⟨m, rfl⟩ := Int.eq_ofNat_of_zero_le (show 0 ≤ n by omega)
    exact ⟨100, enZ_small m (by omega)⟩
  · obtain ⟨k, hk⟩ := en_big 16 (Nat.le_refl _) n 0 1 (by omega) h1 (by decide) (by decide) (by decide +kernel) (by decide)
    refine ⟨k, ?_⟩
    rw [enZ, if_neg c, if_pos (by omega)]
    exact hk
end Go.Proofs.Ytddkoimaghcbeaa.PVmSteps
end
section
namespace Go.Proofs.Ytddkoimaghcbeaa.PVmSteps
open Go.RowKit Go.Proofs.YtddkoimaghcbeaaW.PrintWords Go.Proofs.YtddkoimaghcbeaaW.PrintLast Go.Proofs.YtddkoimaghcbeaaW.PrintMore
set_option linter.unusedVariables false
set_option linter.unusedSimpArgs false
/-- A search that is gone through at once. -/
def fullZ (q : LinQ) : LinS := goZ q 2147483648 (newZ q)
theorem fullZ_over {L : List S36} {fuel budget : Int} {ops : List S65} (h : newE L fuel budget ops = 0) : (fullZ ⟨L, fuel, budget, ops⟩).over = true := goZ_fin (newE_0 h).1 (newE_W h) (by have := (newE_0 h).2.1; show budget < _; omega)
theorem fullZ_W {L : List S36} {fuel budget : Int} {ops : List S65} (h : newE L fuel budget ops = 0) : LinW ⟨L, fuel, budget, ops⟩ (fullZ ⟨L, fuel, budget, ops⟩) := LinW.go (newE_0 h).1 _ (newE_W h)
set_option maxRecDepth 100000 in
set_option maxHeartbeats 4000000 in
theorem lin_whole_n (A0 A3 : Option Addr) (c0 c3 : Nat) (L : List S36) (fuel budget : Int) (ops : List S65) (w : World) (hC0 : Kd.C k36 w A0 L.length L) (hc0 : L.length ≤ c0) (hL : L.length ≤ 300) (hC3 : Kd.C k65 w A3 ops.length ops) (hc3 : ops.length ≤ c3) (h : newE L fuel budget ops ≠ 0) :
    Calls Try.prog 48 #[.slice A0 L.length c0, .int .i64 fuel, .int .i64 budget, .slice A3 ops.length c3] w fun e w' => e = .returned (.tuple #[.agg #[.int .i64 0, .slice none 0 0, .int .i64 0], .bool false]) ∧ Below w.heap.size w w' := by
  replace hC0 := Aside0.mk hC0
  replace hC3 := Aside0.mk hC3
  replace hL := Aside0.mk hL
  have hE := Aside0.mk h
  obtain ⟨er, her⟩ : ∃ x, x = newE L fuel budget ops := ⟨_, rfl⟩
  have hne : (er != 0) = true := by rw [her]; simpa using h
  replace her := Aside0.mk her
  clear h
  go_enter Try.func48, Try.ntmps48
  go_wp2_with (first | (go_at_call 39; (with_reducible refine (lin_New_n A0 A3 c0 c3 L fuel budget ops _ (Kd.C_alloc hC0.out _) hc0 hL.out (Kd.C_alloc hC3.out _) hc3 hE.out).mono ?_); rw [← her.out]; rintro e W1 ⟨rfl, hB1⟩; have hbs := blk_below (blk_new w verZ) hB1; have s0 := blk_cell hbs 0; have s1 := blk_cell hbs 1; have s2 := blk_cell hbs 2; have g0 := blk_frozen hbs 0; have g1 := blk_frozen hbs 1; have g2 := blk_frozen hbs 2; simp only [verZ, List.getElem?_toArray, List.getElem?_cons_zero, List.getElem?_cons_succ] at s0 s1 s2; replace hbs := Aside0.mk hbs; replace hB1 := Aside0.mk hB1))
  have h3 : Aside0 ((((W1.setCell ⟨w.heap.size, 0, none⟩ (.int .i64 0)).setCell ⟨w.heap.size, 1, none⟩ (.slice none 0 0)).setCell ⟨w.heap.size, 2, none⟩ (.int .i64 0)).heap[w.heap.size]? = some (Obj.cells #[.int .i64 0, .slice none 0 0, .int .i64 0] 75 (0, 0))) := ⟨by simpa [verZ] using blk_set (blk_set (blk_set hbs.out 0 (.int .i64 0)) 1 (.slice none 0 0)) 2 (.int .i64 0)⟩
  refine bodyPost_ret (results_ct Try.results48 _ _ w.heap.size _ _ _ _ rfl h3.out Try.underlying75 rfl (by kernel_rfl)) rfl ?_
  exact ⟨rfl, below_set (below_set (below_set (below_step (below_alloc (Below.refl _ _) _) hB1.out) (Nat.le_refl _)) (Nat.le_refl _)) (Nat.le_refl _)⟩
set_option maxRecDepth 100000 in
set_option maxHeartbeats 4000000 in
theorem lin_whole_y (A0 A3 : Option Addr) (c0 c3 : Nat) (L : List S36) (fuel budget : Int) (ops : List S65) (w : World) (hC0 : Kd.C k36 w A0 L.length L) (hc0 : L.length ≤ c0) (hL : L.length ≤ 300) (hC3 : Kd.C k65 w A3 ops.length ops) (hc3 : ops.length ≤ c3) (h : newE L fuel budget ops = 0) :
    Calls Try.prog 48 #[.slice A0 L.length c0, .int .i64 fuel, .int .i64 budget, .slice A3 ops.length c3] w fun e w' => ∃ v, e = .returned (.tuple #[.agg #[.int .i64 (fullZ ⟨L, fuel, budget, ops⟩).kind, v, .int .i64 ((fullZ ⟨L, fuel, budget, ops⟩).tries : Int)], .bool true]) ∧ Kd.R (Kd.int .i64) 3 w' w.heap.size (fun _ => True) v (if (fullZ ⟨L, fuel, budget, ops⟩).kind = 1 then (fullZ ⟨L, fuel, budget, ops⟩).order else []) ∧ Below w.heap.size w w' := by
  replace hC0 := Aside0.mk hC0
  replace hC3 := Aside0.mk hC3
  replace hL := Aside0.mk hL
  have hE := Aside0.mk h
  have hov : Aside0 ((goZ ⟨L, fuel, budget, ops⟩ 2147483648 (newZ ⟨L, fuel, budget, ops⟩)).over = true) := ⟨fullZ_over h⟩
  have hW := Aside0.mk (newE_W h)
  have hth : Aside0 ((thru (LinQ.mk L fuel budget ops).L).2.2 = 0) := ⟨(newE_0 h).1⟩
  have hfu : Aside0 ((LinQ.mk L fuel budget ops).fuel ≤ 9223372036854775807) := ⟨by have := (newE_0 h).2.1; show fuel ≤ _; omega⟩
  have hol : Aside0 ((goZ ⟨L, fuel, budget, ops⟩ 2147483648 (newZ ⟨L, fuel, budget, ops⟩)).order.length ≤ 1073741824) := ⟨by
    have y := fullZ_W h
    have y1 := y.ol
    have y2 := y.tb
    have y3 := y.b1
    show (fullZ ⟨L, fuel, budget, ops⟩).order.length ≤ _
    omega⟩
  obtain ⟨S, hSe⟩ : ∃ S, S = fullZ ⟨L, fuel, budget, ops⟩ := ⟨_, rfl⟩
  have hgo : goZ ⟨L, fuel, budget, ops⟩ 2147483648 (newZ ⟨L, fuel, budget, ops⟩) = S := hSe.symm
  rw [hgo] at hov hol
  rw [← hSe]
  obtain ⟨od, hod⟩ : ∃ od, od = (if S.kind = 1 then S.order else []) := ⟨_, rfl⟩
  obtain ⟨kd, hkd⟩ : ∃ k, k = S.kind := ⟨_, rfl⟩
  obtain ⟨td, htd⟩ : ∃ t : Int, t = (S.tries : Int) := ⟨_, rfl⟩
  have hver : Aside0 (∀ (w0 W : World) (g : Nat), LinT w0 W ⟨L, fuel, budget, ops⟩ g S → Calls Try.prog 43 #[.pointer (some ⟨g, 0, none⟩)] W fun e w' => ∃ v, e = .returned (.tuple #[.agg #[.int .i64 kd, v, .int .i64 td], .bool true]) ∧ Kd.R (Kd.int .i64) 3 w' W.heap.size (fun _ => True) v od ∧ Below W.heap.size W w') := ⟨fun w0 W g hT => by
    have y := lin_Verdict hT hol.out
    rw [if_pos hov.out, if_pos hov.out, hov.out] at y
    have e1 : (if true = true ∧ S.kind = 1 then S.order else []) = od := by rw [hod]; simp
    rw [e1, ← hkd, ← htd] at y
    exact y⟩
  rw [← hod, ← hkd, ← htd]
  replace hgo := Aside0.mk hgo
  clear h hSe hod hkd htd
  go_enter Try.func48, Try.ntmps48
  go_wp2_with (first | (go_at_call 39; (with_reducible refine (lin_New_y A0 A3 c0 c3 L fuel budget ops _ (Kd.C_alloc hC0.out _) hc0 hL.out (Kd.C_alloc hC3.out _) hc3 hE.out).mono ?_); rintro e W1 ⟨g, rfl, hT⟩; replace hT := Aside0.mk hT) | (go_at_call 42; (with_reducible refine (lin_Go hT.out hW.out hth.out hfu.out 2147483648 (by decide) (by decide)).mono ?_); rw [show (2147483648 : Int).toNat = 2147483648 from rfl, hgo.out, hov.out]; rintro e W2 ⟨rfl, hT2⟩; replace hT2 := Aside0.mk hT2) | (go_at_call 43; (with_reducible refine (hver.out _ _ _ hT2.out).mono ?_); rintro e W7 ⟨v, rfl, hv, hB7⟩; obtain ⟨A8, c8_, rfl⟩ := Kd.R_slice hv; have hbs := blk_below (blk_below (blk_new w verZ) hT2.out.below) hB7; have s0 := blk_cell hbs 0; have s1 := blk_cell hbs 1; have s2 := blk_cell hbs 2; have g0 := blk_frozen hbs 0; have g1 := blk_frozen hbs 1; have g2 := blk_frozen hbs 2; simp only [verZ, List.getElem?_toArray, List.getElem?_cons_zero, List.getElem?_cons_succ] at s0 s1 s2; replace hbs := Aside0.mk hbs; replace hB7 := Aside0.mk hB7; replace hv := Aside0.mk hv))
  have h3 : Aside0 ((((W7.setCell ⟨w.heap.size, 0, none⟩ (.int .i64 kd)).setCell ⟨w.heap.size, 1, none⟩ (.slice A8 od.length c8_)).setCell ⟨w.heap.size, 2, none⟩ (.int .i64 td)).heap[w.heap.size]? = some (Obj.cells #[.int .i64 kd, .slice A8 od.length c8_, .int .i64 td] 75 (0, 0))) := ⟨by simpa [verZ] using blk_set (blk_set (blk_set hbs.out 0 (.int .i64 kd)) 1 (.slice A8 od.length c8_)) 2 (.int .i64 td)⟩
  refine bodyPost_ret (results_ct Try.results48 _ _ w.heap.size _ _ _ _ rfl h3.out Try.underlying75 rfl (by kernel_rfl)) rfl ?_
  refine ⟨_, rfl, ?_, ?_⟩
  · exact R1_same rfl (Kd.R_lower hv.out (Nat.le_trans (below_alloc (Below.refl _ _) _).size hT2.out.below.size)) (((SameT.set hbs.out (by decide) _ _).trans (.set (blk_set hbs.out _ _) (by decide) _ _)).trans (.set (blk_set (blk_set hbs.out _ _) _ _) (by decide) _ _))
  · exact below_set (below_set (below_set (below_step (below_step (below_alloc (Below.refl _ _) _) hT2.out.below) hB7.out) (Nat.le_refl _)) (Nat.le_refl _)) (Nat.le_refl _)
end Go.Proofs.Ytddkoimaghcbeaa.PVmSteps
end
