/- A part of what the law LinBegins stands on, only as far as it is needed (the words and walks were printed or written in this seat; this text was cut by a program of this session, wip/bin/trim.py). No condition beyond what each theorem says. -/
import Derived.Test.YtddkoimaghcbeaaZLGPVmStepsx0
import Derived.Test.YtddkoimaghcbeaaZLGPVmStepsx2
import Derived.Test.YtddkoimaghcbeaaZLGPVmStepsx3
import Derived.Test.YtddkoimaghcbeaaZLGPVmStepsx4
import Derived.Test.YtddkoimaghcbeaaZLGPVmStepsx5
import Derived.Test.YtddkoimaghcbeaaZLGTmplja
section
namespace Go.Proofs.Ytddkoimaghcbeaa.PVmSteps
open Go.RowKit Go.Proofs.YtddkoimaghcbeaaW.PrintWords Go.Proofs.YtddkoimaghcbeaaW.PrintLast Go.Proofs.YtddkoimaghcbeaaW.PrintMore
set_option linter.unusedVariables false
set_option linter.unusedSimpArgs false
/-- A search that is gone through at once. -/
def fullZ (q : LinQ) : LinS := goZ q 2147483648 (newZ q)
theorem fullZ_over {L : List S36} {fuel budget : Int} {ops : List S65} (h : newE L fuel budget ops = 0) : (fullZ ⟨L, fuel, budget, ops⟩).over = true := goZ_fin (newE_0 h).1 (newE_W h) (by have := (newE_0 h).2.1; show budget < _; omega)
theorem fullZ_W {L : List S36} {fuel budget : Int} {ops : List S65} (h : newE L fuel budget ops = 0) : LinW ⟨L, fuel, budget, ops⟩ (fullZ ⟨L, fuel, budget, ops⟩) := LinW.go (newE_0 h).1 _ (newE_W h)
set_option maxRecDepth 100000 in
set_option maxHeartbeats 4000000 in
theorem lin_whole_n (A0 A3 : Option Addr) (c0 c3 : Nat) (L : List S36) (fuel budget : Int) (ops : List S65) (w : World) (hC0 : Kd.C k36 w A0 L.length L) (hc0 : L.length ≤ c0) (hL : L.length ≤ 300) (hC3 : Kd.C k65 w A3 ops.length ops) (hc3 : ops.length ≤ c3) (h : newE L fuel budget ops ≠ 0) :
    Calls Try.prog 48 #[.slice A0 L.length c0, .int .i64 fuel, .int .i64 budget, .slice A3 ops.length c3] w fun e w' => e = .returned (.tuple #[.agg #[.int .i64 0, .slice none 0 0, .int .i64 0], .bool false]) ∧ Below w.heap.size w w' := by
  replace hC0 := Aside0.mk hC0
  replace hC3 := Aside0.mk hC3
  replace hL := Aside0.mk hL
  have hE := Aside0.mk h
  obtain ⟨er, her⟩ : ∃ x, x = newE L fuel budget ops := ⟨_, rfl⟩
  have hne : (er != 0) = true := by rw [her]; simpa using h
  replace her := Aside0.mk her
  clear h
  go_enter Try.func48, Try.ntmps48
  go_wp2_with (first | (go_at_call 39; (with_reducible refine (lin_New_n A0 A3 c0 c3 L fuel budget ops _ (Kd.C_alloc hC0.out _) hc0 hL.out (Kd.C_alloc hC3.out _) hc3 hE.out).mono ?_); rw [← her.out]; rintro e W1 ⟨rfl, hB1⟩; have hbs := blk_below (blk_new w verZ) hB1; have s0 := blk_cell hbs 0; have s1 := blk_cell hbs 1; have s2 := blk_cell hbs 2; have g0 := blk_frozen hbs 0; have g1 := blk_frozen hbs 1; have g2 := blk_frozen hbs 2; simp only [verZ, List.getElem?_toArray, List.getElem?_cons_zero, List.getElem?_cons_succ] at s0 s1 s2; replace hbs := Aside0.mk hbs; replace hB1 := Aside0.mk hB1))
  have h3 : Aside0 ((((W1.setCell ⟨w.heap.size, 0, none⟩ (.int .i64 0)).setCell ⟨w.heap.size, 1, none⟩ (.slice none 0 0)).setCell ⟨w.heap.size, 2, none⟩ (.int .i64 0)).heap[w.heap.size]? = some (Obj.cells #[.int .i64 0, .slice none 0 0, .int .i64 0] 75 (0, 0))) := ⟨by simpa [verZ] using blk_set (blk_set (blk_set hbs.out 0 (.int .i64 0)) 1 (.slice none 0 0)) 2 (.int .i64 0)⟩
  refine bodyPost_ret (results_ct Try.results48 _ _ w.heap.size _ _ _ _ rfl h3.out Try.underlying75 rfl (by kernel_rfl)) rfl ?_
  exact ⟨rfl, below_set (below_set (below_set (below_step (below_alloc (Below.refl _ _) _) hB1.out) (Nat.le_refl _)) (Nat.le_refl _)) (Nat.le_refl _)⟩
set_option maxRecDepth 100000 in
set_option maxHeartbeats 4000000 in
theorem lin_whole_y (A0 A3 : Option Addr) (c0 c3 : Nat) (L : List S36) (fuel budget : Int) (ops : List S65) (w : World) (hC0 : Kd.C k36 w A0 L.length L) (hc0 : L.length ≤ c0) (hL : L.length ≤ 300) (hC3 : Kd.C k65 w A3 ops.length ops) (hc3 : ops.length ≤ c3) (h : newE L fuel budget ops = 0) :
    Calls Try.prog 48 #[.slice A0 L.length c0, .int .i64 fuel, .int .i64 budget, .slice A3 ops.length c3] w fun e w' => ∃ v, e = .returned (.tuple #[.agg #[.int .i64 (fullZ ⟨L, fuel, budget, ops⟩).kind, v, .int .i64 ((fullZ ⟨L, fuel, budget, ops⟩).tries : Int)], .bool true]) ∧ Kd.R (Kd.int .i64) 3 w' w.heap.size (fun _ => True) v (if (fullZ ⟨L, fuel, budget, ops⟩).kind = 1 then (fullZ ⟨L, fuel, budget, ops⟩).order else []) ∧ Below w.heap.size w w' := by
  replace hC0 := Aside0.mk hC0
  replace hC3 := Aside0.mk hC3
  replace hL := Aside0.mk hL
  have hE := Aside0.mk h
  have hov : Aside0 ((goZ ⟨L, fuel, budget, ops⟩ 2147483648 (newZ ⟨L, fuel, budget, ops⟩)).over = true) := ⟨fullZ_over h⟩
  have hW := Aside0.mk (newE_W h)
  have hth : Aside0 ((thru (LinQ.mk L fuel budget ops).L).2.2 = 0) := ⟨(newE_0 h).1⟩
  have hfu : Aside0 ((LinQ.mk L fuel budget ops).fuel ≤ 9223372036854775807) := ⟨by have := (newE_0 h).2.1; show fuel ≤ _; omega⟩
  have hol : Aside0 ((goZ ⟨L, fuel, budget, ops⟩ 2147483648 (newZ ⟨L, fuel, budget, ops⟩)).order.length ≤ 1073741824) := ⟨by
    have y := fullZ_W h
    have y1 := y.ol
    have y2 := y.tb
    have y3 := y.b1
    show (fullZ ⟨L, fuel, budget, ops⟩).order.length ≤ _
    omega⟩
  obtain ⟨S, hSe⟩ : ∃ S, S = fullZ ⟨L, fuel, budget, ops⟩ := ⟨_, rfl⟩
  have hgo : goZ ⟨L, fuel, budget, ops⟩ 2147483648 (newZ ⟨L, fuel, budget, ops⟩) = S := hSe.symm
  rw [hgo] at hov hol
  rw [← hSe]
  obtain ⟨od, hod⟩ : ∃ od, od = (if S.kind = 1 then S.order else []) := ⟨_, rfl⟩
  obtain ⟨kd, hkd⟩ : ∃ k, k = S.kind := ⟨_, rfl⟩
  obtain ⟨td, htd⟩ : ∃ t : Int, t = (S.tries : Int) := ⟨_, rfl⟩
  have hver : Aside0 (∀ (w0 W : World) (g : Nat), LinT w0 W ⟨L, fuel, budget, ops⟩ g S → Calls Try.prog 43 #[.pointer (some ⟨g, 0, none⟩)] W fun e w' => ∃ v, e = .returned (.tuple #[.agg #[.int .i64 kd, v, .int .i64 td], .bool true]) ∧ Kd.R (Kd.int .i64) 3 w' W.heap.size (fun _ => True) v od ∧ Below W.heap.size W w') := ⟨fun w0 W g hT => by
    have y := lin_Verdict hT hol.out
    rw [if_pos hov.out, if_pos hov.out, hov.out] at y
    have e1 : (if true = true ∧ S.kind = 1 then S.order else []) = od := by rw [hod]; simp
    rw [e1, ← hkd, ← htd] at y
    exact y⟩
  rw [← hod, ← hkd, ← htd]
  replace hgo := Aside0.mk hgo
  clear h hSe hod hkd htd
  go_enter Try.func48, Try.ntmps48
  go_wp2_with (first | (go_at_call 39; (with_reducible refine (lin_New_y A0 A3 c0 c3 L fuel budget ops _ (Kd.C_alloc hC0.out _) hc0 hL.out (Kd.C_alloc hC3.out _) hc3 hE.out).mono ?_); rintro e W1 ⟨g, rfl, hT⟩; replace hT := Aside0.mk hT) | (go_at_call 42; (with_reducible refine (lin_Go hT.out hW.out hth.out hfu.out 2147483648 (by decide) (by decide)).mono ?_); rw [show (2147483648 : Int).toNat = 2147483648 from rfl, hgo.out, hov.out]; rintro e W2 ⟨rfl, hT2⟩; replace hT2 := Aside0.mk hT2) | (go_at_call 43; (with_reducible refine (hver.out _ _ _ hT2.out).mono ?_); rintro e W7 ⟨v, rfl, hv, hB7⟩; obtain ⟨A8, c8_, rfl⟩ := Kd.R_slice hv; have hbs := blk_below (blk_below (blk_new w verZ) hT2.out.below) hB7; have s0 := blk_cell hbs 0; have s1 := blk_cell hbs 1; have s2 := blk_cell hbs 2; have g0 := blk_frozen hbs 0; have g1 := blk_frozen hbs 1; have g2 := blk_frozen hbs 2; simp only [verZ, List.getElem?_toArray, List.getElem?_cons_zero, List.getElem?_cons_succ] at s0 s1 s2; replace hbs := Aside0.mk hbs; replace hB7 := Aside0.mk hB7; replace hv := Aside0.mk hv))
  have h3 : Aside0 ((((W7.setCell ⟨w.heap.size, 0, none⟩ (.int .i64 kd)).setCell ⟨w.heap.size, 1, none⟩ (.slice A8 od.length c8_)).setCell ⟨w.heap.size, 2, none⟩ (.int .i64 td)).heap[w.heap.size]? = some (Obj.cells #[.int .i64 kd, .slice A8 od.length c8_, .int .i64 td] 75 (0, 0))) := ⟨by simpa [verZ] using blk_set (blk_set (blk_set hbs.out 0 (.int .i64 kd)) 1 (.slice A8 od.length c8_)) 2 (.int .i64 td)⟩
  refine bodyPost_ret (results_ct Try.results48 _ _ w.heap.size _ _ _ _ rfl h3.out Try.underlying75 rfl (by kernel_rfl)) rfl ?_
  refine ⟨_, rfl, ?_, ?_⟩
  · exact R1_same rfl (Kd.R_lower hv.out (Nat.le_trans (below_alloc (Below.refl _ _) _).size hT2.out.below.size)) (((SameT.set hbs.out (by decide) _ _).trans (.set (blk_set hbs.out _ _) (by decide) _ _)).trans (.set (blk_set (blk_set hbs.out _ _) _ _) (by decide) _ _))
  · exact below_set (below_set (below_set (below_step (below_step (below_alloc (Below.refl _ _) _) hT2.out.below) hB7.out) (Nat.le_refl _)) (Nat.le_refl _)) (Nat.le_refl _)
end Go.Proofs.Ytddkoimaghcbeaa.PVmSteps
end
section
namespace Go.Proofs.Ytddkoimaghcbeaa.PVmSteps
open Go.RowKit Go.Proofs.YtddkoimaghcbeaaW.PrintWords Go.Proofs.YtddkoimaghcbeaaW.PrintLast Go.Proofs.YtddkoimaghcbeaaW.PrintMore
set_option linter.unusedVariables false
set_option linter.unusedSimpArgs false
abbrev r0Z : Ps := (0, [0, 0, 0, 0])
/-- Operation j is done next at a position. -/
def Mv (q : LinQ) (p : Ps) (j : Nat) (p' : Ps) : Prop :=
  j < q.ops.length ∧ freeZ q.ops p.1 j = true ∧ ∃ rr ru cs, vstep q.L p.2 (rd_T65 q.ops (j : Int)).f1 (rd_T65 q.ops (j : Int)).f2 q.fuel = some (1, cs, rr, ru) ∧ ((rd_T65 q.ops (j : Int)).f3 = false ∨ rr = (rd_T65 q.ops (j : Int)).f4) ∧ p' = (p.1 ||| 2 ^ j, cs)
def Pth (q : LinQ) : Ps → List Int → Ps → Prop
  | p, [], p' => p' = p
  | p, x :: o, p' => ∃ (j : Nat) (m : Ps), x = (j : Int) ∧ Mv q p j m ∧ Pth q m o p'
theorem Pth.snoc {q : LinQ} : ∀ {p : Ps} {o : List Int} {m p' : Ps} {j : Nat}, Pth q p o m → Mv q m j p' → Pth q p (o ++ [(j : Int)]) p'
  | p, [], m, p', j, h, hm => ⟨j, p', rfl, by rw [← h]; exact hm, rfl⟩
  | p, x :: o, m, p', j, ⟨i, n, e, h1, h2⟩, hm => ⟨i, n, e, h1, Pth.snoc h2 hm⟩
/-- All that are done are in the set. -/
def FullP (ops : List S65) (s : Nat) : Prop := s &&& mustZ ops = mustZ ops
theorem full_iff {ops : List S65} {s : Nat} : FullP ops s ↔ ∀ j : Nat, j < ops.length → (rd_T65 ops (j : Int)).f3 = true → s.testBit j = true := by
  unfold FullP
  constructor
  · intro h j hj hf
    have e := congrArg (fun z => z.testBit j) h
    simp only [Nat.testBit_and, mustZ, mask_bit, hj, decide_true, hf, Bool.and_true] at e
    exact e
  · intro h
    refine Nat.eq_of_testBit_eq (fun j => ?_)
    rw [Nat.testBit_and, mustZ, mask_bit]
    by_cases hj : j < ops.length
    · cases hf : (rd_T65 ops (j : Int)).f3 with
      | false => simp
      | true => simp [hj, h j hj hf]
    · simp [hj]
theorem free_iff {ops : List S65} {s j : Nat} : freeZ ops s j = true ↔ s.testBit j = false ∧ ∀ k : Nat, k < ops.length → befZ (rd_T65 ops (k : Int)) (rd_T65 ops (j : Int)) = true → s.testBit k = true := by
  unfold freeZ
  rw [Bool.and_eq_true, Bool.not_eq_true', decide_eq_true_iff, lack_0]
  constructor
  · rintro ⟨h1, h2⟩
    exact ⟨h1, fun k hk hb => h2 k (by rw [aheadZ, mask_bit]; simp [hk, hb])⟩
  · rintro ⟨h1, h2⟩
    refine ⟨h1, fun k hk => ?_⟩
    rw [aheadZ, mask_bit] at hk
    simp only [Bool.and_eq_true, decide_eq_true_iff] at hk
    exact h2 k hk.1 hk.2
theorem mv_bit {q : LinQ} {p p' : Ps} {j : Nat} (h : Mv q p j p') (k : Nat) : p'.1.testBit k = (p.1.testBit k || decide (j = k)) := by
  obtain ⟨_, _, rr, ru, cs, _, _, rfl⟩ := h
  rw [Nat.testBit_or, Nat.testBit_two_pow]
end Go.Proofs.Ytddkoimaghcbeaa.PVmSteps
end
