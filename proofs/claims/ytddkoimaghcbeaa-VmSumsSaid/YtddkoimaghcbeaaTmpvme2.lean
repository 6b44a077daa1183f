/- A part of the proofs about layers 16 to 18 (vm, order, lin) and their references: contracts and plain lemmas that the laws stand on. No condition beyond what each theorem says. -/
import Derived.Test.YtddkoimaghcbeaaPVmStepsx1
import Derived.Test.YtddkoimaghcbeaaPVmStepsx2
import Derived.Test.YtddkoimaghcbeaaPVmStepsx3
import Derived.Test.YtddkoimaghcbeaaPVmStepsx4
import Derived.Test.YtddkoimaghcbeaaPVmStepsx5
import Derived.Test.YtddkoimaghcbeaaPVmStepsx6
import Derived.Test.YtddkoimaghcbeaaTmpvmx
import Derived.Test.YtddkoimaghcbeaaTmprfp
namespace Go.Proofs.Ytddkoimaghcbeaa.PVmSteps
open Go.RowKit Go.Proofs.YtddkoimaghcbeaaW.PrintWords Go.Proofs.YtddkoimaghcbeaaW.PrintLast Go.Proofs.YtddkoimaghcbeaaW.PrintMore
set_option linter.unusedVariables false
set_option linter.unusedSimpArgs false
theorem vm_litC4n (w : World) (n : Nat) (hn : w.heap.size = n) (a b c d a' b' c' d' : Int) : Kd.C k36 (w.alloc (.cells #[.int .i64 a, .int .i64 b, .int .i64 c, .int .i64 d, .int .i64 a', .int .i64 b', .int .i64 c', .int .i64 d'] 36)) (some ⟨n, 0, none⟩) ([⟨a, b⟩, ⟨c, d⟩, ⟨a', b'⟩, ⟨c', d'⟩] : List S36).length [⟨a, b⟩, ⟨c, d⟩, ⟨a', b'⟩, ⟨c', d'⟩] := by
  subst hn; exact vm_litC4 w a b c d a' b' c' d'
/-- What two numbers make: how the step ends, what it answers, what it uses. -/
def sumK (a b op : Int) : Int := match vtwo op a b with | some _ => 1 | none => 2
def sumR (a b op : Int) : Int := match vtwo op a b with | some v => v | none => 0
def sumU (a b op : Int) : Int := match vtwo op a b with | some _ => 4 | none => 3
theorem sum_step (a b op : Int) (hop : op = 8 ∨ op = 9 ∨ op = 10 ∨ op = 11 ∨ op = 12 ∨ op = 13 ∨ op = 14) : vstep [⟨0, a⟩, ⟨6, 0⟩, ⟨op, 0⟩, ⟨18, 0⟩] [0, 0, 0, 0] 0 b 9 = some (sumK a b op, [0, 0, 0, 0], sumR a b op, sumU a b op) := by
  unfold sumK sumR sumU
  cases h : vtwo op a b with
  | none => rcases hop with rfl | rfl | rfl | rfl | rfl | rfl | rfl <;> simp [vstep, vgo, vdo, rd_T36, wrap64, h]
  | some v => rcases hop with rfl | rfl | rfl | rfl | rfl | rfl | rfl <;> simp [vstep, vgo, vdo, rd_T36, wrap64, h]
/-- The steps that are made, the first i of seven. -/
def arrS (a b : Int) (i : Nat) : Array Value := ((List.range 7).flatMap fun j => if j < i then [Value.int .i64 (sumK a b (8 + j)), .int .i64 0, .int .i64 0, .int .i64 0, .int .i64 0, .int .i64 (sumR a b (8 + j)), .int .i64 (sumU a b (8 + j))] else [.int .i64 0, .int .i64 0, .int .i64 0, .int .i64 0, .int .i64 0, .int .i64 0, .int .i64 0]).toArray
/-- 1 of what is so. -/
def bitZ (p : Bool) : Int := if p then 1 else 0
theorem bitZ_is (p : Bool) : (bitZ p == 1) = p := by cases p <;> rfl
theorem sum_lt {a b : Int} : sumR a b 13 = bitZ (decide (a < b)) := by by_cases c : a < b <;> simp [sumR, vtwo, bitZ, c]
theorem sum_eq {a b : Int} : sumR a b 14 = bitZ (a == b) := by by_cases c : a = b <;> simp [sumR, vtwo, bitZ, c]
theorem sum_k0 {a b op : Int} (h : op = 11 ∨ op = 12) (hb : b = 0) : sumK a b op = 2 := by subst hb; rcases h with rfl | rfl <;> simp [sumK, vtwo]
theorem sum_r0 {a b op : Int} (h : op = 11 ∨ op = 12) (hb : b = 0) : sumR a b op = 0 := by subst hb; rcases h with rfl | rfl <;> simp [sumR, vtwo]
theorem sum_u0 {a b op : Int} (h : op = 11 ∨ op = 12) (hb : b = 0) : sumU a b op = 3 := by subst hb; rcases h with rfl | rfl <;> simp [sumU, vtwo]
theorem sum_k1 {a b op : Int} (h : op = 11 ∨ op = 12) (hb : ¬ b = 0) : sumK a b op = 1 := by rcases h with rfl | rfl <;> simp [sumK, vtwo, hb]
theorem sum_d {a b : Int} (hb : ¬ b = 0) : sumR a b 11 = wrap64 (a.tdiv b) := by simp [sumR, vtwo, hb]
theorem sum_m {a b : Int} (hb : ¬ b = 0) : sumR a b 12 = a.tmod b := by simp [sumR, vtwo, hb]
/-- What holds of a quotient and what is left, as the law asks it. -/
theorem sum_facts (a b : Int) (ha : -9223372036854775808 ≤ a ∧ a ≤ 9223372036854775807) (hb : -9223372036854775808 ≤ b ∧ b ≤ 9223372036854775807) (h0 : ¬ b = 0) :
    (wrap64 (wrap64 (wrap64 (a.tdiv b) * b) + a.tmod b) == a) = true ∧
    (((a.tmod b == 0) = true ∧ decide (0 ≤ a.tmod b) = true ∧ decide (a.tmod b < b) = true ∧ decide (a.tmod b < 0) = false ∧ True) ∨
     ((a.tmod b == 0) = true ∧ decide (0 ≤ a.tmod b) = true ∧ decide (a.tmod b < b) = false ∧ decide (b < wrap64 (-(a.tmod b))) = true ∧ True) ∨
     ((a.tmod b == 0) = false ∧ decide (a.tmod b < 0) = false ∧ decide (a < 0) = false ∧ decide (0 ≤ a.tmod b) = true ∧ decide (a.tmod b < b) = true ∧ True) ∨
     ((a.tmod b == 0) = false ∧ decide (a.tmod b < 0) = false ∧ decide (a < 0) = false ∧ decide (0 ≤ a.tmod b) = true ∧ decide (a.tmod b < b) = false ∧ decide (b < wrap64 (-(a.tmod b))) = true ∧ True) ∨
     ((a.tmod b == 0) = false ∧ decide (a.tmod b < 0) = true ∧ decide (a < 0) = true ∧ decide (0 ≤ a.tmod b) = false ∧ decide (b < a.tmod b) = false ∧ decide (wrap64 (-(a.tmod b)) < b) = true ∧ True) ∨
     ((a.tmod b == 0) = false ∧ decide (a.tmod b < 0) = true ∧ decide (a < 0) = true ∧ decide (0 ≤ a.tmod b) = false ∧ decide (b < a.tmod b) = true ∧ True)) := by
  have e := Int.tdiv_mul_add_tmod a b
  have hm := Int.natAbs_tmod a b
  have hlt : a.natAbs % b.natAbs < b.natAbs := Nat.mod_lt _ (by omega)
  have hlt2 : (a.tmod b).natAbs < b.natAbs := by rw [hm]; exact hlt
  have hs : (0 ≤ a → 0 ≤ a.tmod b) ∧ (a < 0 → a.tmod b ≤ 0) := by
    refine ⟨fun h => Int.tmod_nonneg b h, fun h => ?_⟩
    have h5 := Int.tmod_nonneg b (show 0 ≤ -a by omega)
    rw [Int.neg_tmod] at h5
    omega
  have hw : wrap64 (wrap64 (wrap64 (a.tdiv b) * b) + a.tmod b) = a := by
    have h1 : wrap64 (wrap64 (a.tdiv b) * b) = wrap64 (a.tdiv b * b) := by
      rw [← w_u_mul, ← w_u_mul, wu64 (wrap64 _), wu64 (a.tdiv b)]
      congr 3
      unfold wrap64; omega
    rw [h1]
    have h2 : wrap64 (wrap64 (a.tdiv b * b) + a.tmod b) = wrap64 (a.tdiv b * b + a.tmod b) := by generalize a.tdiv b * b = x; unfold wrap64; omega
    rw [h2, e]
    unfold wrap64; omega
  refine ⟨beq_iff_eq.mpr hw, ?_⟩
  have hn : wrap64 (-(a.tmod b)) = -(a.tmod b) := by unfold wrap64; omega
  rw [hn]
  generalize a.tmod b = r at *
  by_cases r0 : r = 0
  · by_cases b0 : 0 < b
    · exact .inl ⟨by simp [r0], by simp [r0], by simp [r0, b0], by simp [r0], trivial⟩
    · exact .inr (.inl ⟨by simp [r0], by simp [r0], decide_eq_false (by omega), decide_eq_true (by omega), trivial⟩)
  · have rb0 : (r == 0) = false := beq_eq_false_iff_ne.mpr r0
    by_cases r1 : 0 < r
    · by_cases b0 : 0 < b
      · exact .inr (.inr (.inl ⟨rb0, decide_eq_false (by omega), decide_eq_false (by omega), decide_eq_true (by omega), decide_eq_true (by omega), trivial⟩))
      · exact .inr (.inr (.inr (.inl ⟨rb0, decide_eq_false (by omega), decide_eq_false (by omega), decide_eq_true (by omega), decide_eq_false (by omega), decide_eq_true (by omega), trivial⟩)))
    · by_cases b0 : 0 < b
      · exact .inr (.inr (.inr (.inr (.inl ⟨rb0, decide_eq_true (by omega), decide_eq_true (by omega), decide_eq_false (by omega), decide_eq_false (by omega), decide_eq_true (by omega), trivial⟩))))
      · exact .inr (.inr (.inr (.inr (.inr ⟨rb0, decide_eq_true (by omega), decide_eq_true (by omega), decide_eq_false (by omega), decide_eq_true (by omega), trivial⟩))))
theorem sum_put0 {W : World} {g T : Nat} {a b : Int} (h : W.heap[g]? = some (.cells (arrS a b 0) T (0, 0))) : (((((((W.setCell ⟨g, 0, none⟩ (.int .i64 (sumK a b 8))).setCell ⟨g, 1, none⟩ (.int .i64 0)).setCell ⟨g, 2, none⟩ (.int .i64 0)).setCell ⟨g, 3, none⟩ (.int .i64 0)).setCell ⟨g, 4, none⟩ (.int .i64 0)).setCell ⟨g, 5, none⟩ (.int .i64 (sumR a b 8))).setCell ⟨g, 6, none⟩ (.int .i64 (sumU a b 8))).heap[g]? = some (.cells (arrS a b 1) T (0, 0)) := by
  have h7 := (blk_set (blk_set (blk_set (blk_set (blk_set (blk_set (blk_set h 0 (.int .i64 (sumK a b 8))) 1 (.int .i64 0)) 2 (.int .i64 0)) 3 (.int .i64 0)) 4 (.int .i64 0)) 5 (.int .i64 (sumR a b 8))) 6 (.int .i64 (sumU a b 8)))
  exact h7.trans (congrArg (fun c => some (Obj.cells c T (0, 0))) (by kernel_rfl))
theorem sum_put1 {W : World} {g T : Nat} {a b : Int} (h : W.heap[g]? = some (.cells (arrS a b 1) T (0, 0))) : (((((((W.setCell ⟨g, 7, none⟩ (.int .i64 (sumK a b 9))).setCell ⟨g, 8, none⟩ (.int .i64 0)).setCell ⟨g, 9, none⟩ (.int .i64 0)).setCell ⟨g, 10, none⟩ (.int .i64 0)).setCell ⟨g, 11, none⟩ (.int .i64 0)).setCell ⟨g, 12, none⟩ (.int .i64 (sumR a b 9))).setCell ⟨g, 13, none⟩ (.int .i64 (sumU a b 9))).heap[g]? = some (.cells (arrS a b 2) T (0, 0)) := by
  have h7 := (blk_set (blk_set (blk_set (blk_set (blk_set (blk_set (blk_set h 7 (.int .i64 (sumK a b 9))) 8 (.int .i64 0)) 9 (.int .i64 0)) 10 (.int .i64 0)) 11 (.int .i64 0)) 12 (.int .i64 (sumR a b 9))) 13 (.int .i64 (sumU a b 9)))
  exact h7.trans (congrArg (fun c => some (Obj.cells c T (0, 0))) (by kernel_rfl))
theorem sum_put2 {W : World} {g T : Nat} {a b : Int} (h : W.heap[g]? = some (.cells (arrS a b 2) T (0, 0))) : (((((((W.setCell ⟨g, 14, none⟩ (.int .i64 (sumK a b 10))).setCell ⟨g, 15, none⟩ (.int .i64 0)).setCell ⟨g, 16, none⟩ (.int .i64 0)).setCell ⟨g, 17, none⟩ (.int .i64 0)).setCell ⟨g, 18, none⟩ (.int .i64 0)).setCell ⟨g, 19, none⟩ (.int .i64 (sumR a b 10))).setCell ⟨g, 20, none⟩ (.int .i64 (sumU a b 10))).heap[g]? = some (.cells (arrS a b 3) T (0, 0)) := by
  have h7 := (blk_set (blk_set (blk_set (blk_set (blk_set (blk_set (blk_set h 14 (.int .i64 (sumK a b 10))) 15 (.int .i64 0)) 16 (.int .i64 0)) 17 (.int .i64 0)) 18 (.int .i64 0)) 19 (.int .i64 (sumR a b 10))) 20 (.int .i64 (sumU a b 10)))
  exact h7.trans (congrArg (fun c => some (Obj.cells c T (0, 0))) (by kernel_rfl))
theorem sum_put3 {W : World} {g T : Nat} {a b : Int} (h : W.heap[g]? = some (.cells (arrS a b 3) T (0, 0))) : (((((((W.setCell ⟨g, 21, none⟩ (.int .i64 (sumK a b 11))).setCell ⟨g, 22, none⟩ (.int .i64 0)).setCell ⟨g, 23, none⟩ (.int .i64 0)).setCell ⟨g, 24, none⟩ (.int .i64 0)).setCell ⟨g, 25, none⟩ (.int .i64 0)).setCell ⟨g, 26, none⟩ (.int .i64 (sumR a b 11))).setCell ⟨g, 27, none⟩ (.int .i64 (sumU a b 11))).heap[g]? = some (.cells (arrS a b 4) T (0, 0)) := by
  have h7 := (blk_set (blk_set (blk_set (blk_set (blk_set (blk_set (blk_set h 21 (.int .i64 (sumK a b 11))) 22 (.int .i64 0)) 23 (.int .i64 0)) 24 (.int .i64 0)) 25 (.int .i64 0)) 26 (.int .i64 (sumR a b 11))) 27 (.int .i64 (sumU a b 11)))
  exact h7.trans (congrArg (fun c => some (Obj.cells c T (0, 0))) (by kernel_rfl))
theorem sum_put4 {W : World} {g T : Nat} {a b : Int} (h : W.heap[g]? = some (.cells (arrS a b 4) T (0, 0))) : (((((((W.setCell ⟨g, 28, none⟩ (.int .i64 (sumK a b 12))).setCell ⟨g, 29, none⟩ (.int .i64 0)).setCell ⟨g, 30, none⟩ (.int .i64 0)).setCell ⟨g, 31, none⟩ (.int .i64 0)).setCell ⟨g, 32, none⟩ (.int .i64 0)).setCell ⟨g, 33, none⟩ (.int .i64 (sumR a b 12))).setCell ⟨g, 34, none⟩ (.int .i64 (sumU a b 12))).heap[g]? = some (.cells (arrS a b 5) T (0, 0)) := by
  have h7 := (blk_set (blk_set (blk_set (blk_set (blk_set (blk_set (blk_set h 28 (.int .i64 (sumK a b 12))) 29 (.int .i64 0)) 30 (.int .i64 0)) 31 (.int .i64 0)) 32 (.int .i64 0)) 33 (.int .i64 (sumR a b 12))) 34 (.int .i64 (sumU a b 12)))
  exact h7.trans (congrArg (fun c => some (Obj.cells c T (0, 0))) (by kernel_rfl))
theorem sum_put5 {W : World} {g T : Nat} {a b : Int} (h : W.heap[g]? = some (.cells (arrS a b 5) T (0, 0))) : (((((((W.setCell ⟨g, 35, none⟩ (.int .i64 (sumK a b 13))).setCell ⟨g, 36, none⟩ (.int .i64 0)).setCell ⟨g, 37, none⟩ (.int .i64 0)).setCell ⟨g, 38, none⟩ (.int .i64 0)).setCell ⟨g, 39, none⟩ (.int .i64 0)).setCell ⟨g, 40, none⟩ (.int .i64 (sumR a b 13))).setCell ⟨g, 41, none⟩ (.int .i64 (sumU a b 13))).heap[g]? = some (.cells (arrS a b 6) T (0, 0)) := by
  have h7 := (blk_set (blk_set (blk_set (blk_set (blk_set (blk_set (blk_set h 35 (.int .i64 (sumK a b 13))) 36 (.int .i64 0)) 37 (.int .i64 0)) 38 (.int .i64 0)) 39 (.int .i64 0)) 40 (.int .i64 (sumR a b 13))) 41 (.int .i64 (sumU a b 13)))
  exact h7.trans (congrArg (fun c => some (Obj.cells c T (0, 0))) (by kernel_rfl))
theorem sum_put6 {W : World} {g T : Nat} {a b : Int} (h : W.heap[g]? = some (.cells (arrS a b 6) T (0, 0))) : (((((((W.setCell ⟨g, 42, none⟩ (.int .i64 (sumK a b 14))).setCell ⟨g, 43, none⟩ (.int .i64 0)).setCell ⟨g, 44, none⟩ (.int .i64 0)).setCell ⟨g, 45, none⟩ (.int .i64 0)).setCell ⟨g, 46, none⟩ (.int .i64 0)).setCell ⟨g, 47, none⟩ (.int .i64 (sumR a b 14))).setCell ⟨g, 48, none⟩ (.int .i64 (sumU a b 14))).heap[g]? = some (.cells (arrS a b 7) T (0, 0)) := by
  have h7 := (blk_set (blk_set (blk_set (blk_set (blk_set (blk_set (blk_set h 42 (.int .i64 (sumK a b 14))) 43 (.int .i64 0)) 44 (.int .i64 0)) 45 (.int .i64 0)) 46 (.int .i64 0)) 47 (.int .i64 (sumR a b 14))) 48 (.int .i64 (sumU a b 14)))
  exact h7.trans (congrArg (fun c => some (Obj.cells c T (0, 0))) (by kernel_rfl))
set_option maxRecDepth 100000 in
set_option maxHeartbeats 8000000 in
theorem inquestlaw16_VmSums.any (a b : Int) (w : World) (wa : (Lit.int .i64 a).wf = true) (wb : (Lit.int .i64 b).wf = true) :
    Calls Try.prog 7 #[.int .i64 a, .int .i64 b] w fun e w' => e = .returned (.bool true) ∧ Below w.heap.size w w' := by
  have ra := Aside0.mk (wf_i64 wa)
  have rb := Aside0.mk (wf_i64 wb)
  clear wa wb
  go_enter Try.func7, Try.ntmps7
  go_wp2
  go_loopg [6] 7 (fun kk v6 W => ∃ i : Nat, v6 = .int .i64 i ∧ Aside0 (kk + i = 7) ∧ Aside0 (W.heap[w.heap.size]? = some (.cells (arrS a b i) 49 (0, 0))) ∧ Aside0 (Below w.heap.size w W))
  case atStart => exact ⟨0, rfl, ⟨rfl⟩, ⟨blk_new _ _⟩, ⟨below_alloc (Below.refl _ _) _⟩⟩
  case round =>
    obtain ⟨i, rfl, hk, hb, hB⟩ := hrel
    have hi8 : i = 0 ∨ i = 1 ∨ i = 2 ∨ i = 3 ∨ i = 4 ∨ i = 5 ∨ i = 6 ∨ i = 7 := by have := hk.out; omega
    rcases hi8 with rfl | rfl | rfl | rfl | rfl | rfl | rfl | rfl
    · obtain rfl : gk = 7 := by have := hk.out; omega
      have hlit := fun w => vm_lit4 w 0 a 6 0 8 0 18 0
      have ht : Aside0 ((thru ([⟨0, a⟩, ⟨6, 0⟩, ⟨8, 0⟩, ⟨18, 0⟩] : List S36)).2.2 = 0) := ⟨by kernel_rfl⟩
      have hv := Aside0.mk (sum_step a b 8 (by omega))
      go_wp2_with (first | (go_at_call 23; (with_reducible refine (vm_New_kn _ 4 4 [⟨0, a⟩, ⟨6, 0⟩, ⟨8, 0⟩, ⟨18, 0⟩] _ rfl (vm_litC4n _ _ rfl 0 a 6 0 8 0 18 0) (by simp) (by simp) ht.out).mono ?_); rintro e WM ⟨gm, vM, rfl, hM, hBM⟩; replace hM := Aside0.mk hM; replace hBM := Aside0.mk hBM) | (go_at_call 26; (with_reducible refine (vm_Step4 hM.out hBM.out.size (by simp) 0 0 0 0 0 b 9 _ 0 0 0 0 _ _ hv.out (by decide)).mono ?_); rintro e WS ⟨rfl, hBS⟩; have hb2 := blk_below (blk_below (blk_alloc hb.out _) hBM.out) hBS; have t0 := (blk_cell hb2 0).trans (show (arrS a b 0)[0]? = some (.int .i64 0) from (by kernel_rfl)); have t1 := (blk_cell hb2 1).trans (show (arrS a b 0)[1]? = some (.int .i64 0) from (by kernel_rfl)); have t2 := (blk_cell hb2 2).trans (show (arrS a b 0)[2]? = some (.int .i64 0) from (by kernel_rfl)); have t3 := (blk_cell hb2 3).trans (show (arrS a b 0)[3]? = some (.int .i64 0) from (by kernel_rfl)); have t4 := (blk_cell hb2 4).trans (show (arrS a b 0)[4]? = some (.int .i64 0) from (by kernel_rfl)); have t5 := (blk_cell hb2 5).trans (show (arrS a b 0)[5]? = some (.int .i64 0) from (by kernel_rfl)); have t6 := (blk_cell hb2 6).trans (show (arrS a b 0)[6]? = some (.int .i64 0) from (by kernel_rfl)); have y0 := blk_frozen hb2 0; have y1 := blk_frozen hb2 1; have y2 := blk_frozen hb2 2; have y3 := blk_frozen hb2 3; have y4 := blk_frozen hb2 4; have y5 := blk_frozen hb2 5; have y6 := blk_frozen hb2 6; have hB2 : Aside0 (Below w.heap.size w WS) := ⟨below_step (below_step (below_step hB.out (below_alloc (Below.refl _ _) _)) hBM.out) hBS⟩; replace hb2 := Aside0.mk hb2; clear hBS))
      go_roundg 6
      case measure => omega
      case rel => exact ⟨1, rfl, ⟨rfl⟩, ⟨sum_put0 hb2.out⟩, ⟨below_set (below_set (below_set (below_set (below_set (below_set (below_set (hB2.out) (Nat.le_refl _)) (Nat.le_refl _)) (Nat.le_refl _)) (Nat.le_refl _)) (Nat.le_refl _)) (Nat.le_refl _)) (Nat.le_refl _)⟩⟩
    · obtain rfl : gk = 6 := by have := hk.out; omega
      have hlit := fun w => vm_lit4 w 0 a 6 0 9 0 18 0
      have ht : Aside0 ((thru ([⟨0, a⟩, ⟨6, 0⟩, ⟨9, 0⟩, ⟨18, 0⟩] : List S36)).2.2 = 0) := ⟨by kernel_rfl⟩
      have hv := Aside0.mk (sum_step a b 9 (by omega))
      go_wp2_with (first | (go_at_call 23; (with_reducible refine (vm_New_kn _ 4 4 [⟨0, a⟩, ⟨6, 0⟩, ⟨9, 0⟩, ⟨18, 0⟩] _ rfl (vm_litC4n _ _ rfl 0 a 6 0 9 0 18 0) (by simp) (by simp) ht.out).mono ?_); rintro e WM ⟨gm, vM, rfl, hM, hBM⟩; replace hM := Aside0.mk hM; replace hBM := Aside0.mk hBM) | (go_at_call 26; (with_reducible refine (vm_Step4 hM.out hBM.out.size (by simp) 0 0 0 0 0 b 9 _ 0 0 0 0 _ _ hv.out (by decide)).mono ?_); rintro e WS ⟨rfl, hBS⟩; have hb2 := blk_below (blk_below (blk_alloc hb.out _) hBM.out) hBS; have t0 := (blk_cell hb2 7).trans (show (arrS a b 1)[7]? = some (.int .i64 0) from (by kernel_rfl)); have t1 := (blk_cell hb2 8).trans (show (arrS a b 1)[8]? = some (.int .i64 0) from (by kernel_rfl)); have t2 := (blk_cell hb2 9).trans (show (arrS a b 1)[9]? = some (.int .i64 0) from (by kernel_rfl)); have t3 := (blk_cell hb2 10).trans (show (arrS a b 1)[10]? = some (.int .i64 0) from (by kernel_rfl)); have t4 := (blk_cell hb2 11).trans (show (arrS a b 1)[11]? = some (.int .i64 0) from (by kernel_rfl)); have t5 := (blk_cell hb2 12).trans (show (arrS a b 1)[12]? = some (.int .i64 0) from (by kernel_rfl)); have t6 := (blk_cell hb2 13).trans (show (arrS a b 1)[13]? = some (.int .i64 0) from (by kernel_rfl)); have y0 := blk_frozen hb2 7; have y1 := blk_frozen hb2 8; have y2 := blk_frozen hb2 9; have y3 := blk_frozen hb2 10; have y4 := blk_frozen hb2 11; have y5 := blk_frozen hb2 12; have y6 := blk_frozen hb2 13; have hB2 : Aside0 (Below w.heap.size w WS) := ⟨below_step (below_step (below_step hB.out (below_alloc (Below.refl _ _) _)) hBM.out) hBS⟩; replace hb2 := Aside0.mk hb2; clear hBS))
      go_roundg 5
      case measure => omega
      case rel => exact ⟨2, rfl, ⟨rfl⟩, ⟨sum_put1 hb2.out⟩, ⟨below_set (below_set (below_set (below_set (below_set (below_set (below_set (hB2.out) (Nat.le_refl _)) (Nat.le_refl _)) (Nat.le_refl _)) (Nat.le_refl _)) (Nat.le_refl _)) (Nat.le_refl _)) (Nat.le_refl _)⟩⟩
    · obtain rfl : gk = 5 := by have := hk.out; omega
      have hlit := fun w => vm_lit4 w 0 a 6 0 10 0 18 0
      have ht : Aside0 ((thru ([⟨0, a⟩, ⟨6, 0⟩, ⟨10, 0⟩, ⟨18, 0⟩] : List S36)).2.2 = 0) := ⟨by kernel_rfl⟩
      have hv := Aside0.mk (sum_step a b 10 (by omega))
      go_wp2_with (first | (go_at_call 23; (with_reducible refine (vm_New_kn _ 4 4 [⟨0, a⟩, ⟨6, 0⟩, ⟨10, 0⟩, ⟨18, 0⟩] _ rfl (vm_litC4n _ _ rfl 0 a 6 0 10 0 18 0) (by simp) (by simp) ht.out).mono ?_); rintro e WM ⟨gm, vM, rfl, hM, hBM⟩; replace hM := Aside0.mk hM; replace hBM := Aside0.mk hBM) | (go_at_call 26; (with_reducible refine (vm_Step4 hM.out hBM.out.size (by simp) 0 0 0 0 0 b 9 _ 0 0 0 0 _ _ hv.out (by decide)).mono ?_); rintro e WS ⟨rfl, hBS⟩; have hb2 := blk_below (blk_below (blk_alloc hb.out _) hBM.out) hBS; have t0 := (blk_cell hb2 14).trans (show (arrS a b 2)[14]? = some (.int .i64 0) from (by kernel_rfl)); have t1 := (blk_cell hb2 15).trans (show (arrS a b 2)[15]? = some (.int .i64 0) from (by kernel_rfl)); have t2 := (blk_cell hb2 16).trans (show (arrS a b 2)[16]? = some (.int .i64 0) from (by kernel_rfl)); have t3 := (blk_cell hb2 17).trans (show (arrS a b 2)[17]? = some (.int .i64 0) from (by kernel_rfl)); have t4 := (blk_cell hb2 18).trans (show (arrS a b 2)[18]? = some (.int .i64 0) from (by kernel_rfl)); have t5 := (blk_cell hb2 19).trans (show (arrS a b 2)[19]? = some (.int .i64 0) from (by kernel_rfl)); have t6 := (blk_cell hb2 20).trans (show (arrS a b 2)[20]? = some (.int .i64 0) from (by kernel_rfl)); have y0 := blk_frozen hb2 14; have y1 := blk_frozen hb2 15; have y2 := blk_frozen hb2 16; have y3 := blk_frozen hb2 17; have y4 := blk_frozen hb2 18; have y5 := blk_frozen hb2 19; have y6 := blk_frozen hb2 20; have hB2 : Aside0 (Below w.heap.size w WS) := ⟨below_step (below_step (below_step hB.out (below_alloc (Below.refl _ _) _)) hBM.out) hBS⟩; replace hb2 := Aside0.mk hb2; clear hBS))
      go_roundg 4
      case measure => omega
      case rel => exact ⟨3, rfl, ⟨rfl⟩, ⟨sum_put2 hb2.out⟩, ⟨below_set (below_set (below_set (below_set (below_set (below_set (below_set (hB2.out) (Nat.le_refl _)) (Nat.le_refl _)) (Nat.le_refl _)) (Nat.le_refl _)) (Nat.le_refl _)) (Nat.le_refl _)) (Nat.le_refl _)⟩⟩
    · obtain rfl : gk = 4 := by have := hk.out; omega
      have hlit := fun w => vm_lit4 w 0 a 6 0 11 0 18 0
      have ht : Aside0 ((thru ([⟨0, a⟩, ⟨6, 0⟩, ⟨11, 0⟩, ⟨18, 0⟩] : List S36)).2.2 = 0) := ⟨by kernel_rfl⟩
      have hv := Aside0.mk (sum_step a b 11 (by omega))
      go_wp2_with (first | (go_at_call 23; (with_reducible refine (vm_New_kn _ 4 4 [⟨0, a⟩, ⟨6, 0⟩, ⟨11, 0⟩, ⟨18, 0⟩] _ rfl (vm_litC4n _ _ rfl 0 a 6 0 11 0 18 0) (by simp) (by simp) ht.out).mono ?_); rintro e WM ⟨gm, vM, rfl, hM, hBM⟩; replace hM := Aside0.mk hM; replace hBM := Aside0.mk hBM) | (go_at_call 26; (with_reducible refine (vm_Step4 hM.out hBM.out.size (by simp) 0 0 0 0 0 b 9 _ 0 0 0 0 _ _ hv.out (by decide)).mono ?_); rintro e WS ⟨rfl, hBS⟩; have hb2 := blk_below (blk_below (blk_alloc hb.out _) hBM.out) hBS; have t0 := (blk_cell hb2 21).trans (show (arrS a b 3)[21]? = some (.int .i64 0) from (by kernel_rfl)); have t1 := (blk_cell hb2 22).trans (show (arrS a b 3)[22]? = some (.int .i64 0) from (by kernel_rfl)); have t2 := (blk_cell hb2 23).trans (show (arrS a b 3)[23]? = some (.int .i64 0) from (by kernel_rfl)); have t3 := (blk_cell hb2 24).trans (show (arrS a b 3)[24]? = some (.int .i64 0) from (by kernel_rfl)); have t4 := (blk_cell hb2 25).trans (show (arrS a b 3)[25]? = some (.int .i64 0) from (by kernel_rfl)); have t5 := (blk_cell hb2 26).trans (show (arrS a b 3)[26]? = some (.int .i64 0) from (by kernel_rfl)); have t6 := (blk_cell hb2 27).trans (show (arrS a b 3)[27]? = some (.int .i64 0) from (by kernel_rfl)); have y0 := blk_frozen hb2 21; have y1 := blk_frozen hb2 22; have y2 := blk_frozen hb2 23; have y3 := blk_frozen hb2 24; have y4 := blk_frozen hb2 25; have y5 := blk_frozen hb2 26; have y6 := blk_frozen hb2 27; have hB2 : Aside0 (Below w.heap.size w WS) := ⟨below_step (below_step (below_step hB.out (below_alloc (Below.refl _ _) _)) hBM.out) hBS⟩; replace hb2 := Aside0.mk hb2; clear hBS))
      go_roundg 3
      case measure => omega
      case rel => exact ⟨4, rfl, ⟨rfl⟩, ⟨sum_put3 hb2.out⟩, ⟨below_set (below_set (below_set (below_set (below_set (below_set (below_set (hB2.out) (Nat.le_refl _)) (Nat.le_refl _)) (Nat.le_refl _)) (Nat.le_refl _)) (Nat.le_refl _)) (Nat.le_refl _)) (Nat.le_refl _)⟩⟩
    · obtain rfl : gk = 3 := by have := hk.out; omega
      have hlit := fun w => vm_lit4 w 0 a 6 0 12 0 18 0
      have ht : Aside0 ((thru ([⟨0, a⟩, ⟨6, 0⟩, ⟨12, 0⟩, ⟨18, 0⟩] : List S36)).2.2 = 0) := ⟨by kernel_rfl⟩
      have hv := Aside0.mk (sum_step a b 12 (by omega))
      go_wp2_with (first | (go_at_call 23; (with_reducible refine (vm_New_kn _ 4 4 [⟨0, a⟩, ⟨6, 0⟩, ⟨12, 0⟩, ⟨18, 0⟩] _ rfl (vm_litC4n _ _ rfl 0 a 6 0 12 0 18 0) (by simp) (by simp) ht.out).mono ?_); rintro e WM ⟨gm, vM, rfl, hM, hBM⟩; replace hM := Aside0.mk hM; replace hBM := Aside0.mk hBM) | (go_at_call 26; (with_reducible refine (vm_Step4 hM.out hBM.out.size (by simp) 0 0 0 0 0 b 9 _ 0 0 0 0 _ _ hv.out (by decide)).mono ?_); rintro e WS ⟨rfl, hBS⟩; have hb2 := blk_below (blk_below (blk_alloc hb.out _) hBM.out) hBS; have t0 := (blk_cell hb2 28).trans (show (arrS a b 4)[28]? = some (.int .i64 0) from (by kernel_rfl)); have t1 := (blk_cell hb2 29).trans (show (arrS a b 4)[29]? = some (.int .i64 0) from (by kernel_rfl)); have t2 := (blk_cell hb2 30).trans (show (arrS a b 4)[30]? = some (.int .i64 0) from (by kernel_rfl)); have t3 := (blk_cell hb2 31).trans (show (arrS a b 4)[31]? = some (.int .i64 0) from (by kernel_rfl)); have t4 := (blk_cell hb2 32).trans (show (arrS a b 4)[32]? = some (.int .i64 0) from (by kernel_rfl)); have t5 := (blk_cell hb2 33).trans (show (arrS a b 4)[33]? = some (.int .i64 0) from (by kernel_rfl)); have t6 := (blk_cell hb2 34).trans (show (arrS a b 4)[34]? = some (.int .i64 0) from (by kernel_rfl)); have y0 := blk_frozen hb2 28; have y1 := blk_frozen hb2 29; have y2 := blk_frozen hb2 30; have y3 := blk_frozen hb2 31; have y4 := blk_frozen hb2 32; have y5 := blk_frozen hb2 33; have y6 := blk_frozen hb2 34; have hB2 : Aside0 (Below w.heap.size w WS) := ⟨below_step (below_step (below_step hB.out (below_alloc (Below.refl _ _) _)) hBM.out) hBS⟩; replace hb2 := Aside0.mk hb2; clear hBS))
      go_roundg 2
      case measure => omega
      case rel => exact ⟨5, rfl, ⟨rfl⟩, ⟨sum_put4 hb2.out⟩, ⟨below_set (below_set (below_set (below_set (below_set (below_set (below_set (hB2.out) (Nat.le_refl _)) (Nat.le_refl _)) (Nat.le_refl _)) (Nat.le_refl _)) (Nat.le_refl _)) (Nat.le_refl _)) (Nat.le_refl _)⟩⟩
    · obtain rfl : gk = 2 := by have := hk.out; omega
      have hlit := fun w => vm_lit4 w 0 a 6 0 13 0 18 0
      have ht : Aside0 ((thru ([⟨0, a⟩, ⟨6, 0⟩, ⟨13, 0⟩, ⟨18, 0⟩] : List S36)).2.2 = 0) := ⟨by kernel_rfl⟩
      have hv := Aside0.mk (sum_step a b 13 (by omega))
      go_wp2_with (first | (go_at_call 23; (with_reducible refine (vm_New_kn _ 4 4 [⟨0, a⟩, ⟨6, 0⟩, ⟨13, 0⟩, ⟨18, 0⟩] _ rfl (vm_litC4n _ _ rfl 0 a 6 0 13 0 18 0) (by simp) (by simp) ht.out).mono ?_); rintro e WM ⟨gm, vM, rfl, hM, hBM⟩; replace hM := Aside0.mk hM; replace hBM := Aside0.mk hBM) | (go_at_call 26; (with_reducible refine (vm_Step4 hM.out hBM.out.size (by simp) 0 0 0 0 0 b 9 _ 0 0 0 0 _ _ hv.out (by decide)).mono ?_); rintro e WS ⟨rfl, hBS⟩; have hb2 := blk_below (blk_below (blk_alloc hb.out _) hBM.out) hBS; have t0 := (blk_cell hb2 35).trans (show (arrS a b 5)[35]? = some (.int .i64 0) from (by kernel_rfl)); have t1 := (blk_cell hb2 36).trans (show (arrS a b 5)[36]? = some (.int .i64 0) from (by kernel_rfl)); have t2 := (blk_cell hb2 37).trans (show (arrS a b 5)[37]? = some (.int .i64 0) from (by kernel_rfl)); have t3 := (blk_cell hb2 38).trans (show (arrS a b 5)[38]? = some (.int .i64 0) from (by kernel_rfl)); have t4 := (blk_cell hb2 39).trans (show (arrS a b 5)[39]? = some (.int .i64 0) from (by kernel_rfl)); have t5 := (blk_cell hb2 40).trans (show (arrS a b 5)[40]? = some (.int .i64 0) from (by kernel_rfl)); have t6 := (blk_cell hb2 41).trans (show (arrS a b 5)[41]? = some (.int .i64 0) from (by kernel_rfl)); have y0 := blk_frozen hb2 35; have y1 := blk_frozen hb2 36; have y2 := blk_frozen hb2 37; have y3 := blk_frozen hb2 38; have y4 := blk_frozen hb2 39; have y5 := blk_frozen hb2 40; have y6 := blk_frozen hb2 41; have hB2 : Aside0 (Below w.heap.size w WS) := ⟨below_step (below_step (below_step hB.out (below_alloc (Below.refl _ _) _)) hBM.out) hBS⟩; replace hb2 := Aside0.mk hb2; clear hBS))
      go_roundg 1
      case measure => omega
      case rel => exact ⟨6, rfl, ⟨rfl⟩, ⟨sum_put5 hb2.out⟩, ⟨below_set (below_set (below_set (below_set (below_set (below_set (below_set (hB2.out) (Nat.le_refl _)) (Nat.le_refl _)) (Nat.le_refl _)) (Nat.le_refl _)) (Nat.le_refl _)) (Nat.le_refl _)) (Nat.le_refl _)⟩⟩
    · obtain rfl : gk = 1 := by have := hk.out; omega
      have hlit := fun w => vm_lit4 w 0 a 6 0 14 0 18 0
      have ht : Aside0 ((thru ([⟨0, a⟩, ⟨6, 0⟩, ⟨14, 0⟩, ⟨18, 0⟩] : List S36)).2.2 = 0) := ⟨by kernel_rfl⟩
      have hv := Aside0.mk (sum_step a b 14 (by omega))
      go_wp2_with (first | (go_at_call 23; (with_reducible refine (vm_New_kn _ 4 4 [⟨0, a⟩, ⟨6, 0⟩, ⟨14, 0⟩, ⟨18, 0⟩] _ rfl (vm_litC4n _ _ rfl 0 a 6 0 14 0 18 0) (by simp) (by simp) ht.out).mono ?_); rintro e WM ⟨gm, vM, rfl, hM, hBM⟩; replace hM := Aside0.mk hM; replace hBM := Aside0.mk hBM) | (go_at_call 26; (with_reducible refine (vm_Step4 hM.out hBM.out.size (by simp) 0 0 0 0 0 b 9 _ 0 0 0 0 _ _ hv.out (by decide)).mono ?_); rintro e WS ⟨rfl, hBS⟩; have hb2 := blk_below (blk_below (blk_alloc hb.out _) hBM.out) hBS; have t0 := (blk_cell hb2 42).trans (show (arrS a b 6)[42]? = some (.int .i64 0) from (by kernel_rfl)); have t1 := (blk_cell hb2 43).trans (show (arrS a b 6)[43]? = some (.int .i64 0) from (by kernel_rfl)); have t2 := (blk_cell hb2 44).trans (show (arrS a b 6)[44]? = some (.int .i64 0) from (by kernel_rfl)); have t3 := (blk_cell hb2 45).trans (show (arrS a b 6)[45]? = some (.int .i64 0) from (by kernel_rfl)); have t4 := (blk_cell hb2 46).trans (show (arrS a b 6)[46]? = some (.int .i64 0) from (by kernel_rfl)); have t5 := (blk_cell hb2 47).trans (show (arrS a b 6)[47]? = some (.int .i64 0) from (by kernel_rfl)); have t6 := (blk_cell hb2 48).trans (show (arrS a b 6)[48]? = some (.int .i64 0) from (by kernel_rfl)); have y0 := blk_frozen hb2 42; have y1 := blk_frozen hb2 43; have y2 := blk_frozen hb2 44; have y3 := blk_frozen hb2 45; have y4 := blk_frozen hb2 46; have y5 := blk_frozen hb2 47; have y6 := blk_frozen hb2 48; have hB2 : Aside0 (Below w.heap.size w WS) := ⟨below_step (below_step (below_step hB.out (below_alloc (Below.refl _ _) _)) hBM.out) hBS⟩; replace hb2 := Aside0.mk hb2; clear hBS))
      go_roundg 0
      case measure => omega
      case rel => exact ⟨7, rfl, ⟨rfl⟩, ⟨sum_put6 hb2.out⟩, ⟨below_set (below_set (below_set (below_set (below_set (below_set (below_set (hB2.out) (Nat.le_refl _)) (Nat.le_refl _)) (Nat.le_refl _)) (Nat.le_refl _)) (Nat.le_refl _)) (Nat.le_refl _)) (Nat.le_refl _)⟩⟩
    · have hq := eqI24_9
      have hgd := guard38
      have c5 := (blk_cell hb.out 5).trans (show (arrS a b 7)[5]? = some (.int .i64 (wrap64 (a + b))) from (by kernel_rfl))
      have c12 := (blk_cell hb.out 12).trans (show (arrS a b 7)[12]? = some (.int .i64 (wrap64 (a - b))) from (by kernel_rfl))
      have c19 := (blk_cell hb.out 19).trans (show (arrS a b 7)[19]? = some (.int .i64 (wrap64 (a * b))) from (by kernel_rfl))
      have c40 := (blk_cell hb.out 40).trans (show (arrS a b 7)[40]? = some (.int .i64 (bitZ (decide (a < b)))) from (by show some (Value.int .i64 (sumR a b 13)) = _; rw [sum_lt]))
      have c47 := (blk_cell hb.out 47).trans (show (arrS a b 7)[47]? = some (.int .i64 (bitZ (a == b))) from (by show some (Value.int .i64 (sumR a b 14)) = _; rw [sum_eq]))
      have hz1 : (bitZ (decide (a < b)) == 1) = decide (a < b) := bitZ_is _
      have hz2 : (bitZ (a == b) == 1) = (a == b) := bitZ_is _
      by_cases hb0 : b = 0
      · have c21 := (blk_cell hb.out 21).trans (show (arrS a b 7)[21]? = some (.int .i64 (2)) from (by show some (Value.int .i64 (sumK a b 11)) = _; rw [sum_k0 (.inl rfl) hb0]))
        have c22 := (blk_cell hb.out 22).trans (show (arrS a b 7)[22]? = some (.int .i64 (0)) from (by kernel_rfl))
        have c23 := (blk_cell hb.out 23).trans (show (arrS a b 7)[23]? = some (.int .i64 (0)) from (by kernel_rfl))
        have c24 := (blk_cell hb.out 24).trans (show (arrS a b 7)[24]? = some (.int .i64 (0)) from (by kernel_rfl))
        have c25 := (blk_cell hb.out 25).trans (show (arrS a b 7)[25]? = some (.int .i64 (0)) from (by kernel_rfl))
        have c26 := (blk_cell hb.out 26).trans (show (arrS a b 7)[26]? = some (.int .i64 (0)) from (by show some (Value.int .i64 (sumR a b 11)) = _; rw [sum_r0 (.inl rfl) hb0]))
        have c27 := (blk_cell hb.out 27).trans (show (arrS a b 7)[27]? = some (.int .i64 (3)) from (by show some (Value.int .i64 (sumU a b 11)) = _; rw [sum_u0 (.inl rfl) hb0]))
        have c28 := (blk_cell hb.out 28).trans (show (arrS a b 7)[28]? = some (.int .i64 (2)) from (by show some (Value.int .i64 (sumK a b 12)) = _; rw [sum_k0 (.inr rfl) hb0]))
        have c29 := (blk_cell hb.out 29).trans (show (arrS a b 7)[29]? = some (.int .i64 (0)) from (by kernel_rfl))
        have c30 := (blk_cell hb.out 30).trans (show (arrS a b 7)[30]? = some (.int .i64 (0)) from (by kernel_rfl))
        have c31 := (blk_cell hb.out 31).trans (show (arrS a b 7)[31]? = some (.int .i64 (0)) from (by kernel_rfl))
        have c32 := (blk_cell hb.out 32).trans (show (arrS a b 7)[32]? = some (.int .i64 (0)) from (by kernel_rfl))
        have c33 := (blk_cell hb.out 33).trans (show (arrS a b 7)[33]? = some (.int .i64 (0)) from (by show some (Value.int .i64 (sumR a b 12)) = _; rw [sum_r0 (.inr rfl) hb0]))
        have c34 := (blk_cell hb.out 34).trans (show (arrS a b 7)[34]? = some (.int .i64 (3)) from (by show some (Value.int .i64 (sumU a b 12)) = _; rw [sum_u0 (.inr rfl) hb0]))
        have hb0b : (b == 0) = true := beq_iff_eq.mpr hb0
        clear hb0
        replace hk := Aside0.mk hk
        go_wp2_with (first | (go_at_call 29; (with_reducible refine (vm_lives _).mono ?_); rintro e WZ ⟨rfl, hBZ⟩; replace hBZ := Aside0.mk hBZ))
        go_ret
        exact ⟨rfl, below_step hB.out hBZ.out⟩
      · have c21 := (blk_cell hb.out 21).trans (show (arrS a b 7)[21]? = some (.int .i64 (1)) from (by show some (Value.int .i64 (sumK a b 11)) = _; rw [sum_k1 (.inl rfl) hb0]))
        have c26 := (blk_cell hb.out 26).trans (show (arrS a b 7)[26]? = some (.int .i64 (wrap64 (a.tdiv b))) from (by show some (Value.int .i64 (sumR a b 11)) = _; rw [sum_d hb0]))
        have c33 := (blk_cell hb.out 33).trans (show (arrS a b 7)[33]? = some (.int .i64 (a.tmod b)) from (by show some (Value.int .i64 (sumR a b 12)) = _; rw [sum_m hb0]))
        have hf := sum_facts a b ra.out rb.out hb0
        have hb0b : (b == 0) = false := beq_eq_false_iff_ne.mpr hb0
        obtain ⟨hqr, hf⟩ := hf
        generalize wrap64 (a.tdiv b) = q at *
        generalize a.tmod b = r at *
        clear hb0
        rcases hf with ⟨h0, h1, h2, h3, h4⟩ | ⟨h0, h1, h2, h3, h4⟩ | ⟨h0, h5, h6, h1, h2, h3⟩ | ⟨h0, h5, h6, h1, h2, h3, h4⟩ | ⟨h0, h5, h6, h1, h2, h3, h4⟩ | ⟨h0, h5, h6, h1, h2, h3⟩
        all_goals
          go_wp2
          go_quiet (fail)
          refine vm_gen _ (fun W => Below w.heap.size w W ∧ W.cell? ⟨w.heap.size, 21, none⟩ = some (.int .i64 1)) ⟨pw_below_drewN hB.out _, c21⟩ ?_
          rintro WY ⟨hBY, cy⟩
          go_wp2_with (first | (go_at_call 29; (with_reducible refine (vm_lives _).mono ?_); rintro e WZ ⟨rfl, hBZ⟩; replace hBZ := Aside0.mk hBZ))
          go_ret
          exact ⟨rfl, below_step hBY hBZ.out⟩

end Go.Proofs.Ytddkoimaghcbeaa.PVmSteps
