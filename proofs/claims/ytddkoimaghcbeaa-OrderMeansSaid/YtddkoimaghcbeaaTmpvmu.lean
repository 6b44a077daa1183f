/- A part of the proofs about layers 16 to 18 (vm, order, lin) and their references: contracts and plain lemmas that the laws stand on. No condition beyond what each theorem says. -/
import Derived.Test.YtddkoimaghcbeaaPVmStepsx1
import Derived.Test.YtddkoimaghcbeaaPVmStepsx2
import Derived.Test.YtddkoimaghcbeaaPVmStepsx3
import Derived.Test.YtddkoimaghcbeaaPVmStepsx4
import Derived.Test.YtddkoimaghcbeaaPVmStepsx5
import Derived.Test.YtddkoimaghcbeaaPVmStepsx6
import Derived.Test.YtddkoimaghcbeaaTmpvmt
import Derived.ChangeKeysEq
namespace Go.Proofs.Ytddkoimaghcbeaa.PVmSteps
open Go.RowKit Go.Proofs.YtddkoimaghcbeaaW.PrintWords Go.Proofs.YtddkoimaghcbeaaW.PrintLast Go.Proofs.YtddkoimaghcbeaaW.PrintMore
set_option linter.unusedVariables false
set_option linter.unusedSimpArgs false
attribute [local go_sem] Op.eqItems
theorem eqI24 (d : Nat) (w : World) (x0 x1 x2 x3 y0 y1 y2 y3 : Int) :
    (Op.equalIn (d + 2) 24 (.agg #[.int .i64 x0, .int .i64 x1, .int .i64 x2, .int .i64 x3]) (.agg #[.int .i64 y0, .int .i64 y1, .int .i64 y2, .int .i64 y3])).run Try.prog w = .ok (x0 == y0 && (x1 == y1 && (x2 == y2 && (x3 == y3)))) w := by
  obtain ⟨i0, hi, hz0, hz1, hz2⟩ := info_parts vp_info2
  have hc : Try.prog.cellsOf 2 = 1 := by kernel_rfl
  rw [run_equalIn_array w (d + 1) _ _ Try.underlying24 hi, hc]
  simp only [show List.range 4 = [0, 1, 2, 3] from rfl]
  by_cases c0 : x0 = y0
  · by_cases c1 : x1 = y1
    · by_cases c2 : x2 = y2
      · by_cases c3 : x3 = y3
        · subst c0 c1 c2 c3; go_simp
        · have e3 : (x3 == y3) = false := beq_eq_false_iff_ne.mpr c3
          subst c0 c1 c2; go_simp
      · have e2 : (x2 == y2) = false := beq_eq_false_iff_ne.mpr c2
        subst c0 c1; go_simp
    · have e1 : (x1 == y1) = false := beq_eq_false_iff_ne.mpr c1
      subst c0; go_simp
  · have e0 : (x0 == y0) = false := beq_eq_false_iff_ne.mpr c0
    go_simp
theorem eqA38 (d : Nat) (w : World) (k k' x0 x1 x2 x3 y0 y1 y2 y3 r r' u u' : Int) :
    (Op.equalIn (d + 3) 38 (.agg #[.int .i64 k, .int .i64 x0, .int .i64 x1, .int .i64 x2, .int .i64 x3, .int .i64 r, .int .i64 u]) (.agg #[.int .i64 k', .int .i64 y0, .int .i64 y1, .int .i64 y2, .int .i64 y3, .int .i64 r', .int .i64 u'])).run Try.prog w =
      .ok (k == k' && ((x0 == y0 && (x1 == y1 && (x2 == y2 && (x3 == y3)))) && (r == r' && (u == u')))) w := by
  refine eqA_of Try.underlying38 (by kernel_rfl) ?_
  refine eqf_cons (by rfl) (by go_simp; rfl) (by go_simp; rfl) (by go_simp) ?_
  refine eqf_cons (by rfl) (by go_simp) (by go_simp) (eqI24 d w x0 x1 x2 x3 y0 y1 y2 y3) ?_
  refine eqf_cons (by rfl) (by go_simp; rfl) (by go_simp; rfl) (by go_simp) ?_
  exact eqf_last (by rfl) (by go_simp; rfl) (by go_simp; rfl) (by go_simp)
theorem guard38 : Try.prog.eqGuardType Try.prog.depth 38 = false := by kernel_rfl
theorem guard24 : Try.prog.eqGuardType Try.prog.depth 24 = false := by kernel_rfl
/-- The same step, the same state. -/
theorem eq_step (k x0 x1 x2 x3 r u : Int) (w : World) :
    (binOp .eql 38 (.agg #[.int .i64 k, .int .i64 x0, .int .i64 x1, .int .i64 x2, .int .i64 x3, .int .i64 r, .int .i64 u]) (.agg #[.int .i64 k, .int .i64 x0, .int .i64 x1, .int .i64 x2, .int .i64 x3, .int .i64 r, .int .i64 u])).run Try.prog w = .ok (.bool true) w := by
  rw [run_eql_struct, eqA38 9997]
  simp
theorem ne_step (k x0 x1 x2 x3 r u : Int) (w : World) :
    (binOp .neq 38 (.agg #[.int .i64 k, .int .i64 x0, .int .i64 x1, .int .i64 x2, .int .i64 x3, .int .i64 r, .int .i64 u]) (.agg #[.int .i64 k, .int .i64 x0, .int .i64 x1, .int .i64 x2, .int .i64 x3, .int .i64 r, .int .i64 u])).run Try.prog w = .ok (.bool false) w := by
  rw [run_neq_struct, eqA38 9997]
  simp
theorem ne_state (x0 x1 x2 x3 : Int) (w : World) :
    (binOp .neq 24 (.agg #[.int .i64 x0, .int .i64 x1, .int .i64 x2, .int .i64 x3]) (.agg #[.int .i64 x0, .int .i64 x1, .int .i64 x2, .int .i64 x3])).run Try.prog w = .ok (.bool false) w := by
  rw [run_neq_struct, eqI24 9998]
  simp
theorem eqI24_9 (w : World) (x0 x1 x2 x3 y0 y1 y2 y3 : Int) :
    (Op.equalIn 9999 24 (.agg #[.int .i64 x0, .int .i64 x1, .int .i64 x2, .int .i64 x3]) (.agg #[.int .i64 y0, .int .i64 y1, .int .i64 y2, .int .i64 y3])).run Try.prog w = .ok (x0 == y0 && (x1 == y1 && (x2 == y2 && (x3 == y3)))) w := eqI24 9997 w x0 x1 x2 x3 y0 y1 y2 y3
theorem eqI24_0 (w : World) (x0 x1 x2 x3 y0 y1 y2 y3 : Int) :
    (Op.equalIn 10000 24 (.agg #[.int .i64 x0, .int .i64 x1, .int .i64 x2, .int .i64 x3]) (.agg #[.int .i64 y0, .int .i64 y1, .int .i64 y2, .int .i64 y3])).run Try.prog w = .ok (x0 == y0 && (x1 == y1 && (x2 == y2 && (x3 == y3)))) w := eqI24 9998 w x0 x1 x2 x3 y0 y1 y2 y3

end Go.Proofs.Ytddkoimaghcbeaa.PVmSteps
