/- A part of what the law VmAgain stands on, only as far as it is needed (the words and walks were printed or written in this seat; this text was cut by a program of this session, wip/bin/trim.py). No condition beyond what each theorem says. -/
import Derived.ChangeKeysEq
import Derived.Test.YtddkoimaghcbeaaZVAPVmStepsx0
import Derived.Test.YtddkoimaghcbeaaZVAPVmStepsx2
import Derived.Test.YtddkoimaghcbeaaZVAPVmStepsx3
import Derived.Test.YtddkoimaghcbeaaZVAPVmStepsx4
import Derived.Test.YtddkoimaghcbeaaZVAPVmStepsx5
import Derived.Test.YtddkoimaghcbeaaZVATmpvmt
import Derived.Test.YtddkoimaghcbeaaZVATmpvmr
import Derived.Test.YtddkoimaghcbeaaZVATmpvms
section
namespace Go.Proofs.Ytddkoimaghcbeaa.PVmSteps
open Go.RowKit Go.Proofs.YtddkoimaghcbeaaW.PrintWords Go.Proofs.YtddkoimaghcbeaaW.PrintLast Go.Proofs.YtddkoimaghcbeaaW.PrintMore
set_option linter.unusedVariables false
set_option linter.unusedSimpArgs false
attribute [local go_sem] Op.eqItems
theorem eqI24 (d : Nat) (w : World) (x0 x1 x2 x3 y0 y1 y2 y3 : Int) :
    (Op.equalIn (d + 2) 24 (.agg #[.int .i64 x0, .int .i64 x1, .int .i64 x2, .int .i64 x3]) (.agg #[.int .i64 y0, .int .i64 y1, .int .i64 y2, .int .i64 y3])).run Try.prog w = .ok (x0 == y0 && (x1 == y1 && (x2 == y2 && (x3 == y3)))) w := by
  obtain ⟨i0, hi, hz0, hz1, hz2⟩ := info_parts vp_info2
  have hc : Try.prog.cellsOf 2 = 1 := by kernel_rfl
  rw [run_equalIn_array w (d + 1) _ _ Try.underlying24 hi, hc]
  simp only [show List.range 4 = [0, 1, 2, 3] from rfl]
  by_cases c0 : x0 = y0
  · by_cases c1 : x1 = y1
    · by_cases c2 : x2 = y2
      · by_cases c3 : x3 = y3
        · subst c0 c1 c2 c3; go_simp
        · have e3 : (x3 == y3) = false := beq_eq_false_iff_ne.mpr c3
          subst c0 c1 c2; go_simp
      · have e2 : (x2 == y2) = false := beq_eq_false_iff_ne.mpr c2
        subst c0 c1; go_simp
    · have e1 : (x1 == y1) = false := beq_eq_false_iff_ne.mpr c1
      subst c0; go_simp
  · have e0 : (x0 == y0) = false := beq_eq_false_iff_ne.mpr c0
    go_simp
theorem guard38 : Try.prog.eqGuardType Try.prog.depth 38 = false := by kernel_rfl
theorem eqI24_9 (w : World) (x0 x1 x2 x3 y0 y1 y2 y3 : Int) :
    (Op.equalIn 9999 24 (.agg #[.int .i64 x0, .int .i64 x1, .int .i64 x2, .int .i64 x3]) (.agg #[.int .i64 y0, .int .i64 y1, .int .i64 y2, .int .i64 y3])).run Try.prog w = .ok (x0 == y0 && (x1 == y1 && (x2 == y2 && (x3 == y3)))) w := eqI24 9997 w x0 x1 x2 x3 y0 y1 y2 y3
end Go.Proofs.Ytddkoimaghcbeaa.PVmSteps
end
section
namespace Go.Proofs.Ytddkoimaghcbeaa.PVmSteps
open Go.RowKit Go.Proofs.YtddkoimaghcbeaaW.PrintWords Go.Proofs.YtddkoimaghcbeaaW.PrintLast Go.Proofs.YtddkoimaghcbeaaW.PrintMore
set_option linter.unusedVariables false
set_option linter.unusedSimpArgs false
/-- A list of four numbers. -/
theorem four_of {rs : List Int} (h : rs.length = 4) : ∃ a b c d, rs = [a, b, c, d] := by
  match rs, h with
  | [a, b, c, d], _ => exact ⟨a, b, c, d, rfl⟩
end Go.Proofs.Ytddkoimaghcbeaa.PVmSteps
end
