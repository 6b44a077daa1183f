/- A part of what the law VmAgain stands on, only as far as it is needed (the words and walks were printed or written in this seat; this text was cut by a program of this session, wip/bin/trim.py). No condition beyond what each theorem says. -/
import Derived.Test.YtddkoimaghcbeaaZVAPVmStepsx0
import Derived.Test.YtddkoimaghcbeaaZVAPVmStepsx2
import Derived.Test.YtddkoimaghcbeaaZVAPVmStepsx3
import Derived.Test.YtddkoimaghcbeaaZVAPVmStepsx4
import Derived.Test.YtddkoimaghcbeaaZVAPVmStepsx5
import Derived.Test.YtddkoimaghcbeaaZVATmpvmr
namespace Go.Proofs.Ytddkoimaghcbeaa.PVmSteps
open Go.RowKit Go.Proofs.YtddkoimaghcbeaaW.PrintWords Go.Proofs.YtddkoimaghcbeaaW.PrintLast Go.Proofs.YtddkoimaghcbeaaW.PrintMore
set_option linter.unusedVariables false
set_option linter.unusedSimpArgs false
theorem up_off {b : Nat → Bool} {i j : Nat} (h : j ≠ i) : up b i j = b j := by simp [up, h]
end Go.Proofs.Ytddkoimaghcbeaa.PVmSteps
