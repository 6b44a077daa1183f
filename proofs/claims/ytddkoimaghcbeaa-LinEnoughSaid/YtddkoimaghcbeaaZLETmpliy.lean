/- A part of what the law LinEnough stands on, only as far as it is needed (the words and walks were printed or written in this seat; this text was cut by a program of this session, wip/bin/trim.py). No condition beyond what each theorem says. -/
import Derived.Test.YtddkoimaghcbeaaZLEPVmStepsx0
import Derived.Test.YtddkoimaghcbeaaZLEPVmStepsx2
import Derived.Test.YtddkoimaghcbeaaZLEPVmStepsx3
import Derived.Test.YtddkoimaghcbeaaZLEPVmStepsx4
import Derived.Test.YtddkoimaghcbeaaZLEPVmStepsx5
import Derived.Test.YtddkoimaghcbeaaZLETmplix
namespace Go.Proofs.Ytddkoimaghcbeaa.PVmSteps
open Go.RowKit Go.Proofs.YtddkoimaghcbeaaW.PrintWords Go.Proofs.YtddkoimaghcbeaaW.PrintLast Go.Proofs.YtddkoimaghcbeaaW.PrintMore
set_option linter.unusedVariables false
set_option linter.unusedSimpArgs false
/-- Some operation is before itself. -/
def selfZ (ops : List S65) : Bool := (List.range ops.length).any (fun i => befZ (rd_T65 ops (i : Int)) (rd_T65 ops (i : Int)))
/-- Why there is no search; 0: there is one. -/
def newE (L : List S36) (fuel budget : Int) (ops : List S65) : Int :=
  if (thru L).2.2 ≠ 0 then (thru L).2.2 else if fuel < 0 ∨ 10000 < fuel ∨ budget < 0 ∨ 1073741824 < budget then 2 else if 64 < ops.length then 5 else if selfZ ops = true then 17 else 0
end Go.Proofs.Ytddkoimaghcbeaa.PVmSteps
