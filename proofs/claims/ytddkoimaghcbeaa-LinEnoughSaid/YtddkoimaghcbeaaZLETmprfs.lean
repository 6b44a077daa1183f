/- A part of what the law LinEnough stands on, only as far as it is needed (the words and walks were printed or written in this seat; this text was cut by a program of this session, wip/bin/trim.py). No condition beyond what each theorem says. -/
import Derived.StillTailTactics
import Derived.Deep.RegionHeld3
import Derived.IntWalk
import Derived.Deep.QuietTactic
import Derived.BigQuiet
import Derived.Test.YtddkoimaghcbeaaZLEPVmStepsx0
import Derived.Test.YtddkoimaghcbeaaZLEPVmStepsx2
import Derived.Test.YtddkoimaghcbeaaZLEPVmStepsx3
import Derived.Test.YtddkoimaghcbeaaZLEPVmStepsx4
import Derived.Test.YtddkoimaghcbeaaZLEPVmStepsx5
import Derived.Test.YtddkoimaghcbeaaZLETmpvmu
import Derived.Test.YtddkoimaghcbeaaZLETmpvmq
namespace Go.Proofs.Ytddkoimaghcbeaa.PVmSteps
open Go.RowKit Go.Proofs.YtddkoimaghcbeaaW.PrintWords Go.Proofs.YtddkoimaghcbeaaW.PrintLast Go.Proofs.YtddkoimaghcbeaaW.PrintMore
set_option linter.unusedVariables false
set_option linter.unusedSimpArgs false
theorem inR_wf {a : Int} (h : (Lit.int .i64 a).wf = true) : inR a := wf_i64 h
end Go.Proofs.Ytddkoimaghcbeaa.PVmSteps
