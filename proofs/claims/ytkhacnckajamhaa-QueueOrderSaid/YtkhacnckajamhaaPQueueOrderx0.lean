-- Written by a program of this session (wip/bin/patch_print.py): a turned copy of the kit's printer. Not trusted: Lean checks it.
import Derived.Test.YtkhacnckajamhaaProg
import Derived.Below
import Derived.Deep.Draws
import Derived.Deep.AppendLies
import Derived.Maps.AppendAt
import Derived.OwnWalk
import Derived.Laws.BytesArg
import Derived.Laws.MakeOwn
import Derived.Laws.OwnMore
import Derived.Deep.OwnRows
import Derived.Tactics
import Derived.Lib.ConvBytes
import Derived.Laws.Slices
import Derived.WalkKit
import Derived.KernelRfl
import Derived.RowKit3
import Derived.Deep.LoopGhost
import Derived.Deep.QuietTactic
import Derived.BigQuiet
import Derived.WideLaws
import Derived.Deep.DeepCutAuto
import Derived.Deep.CutBlock
import Derived.Deep.RegionHeld3
import Derived.Laws.Rows
import Derived.Lib.AppendStr
import Derived.ArgAppend
import Derived.Laws.IdiomCopy
import Derived.OrdersHeld
import Derived.Laws.BitsLemmas
import Derived.RowKit
import Derived.Test.YtkhacnckajamhaaWWords
import Derived.Test.YtkhacnckajamhaaWLast
import Derived.Test.YtkhacnckajamhaaWTab
import Derived.Test.YtkhacnckajamhaaWFour
import Derived.Test.YtkhacnckajamhaaWQPut
import Derived.Test.YtkhacnckajamhaaWApart
import Derived.Test.YtkhacnckajamhaaWArr
import Derived.Test.YtkhacnckajamhaaWZeros
import Derived.Test.YtkhacnckajamhaaWFoot
import Derived.Test.YtkhacnckajamhaaWKept
import Derived.Test.YtkhacnckajamhaaWShare
import Derived.Test.YtkhacnckajamhaaWN
import Derived.Test.YtkhacnckajamhaaWFootNe
import Derived.Test.YtkhacnckajamhaaWAt
import Derived.Test.YtkhacnckajamhaaWEqStruct
import Derived.Test.YtkhacnckajamhaaWRepsOne
import Derived.Test.YtkhacnckajamhaaWInv
import Derived.Test.YtkhacnckajamhaaWInvWords
import Derived.Test.YtkhacnckajamhaaWGuard
import Derived.Test.YtkhacnckajamhaaWNEv
import Derived.Test.YtkhacnckajamhaaWMore
import Derived.Deep.RegionLaw
import Derived.Lib.SliceRun
import Derived.WalkSpells
namespace Go.Proofs.Ytkhacnckajamhaa.PQueueOrder
open Go.RowKit Go.Proofs.YtkhacnckajamhaaW.PrintWords Go.Proofs.YtkhacnckajamhaaW.PrintLast Go.Proofs.YtkhacnckajamhaaW.PrintMore
attribute [local go_sem] max2_int min2_int max_two min_two max_three min_three max_four min_four   -- for this text's walks alone
set_option linter.unusedVariables false
set_option linter.unusedSimpArgs false



def errW : Option Int → Value
  | none => .nilIface
  | some c => .iface 0 (.int .i64 c)
theorem errW_none : errW none = .nilIface := rfl
theorem errW_some (c : Int) : errW (some c) = .iface 0 (.int .i64 c) := rfl

-- the values' own types

end Go.Proofs.Ytkhacnckajamhaa.PQueueOrder
