-- Written by a program of this session (wip/bin/patch_print.py): a turned copy of the kit's printer. Not trusted: Lean checks it.
import Derived.Test.YtcbkkgodlnofmaaProg
import Derived.Below
import Derived.Deep.Draws
import Derived.Deep.AppendLies
import Derived.Maps.AppendAt
import Derived.OwnWalk
import Derived.Laws.BytesArg
import Derived.Laws.MakeOwn
import Derived.Laws.OwnMore
import Derived.Deep.OwnRows
import Derived.Tactics
import Derived.Lib.ConvBytes
import Derived.Laws.Slices
import Derived.WalkKit
import Derived.KernelRfl
import Derived.RowKit3
import Derived.Deep.LoopGhost
import Derived.Deep.QuietTactic
import Derived.BigQuiet
import Derived.WideLaws
import Derived.Deep.DeepCutAuto
import Derived.Deep.CutBlock
import Derived.Deep.RegionHeld3
import Derived.Laws.Rows
import Derived.Lib.AppendStr
import Derived.ArgAppend
import Derived.Laws.IdiomCopy
import Derived.OrdersHeld
import Derived.Laws.BitsLemmas
import Derived.RowKit
import Derived.Test.YtcbkkgodlnofmaaWWords
import Derived.Test.YtcbkkgodlnofmaaWLast
import Derived.Test.YtcbkkgodlnofmaaWTab
import Derived.Test.YtcbkkgodlnofmaaWFour
import Derived.Test.YtcbkkgodlnofmaaWQPut
import Derived.Test.YtcbkkgodlnofmaaWApart
import Derived.Test.YtcbkkgodlnofmaaWArr
import Derived.Test.YtcbkkgodlnofmaaWZeros
import Derived.Test.YtcbkkgodlnofmaaWFoot
import Derived.Test.YtcbkkgodlnofmaaWKept
import Derived.Test.YtcbkkgodlnofmaaWShare
import Derived.Test.YtcbkkgodlnofmaaWN
import Derived.Test.YtcbkkgodlnofmaaWFootNe
import Derived.Test.YtcbkkgodlnofmaaWAt
import Derived.Test.YtcbkkgodlnofmaaWEqStruct
import Derived.Test.YtcbkkgodlnofmaaWRepsOne
import Derived.Test.YtcbkkgodlnofmaaWInv
import Derived.Test.YtcbkkgodlnofmaaWInvWords
import Derived.Test.YtcbkkgodlnofmaaWGuard
import Derived.Test.YtcbkkgodlnofmaaWNEv
import Derived.Test.YtcbkkgodlnofmaaWMore
import Derived.Lib.SlBytesConst
namespace Go.Proofs.Ytcbkkgodlnofmaa.PFrameBurst
open Go.RowKit Go.Proofs.YtcbkkgodlnofmaaW.PrintWords Go.Proofs.YtcbkkgodlnofmaaW.PrintLast Go.Proofs.YtcbkkgodlnofmaaW.PrintMore
attribute [local go_sem] max2_int min2_int max_two min_two max_three min_three max_four min_four   -- for this text's walks alone
set_option linter.unusedVariables false
set_option linter.unusedSimpArgs false



def errW : Option Int → Value
  | none => .nilIface
  | some c => .iface 0 (.int .i64 c)
theorem errW_none : errW none = .nilIface := rfl
theorem errW_some (c : Int) : errW (some c) = .iface 0 (.int .i64 c) := rfl

theorem info5 : (Try.prog.info? 5).map (fun i => (i.zero, i.size, i.bytes)) = some (some (.int .u8 0), 1, 1) := by kernel_rfl
-- the values' own types

end Go.Proofs.Ytcbkkgodlnofmaa.PFrameBurst
