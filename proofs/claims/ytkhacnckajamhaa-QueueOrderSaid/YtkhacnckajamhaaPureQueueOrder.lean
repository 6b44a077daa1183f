/- The law QueueOrder answers true at every input: they go in the order in which they came. No condition. The printed texts and the row beside it were written by wip/bin/pp.sh of this session. -/
import Derived.Test.YtkhacnckajamhaaPQueueOrderx1
namespace Go.Proofs.Ytkhacnckajamhaa.Pure
open Go.RowKit Go.Proofs.Ytkhacnckajamhaa.PQueueOrder Go.Proofs.YtkhacnckajamhaaW.PrintWords Go.Proofs.YtkhacnckajamhaaW.PrintLast Go.Proofs.YtkhacnckajamhaaW.PrintMore
set_option linter.unusedVariables false
set_option linter.unusedSimpArgs false
theorem QueueOrder : inquestlaw19_QueueOrder.Pure := fun _ _ _ _ => rfl

end Go.Proofs.Ytkhacnckajamhaa.Pure
