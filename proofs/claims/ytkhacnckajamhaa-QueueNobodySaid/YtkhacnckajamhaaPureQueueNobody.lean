/- The law QueueNobody answers true at every input: what a queue answers that no call made. No condition. The printed texts and the row beside it were written by wip/bin/pp.sh of this session. -/
import Derived.Test.YtkhacnckajamhaaPQueueNobodyx1
namespace Go.Proofs.Ytkhacnckajamhaa.Pure
open Go.RowKit Go.Proofs.Ytkhacnckajamhaa.PQueueNobody Go.Proofs.YtkhacnckajamhaaW.PrintWords Go.Proofs.YtkhacnckajamhaaW.PrintLast Go.Proofs.YtkhacnckajamhaaW.PrintMore
set_option linter.unusedVariables false
set_option linter.unusedSimpArgs false
theorem QueueNobody : inquestlaw19_QueueNobody.Pure := fun _ _ => rfl

end Go.Proofs.Ytkhacnckajamhaa.Pure
