/- The law QueuePlays answers true at every input: what every row of calls answers, and what waits behind each. No condition. The printed texts and the row beside it were written by wip/bin/pp.sh of this session. -/
import Derived.Test.YtkhacnckajamhaaPQueuePlaysx2
namespace Go.Proofs.Ytkhacnckajamhaa.Pure
open Go.RowKit Go.Proofs.Ytkhacnckajamhaa.PQueuePlays Go.Proofs.YtkhacnckajamhaaW.PrintWords Go.Proofs.YtkhacnckajamhaaW.PrintLast Go.Proofs.YtkhacnckajamhaaW.PrintMore
set_option linter.unusedVariables false
set_option linter.unusedSimpArgs false
theorem QueuePlays : inquestlaw19_QueuePlays.Pure := fun _ _ _ _ _ => rfl

end Go.Proofs.Ytkhacnckajamhaa.Pure
