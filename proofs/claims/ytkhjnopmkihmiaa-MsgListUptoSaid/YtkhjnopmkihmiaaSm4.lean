import Derived.Test.YtkhjnopmkihmiaaSm3
namespace Go.Proofs.Ytkhjnopmkihmiaa
open Go Go.Am Go.Proofs
set_option linter.unusedSimpArgs false
set_option linter.unusedVariables false
set_option maxRecDepth 20000
set_option maxHeartbeats 4000000

end Go.Proofs.Ytkhjnopmkihmiaa
