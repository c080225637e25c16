/- The document's versions (custodyref10): Counts, Copy, Put, At. -/
import Derived.Test.YtflkddllofeiaaaDoorWide
import Derived.Test.YtflkddllofeiaaaDoorChain3
import Derived.BigQuiet
namespace Go.Proofs.YtflkddllofeiaaaDoor
set_option linter.unusedSimpArgs false
set_option linter.unusedVariables false
open Go.RowKit

end Go.Proofs.YtflkddllofeiaaaDoor
