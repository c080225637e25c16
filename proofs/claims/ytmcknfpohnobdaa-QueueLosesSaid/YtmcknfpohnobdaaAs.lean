/- errors.As (target *api.Fault) at nil and at a number; custodykit.Num and custodykit.Plain at these. -/
import Derived.Test.YtmcknfpohnobdaaErr
import Derived.Test.YtmcknfpohnobdaaBase
namespace Go.Proofs.Ytmcknfpohnobdaa
set_option linter.unusedSimpArgs false
set_option linter.unusedVariables false
open Go.RowKit Go.Extern.Stop Go.Stop Go.Extern

end Go.Proofs.Ytmcknfpohnobdaa
