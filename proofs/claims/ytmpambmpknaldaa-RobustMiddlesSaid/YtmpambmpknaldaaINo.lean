import Derived.Test.YtmpambmpknaldaaIWg
import Derived.Test.YtmpambmpknaldaaINa
import Derived.Test.YtmpambmpknaldaaIBits
import Derived.BigQuiet
set_option linter.unusedVariables false
set_option linter.unusedSimpArgs false
namespace Go.Proofs.Ytmpambmpknaldaa
open Go.RowKit
end Go.Proofs.Ytmpambmpknaldaa
