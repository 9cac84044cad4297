import Derived.Test.YtmpambmpknaldaaIUc
import Derived.Test.YtmpambmpknaldaaIVa
set_option linter.unusedVariables false
set_option linter.unusedSimpArgs false
namespace Go.Proofs.Ytmpambmpknaldaa
open Go.RowKit
end Go.Proofs.Ytmpambmpknaldaa
