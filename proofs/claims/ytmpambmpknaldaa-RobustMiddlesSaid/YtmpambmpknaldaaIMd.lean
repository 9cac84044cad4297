import Derived.Test.YtmpambmpknaldaaIMc
import Derived.Test.YtmpambmpknaldaaIQx
set_option linter.unusedVariables false
set_option linter.unusedSimpArgs false
namespace Go.Proofs.Ytmpambmpknaldaa
open Go.RowKit
instance (p : Int × Int) : Decidable (okP p) := by unfold okP; infer_instance
end Go.Proofs.Ytmpambmpknaldaa
