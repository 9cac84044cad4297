import Derived.Test.YtmpambmpknaldaaGreatLMc
import Derived.Test.YtmpambmpknaldaaGreatLQx
set_option linter.unusedVariables false
set_option linter.unusedSimpArgs false
namespace Go.Proofs.YtmpambmpknaldaaGreat
open Go.RowKit
instance (p : Int × Int) : Decidable (okP p) := by unfold okP; infer_instance
end Go.Proofs.YtmpambmpknaldaaGreat
