import Derived.Test.YtmpambmpknaldaaICc
import Derived.Test.YtmpambmpknaldaaIMd
set_option linter.unusedVariables false
set_option linter.unusedSimpArgs false
namespace Go.Proofs.Ytmpambmpknaldaa
open Go.RowKit
def cmpO (o : Option Rat) (s : Rat) : Int × Int := match o with | some r => (cmpQ r s, 0) | none => (0, 8)
def facB : Option Rat → Bool
 | some r => decide (0 ≤ cmpQ r ((1 : Int) : Rat)) && decide (cmpQ r ((1000 : Int) : Rat) ≤ 0)
 | none => false
end Go.Proofs.Ytmpambmpknaldaa
