import Derived.RangeFuncNested
import Derived.RangeFuncBox
import Derived.RangeFuncLeaves
import Derived.Shelf.Abstract
import Derived.WalkKit
import Derived.OwnWalkIn
import Derived.TacticsInMore
import Derived.LoopNIn
import Derived.LoopIn
import Derived.Test.YtmpambmpknaldaaIQd
import Derived.Test.YtmpambmpknaldaaIRow
import Derived.Test.YtmpambmpknaldaaIRound
import Derived.Test.YtmpambmpknaldaaITk
set_option linter.unusedVariables false
set_option linter.unusedSimpArgs false
namespace Go.Proofs.Ytmpambmpknaldaa
open Go.RowKit Go.Shelf
def arrC (a : Arr) : Array Value := #[.int .i64 a.k0, .int .i64 a.k1, .int .i64 a.k2, .int .i64 a.k3, .int .i64 a.a1, .int .i64 a.a2, .int .i64 a.b1, .int .i64 a.b2, .int .i64 a.n]
end Go.Proofs.Ytmpambmpknaldaa
namespace Go.Proofs.Ytmpambmpknaldaa
open Go.RowKit Go.Shelf
attribute [local go_sem] Oper.semAt_some
def ordV (K : Nat → Nat) (p : P4) : Value := .agg #[.int .i64 (K p.1), .int .i64 (K p.2.1), .int .i64 (K p.2.2.1), .int .i64 (K p.2.2.2)]
def ordE (K : Nat → Nat) (p : P4) : Array Value := #[ordV K p]
end Go.Proofs.Ytmpambmpknaldaa
