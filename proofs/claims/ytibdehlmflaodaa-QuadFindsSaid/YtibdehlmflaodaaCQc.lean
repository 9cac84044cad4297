import Derived.Test.YtibdehlmflaodaaCUe
import Derived.BigQuiet
namespace Go.Proofs.Ytibdehlmflaodaa
open Go.RowKit
def sm (a b : Int) : Prop := -4194304 ≤ a ∧ a ≤ 4194304 ∧ -4194304 ≤ b ∧ b ≤ 4194304
end Go.Proofs.Ytibdehlmflaodaa
