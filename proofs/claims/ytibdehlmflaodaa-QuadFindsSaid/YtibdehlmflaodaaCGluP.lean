import Derived.Deep.SlicePairs
import Derived.Laws.IdiomArrays
import Derived.Test.YtibdehlmflaodaaCGlue
import Derived.Test.YtibdehlmflaodaaCQu
/- Points and indices as arguments. -/
namespace Go.Proofs.Ytibdehlmflaodaa
open Go.ChangeShapes Go.WideShapes Go.ChangeAt Go.RowKit Go.Joins
section
variable {H : Type} {enc : TypeId × Value → H} {W : World} {base : Nat} {held : Bool}
end
end Go.Proofs.Ytibdehlmflaodaa
