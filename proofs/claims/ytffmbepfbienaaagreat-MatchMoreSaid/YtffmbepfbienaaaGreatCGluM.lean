import Derived.Test.YtffmbepfbienaaaGreatCMf
import Derived.Test.YtffmbepfbienaaaGreatCGluQ
/- Points, similarities and rules as arguments. -/
namespace Go.Proofs.YtffmbepfbienaaaGreat
open Go.ChangeShapes Go.WideShapes Go.ChangeAt Go.RowKit Go.Joins
section
variable {H : Type} {enc : TypeId × Value → H} {P : Program} {w : World} {b0 : Nat} {sp : Nat → Bool} {held : Bool}
end
section
variable {H : Type} {enc : TypeId × Value → H} {W : World} {base : Nat} {held : Bool} {n : Nat}
theorem cellsI64 : Tryz.prog.cellsOf 2 = 1 := by kernel_rfl
end
end Go.Proofs.YtffmbepfbienaaaGreat
