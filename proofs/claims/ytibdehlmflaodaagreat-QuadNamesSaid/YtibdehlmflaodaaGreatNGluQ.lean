import Derived.Deep.Slices
import Derived.Test.YtibdehlmflaodaaGreatNGlue
import Derived.Test.YtibdehlmflaodaaGreatNVa
/- Quads, and lists of quads, as arguments. -/
set_option linter.unusedVariables false
set_option linter.unusedSimpArgs false
namespace Go.Proofs.YtibdehlmflaodaaGreat
open Go.ChangeShapes Go.WideShapes Go.ChangeAt Go.RowKit Go.Joins
def Lens (cs : Array Value) (la lb : Nat → Nat) : Prop := ∀ i, i < 4 → (∃ a c, cs[4 + i * 4 + 1]? = some (.slice a (la i) c)) ∧ ∃ a c, cs[4 + i * 4 + 3]? = some (.slice a (lb i) c)
def Few4 (r : Nat → Option Rat) (la lb : Nat → Nat) : Prop := ∀ i, i < 4 → ∀ q, r i = some q → absN q.num ≤ bp (la i) ∧ (q.den : Int) ≤ bp (lb i)
section
variable {H : Type} {enc : TypeId × Value → H} {W : World} {base : Nat} {held : Bool} {n : Nat}
def f4 {α : Type} (a b c d : α) (i : Nat) : α := match i with | 0 => a | 1 => b | 2 => c | _ => d
end
end Go.Proofs.YtibdehlmflaodaaGreat
