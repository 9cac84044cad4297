import Derived.Deep.Slices
import Derived.Test.YtibdehlmflaodaaGreatEGlue
import Derived.Test.YtibdehlmflaodaaGreatEVa
/- Quads, and lists of quads, as arguments. -/
set_option linter.unusedVariables false
set_option linter.unusedSimpArgs false
namespace Go.Proofs.YtibdehlmflaodaaGreat
open Go.ChangeShapes Go.WideShapes Go.ChangeAt Go.RowKit Go.Joins
def Lens (cs : Array Value) (la lb : Nat → Nat) : Prop := ∀ i, i < 4 → (∃ a c, cs[4 + i * 4 + 1]? = some (.slice a (la i) c)) ∧ ∃ a c, cs[4 + i * 4 + 3]? = some (.slice a (lb i) c)
def Few4 (r : Nat → Option Rat) (la lb : Nat → Nat) : Prop := ∀ i, i < 4 → ∀ q, r i = some q → absN q.num ≤ bp (la i) ∧ (q.den : Int) ≤ bp (lb i)
theorem raw_fb {w : World} {gx gy : Bool} {sa sb : Value} {la lb : List Int} (ha : Lim w sa la) (hb : Lim w sb lb) : ∃ o, FB w (.agg #[.bool gx, sa, .bool gy, sb]) o ∧ ∀ q, o = some q → absN q.num ≤ bp la.length ∧ (q.den : Int) ≤ bp lb.length := by
 rcases raw_cases (gx := gx) (gy := gy) ha hb with ⟨r, h, h1, h2⟩ | h
 · exact ⟨some r, h, fun q e => by cases e; exact ⟨h1, h2⟩⟩
 · exact ⟨none, h, fun q e => by cases e⟩
section
variable {H : Type} {enc : TypeId × Value → H} {W : World} {base : Nat} {held : Bool} {n : Nat}
def f4 {α : Type} (a b c d : α) (i : Nat) : α := match i with | 0 => a | 1 => b | 2 => c | _ => d
end
end Go.Proofs.YtibdehlmflaodaaGreat
