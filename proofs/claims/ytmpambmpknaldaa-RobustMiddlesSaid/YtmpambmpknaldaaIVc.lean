import Derived.Test.YtmpambmpknaldaaIVb
import Derived.Great.BuildSlice
set_option linter.unusedVariables false
set_option linter.unusedSimpArgs false
namespace Go.Proofs.Ytmpambmpknaldaa
open Go.RowKit
theorem FB.shape {w : World} {v : Value} {o : Option Rat} (h : FB w v o) : ∃ a s n c b t m d, v = .agg #[.bool a, .slice s n c, .bool b, .slice t m d] := by
 cases o with
 | none => exact Bad.shape h
 | some r => exact FR.shape h
def okC (b : Bool) : Int := if b then 0 else 8
def limB : Option Rat → Bool
 | some r => !decide (r < 0)
 | none => false
def two {α : Type} (a b : α) (t : Nat) : α := if t = 0 then a else b
end Go.Proofs.Ytmpambmpknaldaa
