import Derived.Test.YtmpambmpknaldaaIMb
import Derived.Test.YtmpambmpknaldaaIVc
set_option linter.unusedVariables false
set_option linter.unusedSimpArgs false
namespace Go.Proofs.Ytmpambmpknaldaa
open Go.RowKit
def FLs (w : World) (v : Value) (n : Nat) (O : Nat → Option Rat) (LA LB : Nat → Nat) : Prop := ∃ b o cap, v = .slice (some ⟨b, o, none⟩) n cap ∧ n ≤ cap ∧ b < w.heap.size ∧
 ∀ t, t < n → ∃ a1 a2 a4 a5 a6 a8, w.cell? ⟨b, o + t * 4, none⟩ = some (.bool a1) ∧ w.cell? ⟨b, o + t * 4 + 1, none⟩ = some (.slice a2 (LA t) a4) ∧ w.cell? ⟨b, o + t * 4 + 2, none⟩ = some (.bool a5) ∧ w.cell? ⟨b, o + t * 4 + 3, none⟩ = some (.slice a6 (LB t) a8) ∧ FB w (.agg #[.bool a1, .slice a2 (LA t) a4, .bool a5, .slice a6 (LB t) a8]) (O t)
def limF (most : Nat) (o : Option Rat) (p q : Nat) : Bool := decide (p ≤ most) && decide (q ≤ most) && o.isSome
def limL (most : Nat) (O : Nat → Option Rat) (LA LB : Nat → Nat) : Nat → Bool
 | 0 => true
 | t + 1 => limL most O LA LB t && limF most (O t) (LA t) (LB t)
end Go.Proofs.Ytmpambmpknaldaa
