import Derived.Test.YtmpambmpknaldaaIVa
import Derived.Test.YtmpambmpknaldaaIUc
set_option linter.unusedVariables false
set_option linter.unusedSimpArgs false
namespace Go.Proofs.Ytmpambmpknaldaa
open Go.RowKit
def QV (w : World) (cs : Array Value) (r : Nat → Rat) : Prop := cs.size = 20 ∧ cs.all (·.oneCell') = true ∧ noU32 cs = true ∧
 ∀ i, i < 4 → ∃ a1 a2 a3 a4 a5 a6 a7 a8, cs[4 + i * 4]? = some (.bool a1) ∧ cs[4 + i * 4 + 1]? = some (.slice a2 a3 a4) ∧ cs[4 + i * 4 + 2]? = some (.bool a5) ∧ cs[4 + i * 4 + 3]? = some (.slice a6 a7 a8) ∧ FR w (.agg #[.bool a1, .slice a2 a3 a4, .bool a5, .slice a6 a7 a8]) (r i)
theorem QV.keeps {w w' : World} {cs : Array Value} {r : Nat → Rat} (h : QV w cs r) (kp : Keeps w w') : QV w' cs r := by
 obtain ⟨h1, h2, h3, h4⟩ := h
 refine ⟨h1, h2, h3, fun i hi => ?_⟩
 obtain ⟨a1, a2, a3, a4, a5, a6, a7, a8, c0, c1, c2, c3, f⟩ := h4 i hi
 exact ⟨a1, a2, a3, a4, a5, a6, a7, a8, c0, c1, c2, c3, f.keeps kp⟩
end Go.Proofs.Ytmpambmpknaldaa
