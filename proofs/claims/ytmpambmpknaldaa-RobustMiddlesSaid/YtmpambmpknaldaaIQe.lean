import Derived.Test.YtmpambmpknaldaaIQd
import Derived.Test.YtmpambmpknaldaaIRow
set_option linter.unusedVariables false
set_option linter.unusedSimpArgs false
namespace Go.Proofs.Ytmpambmpknaldaa
open Go.RowKit
def QD (w : World) (v : Value) (k0 k1 k2 k3 : Int) (r0 r1 r2 r3 : Rat) : Prop :=
 ∃ a b c d e f g h i j k l m n o p, v = .agg #[.int .i64 k0, .int .i64 k1, .int .i64 k2, .int .i64 k3, a, b, c, d, e, f, g, h, i, j, k, l, m, n, o, p] ∧
  FR w (.agg #[a, b, c, d]) r0 ∧ FR w (.agg #[e, f, g, h]) r1 ∧ FR w (.agg #[i, j, k, l]) r2 ∧ FR w (.agg #[m, n, o, p]) r3
theorem QD.keeps {w w' : World} {v : Value} {k0 k1 k2 k3 : Int} {r0 r1 r2 r3 : Rat} (h : QD w v k0 k1 k2 k3 r0 r1 r2 r3) (k : Keeps w w') : QD w' v k0 k1 k2 k3 r0 r1 r2 r3 := by
 obtain ⟨a, b, c, d, e, f, g, h, i, j, k', l, m, n, o, p, e1, f0, f1, f2, f3⟩ := h
 exact ⟨a, b, c, d, e, f, g, h, i, j, k', l, m, n, o, p, e1, f0.keeps k, f1.keeps k, f2.keeps k, f3.keeps k⟩
theorem QD.steps {w w' : World} {v : Value} {k0 k1 k2 k3 : Int} {r0 r1 r2 r3 : Rat} (h : QD w v k0 k1 k2 k3 r0 r1 r2 r3) (k : Steps w w') : QD w' v k0 k1 k2 k3 r0 r1 r2 r3 := h.keeps (Keeps.steps k)
end Go.Proofs.Ytmpambmpknaldaa
