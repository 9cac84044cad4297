import Derived.ChangeKeysEq
import Derived.Test.YtmpambmpknaldaaIQj
set_option linter.unusedVariables false
set_option linter.unusedSimpArgs false
namespace Go.Proofs.Ytmpambmpknaldaa
open Go.RowKit
def Frn (w : World) (x y : Int) (a b c d : Value) : Prop := Num w (.agg #[a, b]) x ∧ Num w (.agg #[c, d]) y
theorem Frn.keeps {w w' : World} {x y : Int} {a b c d : Value} (h : Frn w x y a b c d) (k : Keeps w w') : Frn w' x y a b c d := ⟨h.1.keeps k, h.2.keeps k⟩
theorem Num.parts2 {w : World} {a b : Value} {x : Int} (h : Num w (.agg #[a, b]) x) : ∃ g s n c, a = .bool g ∧ b = .slice s n c := by
 obtain ⟨s, e, hl⟩ := h
 obtain ⟨ao, cap, rfl⟩ := hl.shape
 simp only [Value.agg.injEq, Array.mk.injEq, List.cons.injEq, and_true] at e
 exact ⟨_, _, _, _, e.1, e.2⟩
def QM (w : World) (cs : Array Value) (k p q : Nat → Int) : Prop := cs.size = 20 ∧ cs.all (·.oneCell') = true ∧ (∀ i, i < 4 → cs[i]? = some (.int .i64 (k i))) ∧
 ∀ i, i < 4 → ∃ a b c d, cs[4 + i * 4]? = some a ∧ cs[4 + i * 4 + 1]? = some b ∧ cs[4 + i * 4 + 2]? = some c ∧ cs[4 + i * 4 + 3]? = some d ∧ Frn w (p i) (q i) a b c d
theorem QM.keeps {w w' : World} {cs : Array Value} {k p q : Nat → Int} (h : QM w cs k p q) (kp : Keeps w w') : QM w' cs k p q := by
 obtain ⟨h1, h2, h3, h4⟩ := h
 refine ⟨h1, h2, h3, fun i hi => ?_⟩
 obtain ⟨a, b, c, d, c0, c1, c2, c3, f⟩ := h4 i hi
 exact ⟨a, b, c, d, c0, c1, c2, c3, f.keeps kp⟩
theorem QM.steps {w w' : World} {cs : Array Value} {k p q : Nat → Int} (h : QM w cs k p q) (s : Steps w w') : QM w' cs k p q := h.keeps (Keeps.steps s)
def given4 : PL := [(0, 0), (4, 0), (1, 1), (3, 2)]
def k0123 (i : Nat) : Int := match i with | 0 => 0 | 1 => 1 | 2 => 2 | _ => 3
end Go.Proofs.Ytmpambmpknaldaa
