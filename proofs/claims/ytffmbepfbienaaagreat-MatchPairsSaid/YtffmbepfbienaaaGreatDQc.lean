import Derived.Test.YtffmbepfbienaaaGreatDUc
import Derived.BigQuiet
set_option linter.unusedVariables false
set_option linter.unusedSimpArgs false
namespace Go.Proofs.YtffmbepfbienaaaGreat
open Go.RowKit
theorem mul_bound {a b m n : Int} (h1 : -m ≤ a) (h2 : a ≤ m) (h3 : -n ≤ b) (h4 : b ≤ n) : -(m * n) ≤ a * b ∧ a * b ≤ m * n := by
 have hm : 0 ≤ m := by omega
 have hn : 0 ≤ n := by omega
 have p1 : (m - a) * (n - b) ≥ 0 := Int.mul_nonneg (by omega) (by omega)
 have p2 : (m + a) * (n + b) ≥ 0 := Int.mul_nonneg (by omega) (by omega)
 have p3 : (m - a) * (n + b) ≥ 0 := Int.mul_nonneg (by omega) (by omega)
 have p4 : (m + a) * (n - b) ≥ 0 := Int.mul_nonneg (by omega) (by omega)
 simp only [Int.sub_mul, Int.add_mul, Int.mul_sub, Int.mul_add] at p1 p2 p3 p4
 omega
def sm (a b : Int) : Prop := -4194304 ≤ a ∧ a ≤ 4194304 ∧ -4194304 ≤ b ∧ b ≤ 4194304
end Go.Proofs.YtffmbepfbienaaaGreat
