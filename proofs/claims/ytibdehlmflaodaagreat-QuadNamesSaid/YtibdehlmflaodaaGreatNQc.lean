import Derived.Test.YtibdehlmflaodaaGreatNUc
import Derived.BigQuiet
set_option linter.unusedVariables false
set_option linter.unusedSimpArgs false
set_option maxHeartbeats 6400000
set_option maxRecDepth 1000000
namespace Go.Proofs.YtibdehlmflaodaaGreat
open Go.RowKit
theorem mul_bound {a b m n : Int} (h1 : -m ≤ a) (h2 : a ≤ m) (h3 : -n ≤ b) (h4 : b ≤ n) : -(m * n) ≤ a * b ∧ a * b ≤ m * n := by
 have hm : 0 ≤ m := by omega
 have hn : 0 ≤ n := by omega
 have p1 : (m - a) * (n - b) ≥ 0 := Int.mul_nonneg (by omega) (by omega)
 have p2 : (m + a) * (n + b) ≥ 0 := Int.mul_nonneg (by omega) (by omega)
 have p3 : (m - a) * (n + b) ≥ 0 := Int.mul_nonneg (by omega) (by omega)
 have p4 : (m + a) * (n - b) ≥ 0 := Int.mul_nonneg (by omega) (by omega)
 simp only [Int.sub_mul, Int.add_mul, Int.mul_sub, Int.mul_add] at p1 p2 p3 p4
 omega
def sm (a b : Int) : Prop := -4194304 ≤ a ∧ a ≤ 4194304 ∧ -4194304 ≤ b ∧ b ≤ 4194304
theorem sm_mul {a b c d : Int} (h : sm a b) (k : sm c d) : (-17592186044416 ≤ a * c ∧ a * c ≤ 17592186044416) ∧ (-17592186044416 ≤ b * d ∧ b * d ≤ 17592186044416) ∧ (-17592186044416 ≤ b * c ∧ b * c ≤ 17592186044416) ∧ (-17592186044416 ≤ a * d ∧ a * d ≤ 17592186044416) := by
 obtain ⟨h1, h2, h3, h4⟩ := h
 obtain ⟨k1, k2, k3, k4⟩ := k
 exact ⟨mul_bound h1 h2 k1 k2, mul_bound h3 h4 k3 k4, mul_bound h3 h4 k1 k2, mul_bound h1 h2 k3 k4⟩
theorem qminus (a b c d : Int) (w : World) (h : sm a b) (k : sm c d) : Calls Tryz.prog 62 #[.agg #[.int .i64 a, .int .i64 b], .agg #[.int .i64 c, .int .i64 d]] w fun e w' => e = .returned (.agg #[.int .i64 (a - c), .int .i64 (b - d)]) ∧ Steps w w' := by
 obtain ⟨h1, h2, h3, h4⟩ := h
 obtain ⟨k1, k2, k3, k4⟩ := k
 go_enter Tryz.func62, Tryz.ntmps62
 go_wp2
 go_returns
 exact ⟨rfl, belowB⟩
theorem qconj (a b c d : Int) (w : World) (h : sm a b) (k : sm c d) : Calls Tryz.prog 63 #[.agg #[.int .i64 a, .int .i64 b], .agg #[.int .i64 c, .int .i64 d]] w fun e w' => e = .returned (.agg #[.int .i64 (a * c + b * d), .int .i64 (b * c - a * d)]) ∧ Steps w w' := by
 obtain ⟨p1, p2, p3, p4⟩ := sm_mul h k
 obtain ⟨x1, e1⟩ : ∃ x, a * c = x := ⟨_, rfl⟩
 obtain ⟨x2, e2⟩ : ∃ x, b * d = x := ⟨_, rfl⟩
 obtain ⟨x3, e3⟩ : ∃ x, b * c = x := ⟨_, rfl⟩
 obtain ⟨x4, e4⟩ : ∃ x, a * d = x := ⟨_, rfl⟩
 rw [e1] at p1
 rw [e2] at p2
 rw [e3] at p3
 rw [e4] at p4
 rw [e1, e2, e3, e4]
 have w1 : wrap64 (a * c) = x1 := by rw [e1]; unfold wrap64; omega
 have w2 : wrap64 (b * d) = x2 := by rw [e2]; unfold wrap64; omega
 have w3 : wrap64 (b * c) = x3 := by rw [e3]; unfold wrap64; omega
 have w4 : wrap64 (a * d) = x4 := by rw [e4]; unfold wrap64; omega
 obtain ⟨p11, p12⟩ := p1
 obtain ⟨p21, p22⟩ := p2
 obtain ⟨p31, p32⟩ := p3
 obtain ⟨p41, p42⟩ := p4
 clear h k e1 e2 e3 e4
 go_enter Tryz.func63, Tryz.ntmps63
 go_wp2
 go_returns
 exact ⟨rfl, belowB⟩
theorem qsquare (a b : Int) (w : World) (h : sm a b) : Calls Tryz.prog 64 #[.agg #[.int .i64 a, .int .i64 b]] w fun e w' => e = .returned (.int .i64 (a * a + b * b)) ∧ Steps w w' := by
 obtain ⟨p1, p2, p3, p4⟩ := sm_mul h h
 obtain ⟨x1, e1⟩ : ∃ x, a * a = x := ⟨_, rfl⟩
 obtain ⟨x2, e2⟩ : ∃ x, b * b = x := ⟨_, rfl⟩
 rw [e1] at p1
 rw [e2] at p2
 rw [e1, e2]
 have w1 : wrap64 (a * a) = x1 := by rw [e1]; unfold wrap64; omega
 have w2 : wrap64 (b * b) = x2 := by rw [e2]; unfold wrap64; omega
 obtain ⟨p11, p12⟩ := p1
 obtain ⟨p21, p22⟩ := p2
 clear h e1 e2 p3 p4
 go_enter Tryz.func64, Tryz.ntmps64
 go_wp2
 go_returns
 exact ⟨rfl, belowB⟩
end Go.Proofs.YtibdehlmflaodaaGreat
