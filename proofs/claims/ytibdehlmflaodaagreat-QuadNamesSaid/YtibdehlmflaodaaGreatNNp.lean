import Derived.Test.YtibdehlmflaodaaGreatNNo
import Derived.Test.YtibdehlmflaodaaGreatNTz
set_option linter.unusedVariables false
set_option linter.unusedSimpArgs false
namespace Go.Proofs.YtibdehlmflaodaaGreat
open Go.RowKit
theorem zv_mul (x y : Int) : zv (decide (x < 0) != decide (y < 0)) (absN x * absN y) = x * y := by
 by_cases h1 : x < 0
 ·
  by_cases h2 : y < 0
  ·
   have e : absN x * absN y = x * y := by
    rw [show absN x = -x by unfold absN; omega, show absN y = -y by unfold absN; omega, Int.neg_mul_neg]
   simp [h1, h2, zv, e]
  ·
   have e : absN x * absN y = -(x * y) := by
    rw [show absN x = -x by unfold absN; omega, show absN y = y by unfold absN; omega, Int.neg_mul]
   simp [h1, h2, zv, e]
 ·
  by_cases h2 : y < 0
  ·
   have e : absN x * absN y = -(x * y) := by
    rw [show absN x = x by unfold absN; omega, show absN y = -y by unfold absN; omega, Int.mul_neg]
   simp [h1, h2, zv, e]
  ·
   have e : absN x * absN y = x * y := by
    rw [show absN x = x by unfold absN; omega, show absN y = y by unfold absN; omega]
   simp [h1, h2, zv, e]
theorem Frc.fit {w : World} {v : Value} {p q : Int} (h : Frc w v p q) : fits p ∧ fits q ∧ 0 < q := by
 obtain ⟨_, _, _, _, _, q0, _, fp, fq⟩ := h
 exact ⟨fp, fq, q0⟩
def Bad (w : World) (v : Value) : Prop := ∃ gx sa gy sb la lb, v = .agg #[.bool gx, sa, .bool gy, sb] ∧ Lim w sa la ∧ Lim w sb lb ∧ ¬ validF gx la gy lb
theorem Bad.keeps {w w' : World} {v : Value} (h : Bad w v) (k : Keeps w w') : Bad w' v := by
 obtain ⟨gx, sa, gy, sb, la, lb, e, l1, l2, hv⟩ := h
 exact ⟨gx, sa, gy, sb, la, lb, e, k _ _ l1, k _ _ l2, hv⟩
theorem Bad.shape {w : World} {v : Value} (h : Bad w v) : ∃ a s n c b t m d, v = .agg #[.bool a, .slice s n c, .bool b, .slice t m d] := by
 obtain ⟨gx, sa, gy, sb, la, lb, e, l1, l2, hv⟩ := h
 obtain ⟨s, c, rfl⟩ := l1.shape
 obtain ⟨t, d, rfl⟩ := l2.shape
 exact ⟨_, _, _, _, _, _, _, _, e⟩
end Go.Proofs.YtibdehlmflaodaaGreat
