import Derived.Test.YtibdehlmflaodaaGreatENo
import Derived.Test.YtibdehlmflaodaaGreatETz
set_option linter.unusedVariables false
set_option linter.unusedSimpArgs false
namespace Go.Proofs.YtibdehlmflaodaaGreat
open Go.RowKit
theorem zv_mul (x y : Int) : zv (decide (x < 0) != decide (y < 0)) (absN x * absN y) = x * y := by
 by_cases h1 : x < 0
 ·
  by_cases h2 : y < 0
  ·
   have e : absN x * absN y = x * y := by
    rw [show absN x = -x by unfold absN; omega, show absN y = -y by unfold absN; omega, Int.neg_mul_neg]
   simp [h1, h2, zv, e]
  ·
   have e : absN x * absN y = -(x * y) := by
    rw [show absN x = -x by unfold absN; omega, show absN y = y by unfold absN; omega, Int.neg_mul]
   simp [h1, h2, zv, e]
 ·
  by_cases h2 : y < 0
  ·
   have e : absN x * absN y = -(x * y) := by
    rw [show absN x = x by unfold absN; omega, show absN y = -y by unfold absN; omega, Int.mul_neg]
   simp [h1, h2, zv, e]
  ·
   have e : absN x * absN y = x * y := by
    rw [show absN x = x by unfold absN; omega, show absN y = y by unfold absN; omega]
   simp [h1, h2, zv, e]
theorem Frc.fit {w : World} {v : Value} {p q : Int} (h : Frc w v p q) : fits p ∧ fits q ∧ 0 < q := by
 obtain ⟨_, _, _, _, _, q0, _, fp, fq⟩ := h
 exact ⟨fp, fq, q0⟩
def Bad (w : World) (v : Value) : Prop := ∃ gx sa gy sb la lb, v = .agg #[.bool gx, sa, .bool gy, sb] ∧ Lim w sa la ∧ Lim w sb lb ∧ ¬ validF gx la gy lb
theorem Bad.keeps {w w' : World} {v : Value} (h : Bad w v) (k : Keeps w w') : Bad w' v := by
 obtain ⟨gx, sa, gy, sb, la, lb, e, l1, l2, hv⟩ := h
 exact ⟨gx, sa, gy, sb, la, lb, e, k _ _ l1, k _ _ l2, hv⟩
theorem Bad.shape {w : World} {v : Value} (h : Bad w v) : ∃ a s n c b t m d, v = .agg #[.bool a, .slice s n c, .bool b, .slice t m d] := by
 obtain ⟨gx, sa, gy, sb, la, lb, e, l1, l2, hv⟩ := h
 obtain ⟨s, c, rfl⟩ := l1.shape
 obtain ⟨t, d, rfl⟩ := l2.shape
 exact ⟨_, _, _, _, _, _, _, _, e⟩
theorem raw_cases {w : World} {gx gy : Bool} {sa sb : Value} {la lb : List Int} (ha : Lim w sa la) (hb : Lim w sb lb) : (∃ r, FR w (.agg #[.bool gx, sa, .bool gy, sb]) r ∧ absN r.num ≤ bp la.length ∧ (r.den : Int) ≤ bp lb.length) ∨ Bad w (.agg #[.bool gx, sa, .bool gy, sb]) := by
 by_cases h : validF gx la gy lb
 ·
  left
  obtain ⟨r, e1, e2, hr⟩ := (Frc.of_valid ha hb h).fr
  have h1 := lval_lt ha.ok
  have h2 := lval_lt hb.ok
  refine ⟨r, hr, ?_, by rw [e2]; omega⟩
  rw [e1, absN_zv gx (lval_nonneg ha.ok)]; omega
 · right; exact ⟨gx, sa, gy, sb, la, lb, rfl, ha, hb, h⟩
theorem rfcheck_q {v : Value} {r : Rat} (w : World) (h : FR w v r) : Calls Tryz.prog 27 #[v] w fun e w' => e = .returned (.int .i64 0) ∧ Steps w w' := rfcheck_ok w h
theorem rfcheck_bad {v : Value} (w : World) (h : Bad w v) : Calls Tryz.prog 27 #[v] w fun e w' => e = .returned (.int .i64 8) ∧ Steps w w' := by
 obtain ⟨gx, sa, gy, sb, la, lb, rfl, l1, l2, hv⟩ := h
 have := rfcheck gx gy w l1 l2
 rw [errC_eq, if_neg hv] at this
 exact this
end Go.Proofs.YtibdehlmflaodaaGreat
