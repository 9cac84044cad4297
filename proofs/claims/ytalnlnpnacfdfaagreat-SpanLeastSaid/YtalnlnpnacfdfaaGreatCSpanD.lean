import Derived.Test.YtalnlnpnacfdfaaGreatCSpanC
import Derived.Test.YtalnlnpnacfdfaaGreatCTry0
namespace Go.Proofs.YtalnlnpnacfdfaaGreat
open Go.RowKit
def addS (a b c d : Int) : Int × Int × Int := ifV (V a b ∧ V c d) (md (a + c) (b + d))
theorem add_p (a b c d : Int) (w : World) : Calls Tryz.prog 9 #[.agg #[.int .i64 a, .int .i64 b], .agg #[.int .i64 c, .int .i64 d]] w (G3 w (addS a b c d)) := by
  by_cases hv : V a b ∧ V c d
  · have H : Hid (addS a b c d = md (a + c) (b + d)) := if_pos hv
    obtain ⟨⟨v0, v1, v2⟩, ⟨v3, v4, v5⟩⟩ := hv
    go_enter Tryz.func9, Tryz.ntmps9
    go_wp2_with fail
    refine (check2_ok _ a b c d _ (by go_size) (by simp [go_sem]) (by simp [go_sem]) (by simp [go_sem]) (by simp [go_sem]) v0 v1 v2 v3 v4 v5).mono ?_
    rintro e w1 ⟨rfl, hb1⟩
    have z1 := hb1.size
    have B1 : Below w.heap.size w w1 := Below.trans (by go_grown) (hb1.mono (by go_size))
    have d1_0 := hb1.cell (p := ⟨w.heap.size, 0, none⟩) (by go_size)
    have d1_1 := hb1.cell (p := ⟨w.heap.size, 1, none⟩) (by go_size)
    have d1_2 := hb1.cell (p := ⟨w.heap.size + 1, 0, none⟩) (by go_size)
    have d1_3 := hb1.cell (p := ⟨w.heap.size + 1, 1, none⟩) (by go_size)
    have d1_4 := hb1.cell (p := ⟨w.heap.size + 1 + 1, 0, none⟩) (by go_size)
    have d1_5 := hb1.cell (p := ⟨w.heap.size + 1 + 1, 1, none⟩) (by go_size)
    have f1_0 := (blk hb1 (b := w.heap.size + 1 + 1) (by go_size)).2
    have y1_0 : w.heap.size < w1.heap.size := Nat.lt_of_lt_of_le (by go_size) z1
    have y1_1 : w.heap.size + 1 < w1.heap.size := Nat.lt_of_lt_of_le (by go_size) z1
    have y1_2 : w.heap.size + 1 + 1 < w1.heap.size := Nat.lt_of_lt_of_le (by go_size) z1
    simp [go_sem] at d1_0 d1_1 d1_2 d1_3 d1_4 d1_5
    go_wp2_with fail
    refine (made_any _ _ _).mono ?_
    rintro e w2 ⟨rfl, hb2⟩
    have z2 := hb2.size
    have B2 : Below w.heap.size w w2 := Below.trans (by go_grown) (hb2.mono (by go_size))
    have d2_0 := hb2.cell (p := ⟨w.heap.size + 1 + 1, 0, none⟩) (by go_size)
    have d2_1 := hb2.cell (p := ⟨w.heap.size + 1 + 1, 1, none⟩) (by go_size)
    have f2_0 := (blk hb2 (b := w.heap.size + 1 + 1) (by go_size)).2
    have y2_0 : w.heap.size + 1 + 1 < w2.heap.size := Nat.lt_of_lt_of_le (by go_size) z2
    simp [go_sem, d1_0, d1_1, d1_2, d1_3, d1_4, d1_5, y1_0, y1_1, y1_2] at d2_0 d2_1
    go_wp2
    refine bodyPost_ret (by simp [results, Tryz.results9, go_sem, d2_0, d2_1, y2_0]; rfl) rfl ?_
    show G3 w _ _ _
    rw [H.out]
    exact ⟨rfl, by go_grown⟩
  · have H : Hid (addS a b c d = (0, 0, 8)) := if_neg hv
    go_enter Tryz.func9, Tryz.ntmps9
    go_wp2_with fail
    refine (check2_bad _ a b c d _ (by go_size) (by simp [go_sem]) (by simp [go_sem]) (by simp [go_sem]) (by simp [go_sem]) hv).mono ?_
    rintro e w1 ⟨rfl, hb1⟩
    have z1 := hb1.size
    have B1 : Below w.heap.size w w1 := Below.trans (by go_grown) (hb1.mono (by go_size))
    have d1_0 := hb1.cell (p := ⟨w.heap.size + 1 + 1, 0, none⟩) (by go_size)
    have d1_1 := hb1.cell (p := ⟨w.heap.size + 1 + 1, 1, none⟩) (by go_size)
    have f1_0 := (blk hb1 (b := w.heap.size + 1 + 1) (by go_size)).2
    have y1_0 : w.heap.size + 1 + 1 < w1.heap.size := Nat.lt_of_lt_of_le (by go_size) z1
    simp [go_sem] at d1_0 d1_1
    go_wp2
    refine bodyPost_ret (by simp [results, Tryz.results9, go_sem, d1_0, d1_1, y1_0]; rfl) rfl ?_
    show G3 w _ _ _
    rw [H.out]
    exact ⟨rfl, by go_grown⟩
def subS (a b c d : Int) : Int × Int × Int := ifV (V a b ∧ V c d) (md (a - d) (b - c))
theorem sub_p (a b c d : Int) (w : World) : Calls Tryz.prog 11 #[.agg #[.int .i64 a, .int .i64 b], .agg #[.int .i64 c, .int .i64 d]] w (G3 w (subS a b c d)) := by
  by_cases hv : V a b ∧ V c d
  · have H : Hid (subS a b c d = md (a - d) (b - c)) := if_pos hv
    obtain ⟨⟨v0, v1, v2⟩, ⟨v3, v4, v5⟩⟩ := hv
    go_enter Tryz.func11, Tryz.ntmps11
    go_wp2_with fail
    refine (check2_ok _ a b c d _ (by go_size) (by simp [go_sem]) (by simp [go_sem]) (by simp [go_sem]) (by simp [go_sem]) v0 v1 v2 v3 v4 v5).mono ?_
    rintro e w1 ⟨rfl, hb1⟩
    have z1 := hb1.size
    have B1 : Below w.heap.size w w1 := Below.trans (by go_grown) (hb1.mono (by go_size))
    have d1_0 := hb1.cell (p := ⟨w.heap.size, 0, none⟩) (by go_size)
    have d1_1 := hb1.cell (p := ⟨w.heap.size, 1, none⟩) (by go_size)
    have d1_2 := hb1.cell (p := ⟨w.heap.size + 1, 0, none⟩) (by go_size)
    have d1_3 := hb1.cell (p := ⟨w.heap.size + 1, 1, none⟩) (by go_size)
    have d1_4 := hb1.cell (p := ⟨w.heap.size + 1 + 1, 0, none⟩) (by go_size)
    have d1_5 := hb1.cell (p := ⟨w.heap.size + 1 + 1, 1, none⟩) (by go_size)
    have f1_0 := (blk hb1 (b := w.heap.size + 1 + 1) (by go_size)).2
    have y1_0 : w.heap.size < w1.heap.size := Nat.lt_of_lt_of_le (by go_size) z1
    have y1_1 : w.heap.size + 1 < w1.heap.size := Nat.lt_of_lt_of_le (by go_size) z1
    have y1_2 : w.heap.size + 1 + 1 < w1.heap.size := Nat.lt_of_lt_of_le (by go_size) z1
    simp [go_sem] at d1_0 d1_1 d1_2 d1_3 d1_4 d1_5
    go_wp2_with fail
    refine (made_any _ _ _).mono ?_
    rintro e w2 ⟨rfl, hb2⟩
    have z2 := hb2.size
    have B2 : Below w.heap.size w w2 := Below.trans (by go_grown) (hb2.mono (by go_size))
    have d2_0 := hb2.cell (p := ⟨w.heap.size + 1 + 1, 0, none⟩) (by go_size)
    have d2_1 := hb2.cell (p := ⟨w.heap.size + 1 + 1, 1, none⟩) (by go_size)
    have f2_0 := (blk hb2 (b := w.heap.size + 1 + 1) (by go_size)).2
    have y2_0 : w.heap.size + 1 + 1 < w2.heap.size := Nat.lt_of_lt_of_le (by go_size) z2
    simp [go_sem, d1_0, d1_1, d1_2, d1_3, d1_4, d1_5, y1_0, y1_1, y1_2] at d2_0 d2_1
    go_wp2
    refine bodyPost_ret (by simp [results, Tryz.results11, go_sem, d2_0, d2_1, y2_0]; rfl) rfl ?_
    show G3 w _ _ _
    rw [H.out]
    exact ⟨rfl, by go_grown⟩
  · have H : Hid (subS a b c d = (0, 0, 8)) := if_neg hv
    go_enter Tryz.func11, Tryz.ntmps11
    go_wp2_with fail
    refine (check2_bad _ a b c d _ (by go_size) (by simp [go_sem]) (by simp [go_sem]) (by simp [go_sem]) (by simp [go_sem]) hv).mono ?_
    rintro e w1 ⟨rfl, hb1⟩
    have z1 := hb1.size
    have B1 : Below w.heap.size w w1 := Below.trans (by go_grown) (hb1.mono (by go_size))
    have d1_0 := hb1.cell (p := ⟨w.heap.size + 1 + 1, 0, none⟩) (by go_size)
    have d1_1 := hb1.cell (p := ⟨w.heap.size + 1 + 1, 1, none⟩) (by go_size)
    have f1_0 := (blk hb1 (b := w.heap.size + 1 + 1) (by go_size)).2
    have y1_0 : w.heap.size + 1 + 1 < w1.heap.size := Nat.lt_of_lt_of_le (by go_size) z1
    simp [go_sem] at d1_0 d1_1
    go_wp2
    refine bodyPost_ret (by simp [results, Tryz.results11, go_sem, d1_0, d1_1, y1_0]; rfl) rfl ?_
    show G3 w _ _ _
    rw [H.out]
    exact ⟨rfl, by go_grown⟩
end Go.Proofs.YtalnlnpnacfdfaaGreat
namespace Go.Proofs.YtalnlnpnacfdfaaGreat
open Go.RowKit
def minS (a b c d : Int) : Int × Int × Int := ifV (V a b ∧ V c d) ((min a c, min b d, 0))
def maxS (a b c d : Int) : Int × Int × Int := ifV (V a b ∧ V c d) ((max a c, max b d, 0))
def hullS (a b c d : Int) : Int × Int × Int := ifV (V a b ∧ V c d) ((min a c, max b d, 0))
def meetV (a b c d : Int) : Int × Int × Int := if min b d < max a c then (0, 0, 6) else (max a c, min b d, 0)
def meetS (a b c d : Int) : Int × Int × Int := ifV (V a b ∧ V c d) (meetV a b c d)
def negS (a b : Int) : Int × Int × Int := ifV (V a b) ((-b, -a, 0))
def absV (a b : Int) : Int × Int × Int := if 0 ≤ a then (a, b, 0) else if b ≤ 0 then (-b, -a, 0) else (0, max (-a) b, 0)
def absS (a b : Int) : Int × Int × Int := ifV (V a b) (absV a b)
theorem abs_p (a b : Int) (w : World) : Calls Tryz.prog 39 #[.agg #[.int .i64 a, .int .i64 b]] w (G3 w (absS a b)) := by
  by_cases hv : V a b
  · have H : Hid (absS a b = absV a b) := if_pos hv
    obtain ⟨v0, v1, v2⟩ := hv
    go_enter Tryz.func39, Tryz.ntmps39
    go_wp2_with fail
    refine (check1_ok _ a b _ (by simp [go_sem]) (by simp [go_sem]) v0 v1 v2).mono ?_
    rintro e w1 ⟨rfl, hb1⟩
    have z1 := hb1.size
    have B1 : Below w.heap.size w w1 := Below.trans (by go_grown) (hb1.mono (by go_size))
    have d1_0 := hb1.cell (p := ⟨w.heap.size, 0, none⟩) (by go_size)
    have d1_1 := hb1.cell (p := ⟨w.heap.size, 1, none⟩) (by go_size)
    have d1_2 := hb1.cell (p := ⟨w.heap.size + 1, 0, none⟩) (by go_size)
    have d1_3 := hb1.cell (p := ⟨w.heap.size + 1, 1, none⟩) (by go_size)
    have f1_0 := (blk hb1 (b := w.heap.size + 1) (by go_size)).2
    have y1_0 : w.heap.size < w1.heap.size := Nat.lt_of_lt_of_le (by go_size) z1
    have y1_1 : w.heap.size + 1 < w1.heap.size := Nat.lt_of_lt_of_le (by go_size) z1
    simp [go_sem] at d1_0 d1_1 d1_2 d1_3
    go_wp2
    all_goals refine bodyPost_ret (by simp [results, Tryz.results39, go_sem, d1_0, d1_1, d1_2, d1_3, y1_0, y1_1]; rfl) rfl ?_
    all_goals show G3 w _ _ _
    all_goals rw [H.out]
    all_goals exact G3_eq (by unfold absV; split <;> (try split) <;> first | (simp only [Prod.mk.injEq, and_true, true_and]; done) | (simp only [Prod.mk.injEq, and_true, true_and]; omega) | (exfalso; omega)) (by go_grown)
  · have H : Hid (absS a b = (0, 0, 8)) := if_neg hv
    go_enter Tryz.func39, Tryz.ntmps39
    go_wp2_with fail
    refine (check1_bad _ a b _ (by simp [go_sem]) (by simp [go_sem]) hv).mono ?_
    rintro e w1 ⟨rfl, hb1⟩
    have z1 := hb1.size
    have B1 : Below w.heap.size w w1 := Below.trans (by go_grown) (hb1.mono (by go_size))
    have d1_0 := hb1.cell (p := ⟨w.heap.size + 1, 0, none⟩) (by go_size)
    have d1_1 := hb1.cell (p := ⟨w.heap.size + 1, 1, none⟩) (by go_size)
    have f1_0 := (blk hb1 (b := w.heap.size + 1) (by go_size)).2
    have y1_0 : w.heap.size + 1 < w1.heap.size := Nat.lt_of_lt_of_le (by go_size) z1
    simp [go_sem] at d1_0 d1_1
    go_wp2
    refine bodyPost_ret (by simp [results, Tryz.results39, go_sem, d1_0, d1_1, y1_0]; rfl) rfl ?_
    show G3 w _ _ _
    rw [H.out]
    exact ⟨rfl, by go_grown⟩
def midV (a b : Int) : Int := if V a b then (a + b) / 2 else 0
def errV (p : Prop) [Decidable p] : Int := if p then 0 else 8
theorem retBq {k : IntKind} {p q : Bool} {a b : Int} (h : p = q) (g : a = b) : Ending.returned (.tuple #[.bool p, .int k a]) = .returned (.tuple #[.bool q, .int k b]) := by rw [h, g]
def inV (a b c d : Int) : Bool := decide (V a b ∧ V c d ∧ c ≤ a ∧ b ≤ d)
def cmpV (a b c d : Int) : Int := if V a b ∧ V c d then (if b < c then -1 else if d < a then 1 else 0) else 0
end Go.Proofs.YtalnlnpnacfdfaaGreat
