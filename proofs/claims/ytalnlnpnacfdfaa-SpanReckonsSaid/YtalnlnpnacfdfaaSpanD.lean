import Derived.Test.YtalnlnpnacfdfaaSpanC
import Derived.Test.YtalnlnpnacfdfaaTry0
namespace Go.Proofs.Ytalnlnpnacfdfaa
open Go.RowKit
def addS (a b c d : Int) : Int × Int × Int := ifV (V a b ∧ V c d) (md (a + c) (b + d))
theorem add_p (a b c d : Int) (w : World) : Calls Try.prog 22 #[.agg #[.int .i64 a, .int .i64 b], .agg #[.int .i64 c, .int .i64 d]] w (G3 w (addS a b c d)) := by
  by_cases hv : V a b ∧ V c d
  · have H : Hid (addS a b c d = md (a + c) (b + d)) := if_pos hv
    obtain ⟨⟨v0, v1, v2⟩, ⟨v3, v4, v5⟩⟩ := hv
    go_enter Try.func22, Try.ntmps22
    go_wp2_with fail
    refine (check2_ok _ a b c d _ (by go_size) (by simp [go_sem]) (by simp [go_sem]) (by simp [go_sem]) (by simp [go_sem]) v0 v1 v2 v3 v4 v5).mono ?_
    rintro e w1 ⟨rfl, hb1⟩
    have z1 := hb1.size
    have B1 : Below w.heap.size w w1 := Below.trans (by go_grown) (hb1.mono (by go_size))
    have d1_0 := hb1.cell (p := ⟨w.heap.size, 0, none⟩) (by go_size)
    have d1_1 := hb1.cell (p := ⟨w.heap.size, 1, none⟩) (by go_size)
    have d1_2 := hb1.cell (p := ⟨w.heap.size + 1, 0, none⟩) (by go_size)
    have d1_3 := hb1.cell (p := ⟨w.heap.size + 1, 1, none⟩) (by go_size)
    have d1_4 := hb1.cell (p := ⟨w.heap.size + 1 + 1, 0, none⟩) (by go_size)
    have d1_5 := hb1.cell (p := ⟨w.heap.size + 1 + 1, 1, none⟩) (by go_size)
    have f1_0 := (blk hb1 (b := w.heap.size + 1 + 1) (by go_size)).2
    have y1_0 : w.heap.size < w1.heap.size := Nat.lt_of_lt_of_le (by go_size) z1
    have y1_1 : w.heap.size + 1 < w1.heap.size := Nat.lt_of_lt_of_le (by go_size) z1
    have y1_2 : w.heap.size + 1 + 1 < w1.heap.size := Nat.lt_of_lt_of_le (by go_size) z1
    simp [go_sem] at d1_0 d1_1 d1_2 d1_3 d1_4 d1_5
    go_wp2_with fail
    refine (made_any _ _ _).mono ?_
    rintro e w2 ⟨rfl, hb2⟩
    have z2 := hb2.size
    have B2 : Below w.heap.size w w2 := Below.trans (by go_grown) (hb2.mono (by go_size))
    have d2_0 := hb2.cell (p := ⟨w.heap.size + 1 + 1, 0, none⟩) (by go_size)
    have d2_1 := hb2.cell (p := ⟨w.heap.size + 1 + 1, 1, none⟩) (by go_size)
    have f2_0 := (blk hb2 (b := w.heap.size + 1 + 1) (by go_size)).2
    have y2_0 : w.heap.size + 1 + 1 < w2.heap.size := Nat.lt_of_lt_of_le (by go_size) z2
    simp [go_sem, d1_0, d1_1, d1_2, d1_3, d1_4, d1_5, y1_0, y1_1, y1_2] at d2_0 d2_1
    go_wp2
    refine bodyPost_ret (by simp [results, Try.results22, go_sem, d2_0, d2_1, y2_0]; rfl) rfl ?_
    show G3 w _ _ _
    rw [H.out]
    exact ⟨rfl, by go_grown⟩
  · have H : Hid (addS a b c d = (0, 0, 8)) := if_neg hv
    go_enter Try.func22, Try.ntmps22
    go_wp2_with fail
    refine (check2_bad _ a b c d _ (by go_size) (by simp [go_sem]) (by simp [go_sem]) (by simp [go_sem]) (by simp [go_sem]) hv).mono ?_
    rintro e w1 ⟨rfl, hb1⟩
    have z1 := hb1.size
    have B1 : Below w.heap.size w w1 := Below.trans (by go_grown) (hb1.mono (by go_size))
    have d1_0 := hb1.cell (p := ⟨w.heap.size + 1 + 1, 0, none⟩) (by go_size)
    have d1_1 := hb1.cell (p := ⟨w.heap.size + 1 + 1, 1, none⟩) (by go_size)
    have f1_0 := (blk hb1 (b := w.heap.size + 1 + 1) (by go_size)).2
    have y1_0 : w.heap.size + 1 + 1 < w1.heap.size := Nat.lt_of_lt_of_le (by go_size) z1
    simp [go_sem] at d1_0 d1_1
    go_wp2
    refine bodyPost_ret (by simp [results, Try.results22, go_sem, d1_0, d1_1, y1_0]; rfl) rfl ?_
    show G3 w _ _ _
    rw [H.out]
    exact ⟨rfl, by go_grown⟩
def subS (a b c d : Int) : Int × Int × Int := ifV (V a b ∧ V c d) (md (a - d) (b - c))
theorem sub_p (a b c d : Int) (w : World) : Calls Try.prog 24 #[.agg #[.int .i64 a, .int .i64 b], .agg #[.int .i64 c, .int .i64 d]] w (G3 w (subS a b c d)) := by
  by_cases hv : V a b ∧ V c d
  · have H : Hid (subS a b c d = md (a - d) (b - c)) := if_pos hv
    obtain ⟨⟨v0, v1, v2⟩, ⟨v3, v4, v5⟩⟩ := hv
    go_enter Try.func24, Try.ntmps24
    go_wp2_with fail
    refine (check2_ok _ a b c d _ (by go_size) (by simp [go_sem]) (by simp [go_sem]) (by simp [go_sem]) (by simp [go_sem]) v0 v1 v2 v3 v4 v5).mono ?_
    rintro e w1 ⟨rfl, hb1⟩
    have z1 := hb1.size
    have B1 : Below w.heap.size w w1 := Below.trans (by go_grown) (hb1.mono (by go_size))
    have d1_0 := hb1.cell (p := ⟨w.heap.size, 0, none⟩) (by go_size)
    have d1_1 := hb1.cell (p := ⟨w.heap.size, 1, none⟩) (by go_size)
    have d1_2 := hb1.cell (p := ⟨w.heap.size + 1, 0, none⟩) (by go_size)
    have d1_3 := hb1.cell (p := ⟨w.heap.size + 1, 1, none⟩) (by go_size)
    have d1_4 := hb1.cell (p := ⟨w.heap.size + 1 + 1, 0, none⟩) (by go_size)
    have d1_5 := hb1.cell (p := ⟨w.heap.size + 1 + 1, 1, none⟩) (by go_size)
    have f1_0 := (blk hb1 (b := w.heap.size + 1 + 1) (by go_size)).2
    have y1_0 : w.heap.size < w1.heap.size := Nat.lt_of_lt_of_le (by go_size) z1
    have y1_1 : w.heap.size + 1 < w1.heap.size := Nat.lt_of_lt_of_le (by go_size) z1
    have y1_2 : w.heap.size + 1 + 1 < w1.heap.size := Nat.lt_of_lt_of_le (by go_size) z1
    simp [go_sem] at d1_0 d1_1 d1_2 d1_3 d1_4 d1_5
    go_wp2_with fail
    refine (made_any _ _ _).mono ?_
    rintro e w2 ⟨rfl, hb2⟩
    have z2 := hb2.size
    have B2 : Below w.heap.size w w2 := Below.trans (by go_grown) (hb2.mono (by go_size))
    have d2_0 := hb2.cell (p := ⟨w.heap.size + 1 + 1, 0, none⟩) (by go_size)
    have d2_1 := hb2.cell (p := ⟨w.heap.size + 1 + 1, 1, none⟩) (by go_size)
    have f2_0 := (blk hb2 (b := w.heap.size + 1 + 1) (by go_size)).2
    have y2_0 : w.heap.size + 1 + 1 < w2.heap.size := Nat.lt_of_lt_of_le (by go_size) z2
    simp [go_sem, d1_0, d1_1, d1_2, d1_3, d1_4, d1_5, y1_0, y1_1, y1_2] at d2_0 d2_1
    go_wp2
    refine bodyPost_ret (by simp [results, Try.results24, go_sem, d2_0, d2_1, y2_0]; rfl) rfl ?_
    show G3 w _ _ _
    rw [H.out]
    exact ⟨rfl, by go_grown⟩
  · have H : Hid (subS a b c d = (0, 0, 8)) := if_neg hv
    go_enter Try.func24, Try.ntmps24
    go_wp2_with fail
    refine (check2_bad _ a b c d _ (by go_size) (by simp [go_sem]) (by simp [go_sem]) (by simp [go_sem]) (by simp [go_sem]) hv).mono ?_
    rintro e w1 ⟨rfl, hb1⟩
    have z1 := hb1.size
    have B1 : Below w.heap.size w w1 := Below.trans (by go_grown) (hb1.mono (by go_size))
    have d1_0 := hb1.cell (p := ⟨w.heap.size + 1 + 1, 0, none⟩) (by go_size)
    have d1_1 := hb1.cell (p := ⟨w.heap.size + 1 + 1, 1, none⟩) (by go_size)
    have f1_0 := (blk hb1 (b := w.heap.size + 1 + 1) (by go_size)).2
    have y1_0 : w.heap.size + 1 + 1 < w1.heap.size := Nat.lt_of_lt_of_le (by go_size) z1
    simp [go_sem] at d1_0 d1_1
    go_wp2
    refine bodyPost_ret (by simp [results, Try.results24, go_sem, d1_0, d1_1, y1_0]; rfl) rfl ?_
    show G3 w _ _ _
    rw [H.out]
    exact ⟨rfl, by go_grown⟩
