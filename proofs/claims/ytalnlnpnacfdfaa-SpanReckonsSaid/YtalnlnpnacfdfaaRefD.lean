import Derived.Test.YtalnlnpnacfdfaaRefC
import Derived.Test.YtalnlnpnacfdfaaSpanI
import Derived.Test.YtalnlnpnacfdfaaSpanJ
namespace Go.Proofs.Ytalnlnpnacfdfaa
open Go.RowKit
theorem md_ok {x y : Int} (h0 : -2305843009213693952 ≤ x) (h1 : y ≤ 2305843009213693952) : md x y = (x, y, 0) := by unfold md; rw [if_neg (by omega)]
set_option maxRecDepth 100000 in
set_option maxHeartbeats 4000000 in
theorem radd (a b c d : Int) (w : World) : Calls Try.prog 23 #[.agg #[.int .i64 a, .int .i64 b], .agg #[.int .i64 c, .int .i64 d]] w (G3 w (addS a b c d)) := by
  by_cases hv : V a b ∧ V c d
  · have H1 : Hid (errV (V a b ∧ V c d) = 0) := if_pos hv
    have H : Hid (addS a b c d = md (a + c) (b + d)) := if_pos hv
    obtain ⟨⟨v0, v1, v2⟩, ⟨v3, v4, v5⟩⟩ := hv
    go_enter Try.func23, Try.ntmps23
    go_wp2_with fail
    refine (rboth a b c d _).mono ?_
    rintro e w1 ⟨rfl, hb1⟩
    have st : Steps _ w1 := hb1
    have Bn : Below w.heap.size w w1 := below_steps (by (repeat' first | with_reducible assumption | with_reducible exact Below.refl _ _ | with_reducible refine Below.alloc ?_ ?_ _ | with_reducible refine Below.drew ?_ | with_reducible refine belowN ?_ _ | with_reducible refine Below.setCell ?_ ?_ _ | go_size)) (Nat.le_refl _) st
    have nA : Blk w1 (w.heap.size) 23 #[.int .i64 (a), .int .i64 (b)] := Blk.steps (by (repeat' first | with_reducible assumption | (with_reducible refine Blk.new' ?_; first | with_reducible rfl | (simp only [World.size_alloc, World.size_setCell, World.size_drew]; done)) | with_reducible refine Blk.alloc ?_ _ | with_reducible refine Blk.drew ?_ | with_reducible refine Blk.drewN ?_ _ | with_reducible apply Blk.both | with_reducible refine Blk.far' ?_ ?_ | (show _ ≠ _; omega))) st
    have nB : Blk w1 (w.heap.size + 1) 23 #[.int .i64 (c), .int .i64 (d)] := Blk.steps (by (repeat' first | with_reducible assumption | (with_reducible refine Blk.new' ?_; first | with_reducible rfl | (simp only [World.size_alloc, World.size_setCell, World.size_drew]; done)) | with_reducible refine Blk.alloc ?_ _ | with_reducible refine Blk.drew ?_ | with_reducible refine Blk.drewN ?_ _ | with_reducible apply Blk.both | with_reducible refine Blk.far' ?_ ?_ | (show _ ≠ _; omega))) st
    have nR : Blk w1 (w.heap.size + 1 + 1) 23 #[.int .i64 (0), .int .i64 (0)] := Blk.steps (by (repeat' first | with_reducible assumption | (with_reducible refine Blk.new' ?_; first | with_reducible rfl | (simp only [World.size_alloc, World.size_setCell, World.size_drew]; done)) | with_reducible refine Blk.alloc ?_ _ | with_reducible refine Blk.drew ?_ | with_reducible refine Blk.drewN ?_ _ | with_reducible apply Blk.both | with_reducible refine Blk.far' ?_ ?_ | (show _ ≠ _; omega))) st
    clear st
    have B := Bn
    clear Bn
    have oA := nA
    clear nA
    have cA0 : World.cell? w1 ⟨w.heap.size, 0, none⟩ = some (.int .i64 (a)) := oA.c 0 rfl
    have cA1 : World.cell? w1 ⟨w.heap.size, 1, none⟩ = some (.int .i64 (b)) := oA.c 1 rfl
    have fA := oA.fr
    have lA := oA.lt
    have oB := nB
    clear nB
    have cB0 : World.cell? w1 ⟨w.heap.size + 1, 0, none⟩ = some (.int .i64 (c)) := oB.c 0 rfl
    have cB1 : World.cell? w1 ⟨w.heap.size + 1, 1, none⟩ = some (.int .i64 (d)) := oB.c 1 rfl
    have fB := oB.fr
    have lB := oB.lt
    have oR := nR
    clear nR
    have cR0 : World.cell? w1 ⟨w.heap.size + 1 + 1, 0, none⟩ = some (.int .i64 (0)) := oR.c 0 rfl
    have cR1 : World.cell? w1 ⟨w.heap.size + 1 + 1, 1, none⟩ = some (.int .i64 (0)) := oR.c 1 rfl
    have fR := oR.fr
    have lR := oR.lt
    rw [H1.out]
    go_wp2_with fail
    refine (rmade _ _ _).mono ?_
    rintro e w2 ⟨rfl, hb2⟩
    have st : Steps _ w2 := hb2
    have Bn : Below w.heap.size w w2 := below_steps (by (repeat' first | with_reducible assumption | with_reducible exact Below.refl _ _ | with_reducible refine Below.alloc ?_ ?_ _ | with_reducible refine Below.drew ?_ | with_reducible refine belowN ?_ _ | with_reducible refine Below.setCell ?_ ?_ _ | go_size)) (Nat.le_refl _) st
    have nA : Blk w2 (w.heap.size) 23 #[.int .i64 (a), .int .i64 (b)] := Blk.steps (by (repeat' first | with_reducible assumption | (with_reducible refine Blk.new' ?_; first | with_reducible rfl | (simp only [World.size_alloc, World.size_setCell, World.size_drew]; done)) | with_reducible refine Blk.alloc ?_ _ | with_reducible refine Blk.drew ?_ | with_reducible refine Blk.drewN ?_ _ | with_reducible apply Blk.both | with_reducible refine Blk.far' ?_ ?_ | (show _ ≠ _; omega))) st
    have nB : Blk w2 (w.heap.size + 1) 23 #[.int .i64 (c), .int .i64 (d)] := Blk.steps (by (repeat' first | with_reducible assumption | (with_reducible refine Blk.new' ?_; first | with_reducible rfl | (simp only [World.size_alloc, World.size_setCell, World.size_drew]; done)) | with_reducible refine Blk.alloc ?_ _ | with_reducible refine Blk.drew ?_ | with_reducible refine Blk.drewN ?_ _ | with_reducible apply Blk.both | with_reducible refine Blk.far' ?_ ?_ | (show _ ≠ _; omega))) st
    have nR : Blk w2 (w.heap.size + 1 + 1) 23 #[.int .i64 (0), .int .i64 (0)] := Blk.steps (by (repeat' first | with_reducible assumption | (with_reducible refine Blk.new' ?_; first | with_reducible rfl | (simp only [World.size_alloc, World.size_setCell, World.size_drew]; done)) | with_reducible refine Blk.alloc ?_ _ | with_reducible refine Blk.drew ?_ | with_reducible refine Blk.drewN ?_ _ | with_reducible apply Blk.both | with_reducible refine Blk.far' ?_ ?_ | (show _ ≠ _; omega))) st
    clear B oA oB oR cA0 cA1 fA lA cB0 cB1 fB lB cR0 cR1 fR lR
    clear st
    have B := Bn
    clear Bn
    have oA := nA
    clear nA
    have cA0 : World.cell? w2 ⟨w.heap.size, 0, none⟩ = some (.int .i64 (a)) := oA.c 0 rfl
    have cA1 : World.cell? w2 ⟨w.heap.size, 1, none⟩ = some (.int .i64 (b)) := oA.c 1 rfl
    have fA := oA.fr
    have lA := oA.lt
    have oB := nB
    clear nB
    have cB0 : World.cell? w2 ⟨w.heap.size + 1, 0, none⟩ = some (.int .i64 (c)) := oB.c 0 rfl
    have cB1 : World.cell? w2 ⟨w.heap.size + 1, 1, none⟩ = some (.int .i64 (d)) := oB.c 1 rfl
    have fB := oB.fr
    have lB := oB.lt
    have oR := nR
    clear nR
    have cR0 : World.cell? w2 ⟨w.heap.size + 1 + 1, 0, none⟩ = some (.int .i64 (0)) := oR.c 0 rfl
    have cR1 : World.cell? w2 ⟨w.heap.size + 1 + 1, 1, none⟩ = some (.int .i64 (0)) := oR.c 1 rfl
    have fR := oR.fr
    have lR := oR.lt
    go_wp2_with fail
    refine bodyPost_ret (by simp [results, Try.results23, go_sem, cR0, cR1, fR, lR]; rfl) rfl ?_
    show G3 w _ _ _
    rw [H.out]
    exact ⟨rfl, by (repeat' first | with_reducible assumption | with_reducible exact Below.refl _ _ | with_reducible refine Below.alloc ?_ ?_ _ | with_reducible refine Below.drew ?_ | with_reducible refine belowN ?_ _ | with_reducible refine Below.setCell ?_ ?_ _ | go_size)⟩
  · have H1 : Hid (errV (V a b ∧ V c d) = 8) := if_neg hv
    have H : Hid (addS a b c d = (0, 0, 8)) := if_neg hv
    clear hv
    go_enter Try.func23, Try.ntmps23
    go_wp2_with fail
    refine (rboth a b c d _).mono ?_
    rintro e w1 ⟨rfl, hb1⟩
    have st : Steps _ w1 := hb1
    have Bn : Below w.heap.size w w1 := below_steps (by (repeat' first | with_reducible assumption | with_reducible exact Below.refl _ _ | with_reducible refine Below.alloc ?_ ?_ _ | with_reducible refine Below.drew ?_ | with_reducible refine belowN ?_ _ | with_reducible refine Below.setCell ?_ ?_ _ | go_size)) (Nat.le_refl _) st
    have nA : Blk w1 (w.heap.size) 23 #[.int .i64 (a), .int .i64 (b)] := Blk.steps (by (repeat' first | with_reducible assumption | (with_reducible refine Blk.new' ?_; first | with_reducible rfl | (simp only [World.size_alloc, World.size_setCell, World.size_drew]; done)) | with_reducible refine Blk.alloc ?_ _ | with_reducible refine Blk.drew ?_ | with_reducible refine Blk.drewN ?_ _ | with_reducible apply Blk.both | with_reducible refine Blk.far' ?_ ?_ | (show _ ≠ _; omega))) st
    have nB : Blk w1 (w.heap.size + 1) 23 #[.int .i64 (c), .int .i64 (d)] := Blk.steps (by (repeat' first | with_reducible assumption | (with_reducible refine Blk.new' ?_; first | with_reducible rfl | (simp only [World.size_alloc, World.size_setCell, World.size_drew]; done)) | with_reducible refine Blk.alloc ?_ _ | with_reducible refine Blk.drew ?_ | with_reducible refine Blk.drewN ?_ _ | with_reducible apply Blk.both | with_reducible refine Blk.far' ?_ ?_ | (show _ ≠ _; omega))) st
    have nR : Blk w1 (w.heap.size + 1 + 1) 23 #[.int .i64 (0), .int .i64 (0)] := Blk.steps (by (repeat' first | with_reducible assumption | (with_reducible refine Blk.new' ?_; first | with_reducible rfl | (simp only [World.size_alloc, World.size_setCell, World.size_drew]; done)) | with_reducible refine Blk.alloc ?_ _ | with_reducible refine Blk.drew ?_ | with_reducible refine Blk.drewN ?_ _ | with_reducible apply Blk.both | with_reducible refine Blk.far' ?_ ?_ | (show _ ≠ _; omega))) st
    clear st
    have B := Bn
    clear Bn
    have oA := nA
    clear nA
    have cA0 : World.cell? w1 ⟨w.heap.size, 0, none⟩ = some (.int .i64 (a)) := oA.c 0 rfl
    have cA1 : World.cell? w1 ⟨w.heap.size, 1, none⟩ = some (.int .i64 (b)) := oA.c 1 rfl
    have fA := oA.fr
    have lA := oA.lt
    have oB := nB
    clear nB
    have cB0 : World.cell? w1 ⟨w.heap.size + 1, 0, none⟩ = some (.int .i64 (c)) := oB.c 0 rfl
    have cB1 : World.cell? w1 ⟨w.heap.size + 1, 1, none⟩ = some (.int .i64 (d)) := oB.c 1 rfl
    have fB := oB.fr
    have lB := oB.lt
    have oR := nR
    clear nR
    have cR0 : World.cell? w1 ⟨w.heap.size + 1 + 1, 0, none⟩ = some (.int .i64 (0)) := oR.c 0 rfl
    have cR1 : World.cell? w1 ⟨w.heap.size + 1 + 1, 1, none⟩ = some (.int .i64 (0)) := oR.c 1 rfl
    have fR := oR.fr
    have lR := oR.lt
    rw [H1.out]
    go_wp2_with fail
    refine (rboth a b c d _).mono ?_
    rintro e w2 ⟨rfl, hb2⟩
    have st : Steps _ w2 := hb2
    have Bn : Below w.heap.size w w2 := below_steps (by (repeat' first | with_reducible assumption | with_reducible exact Below.refl _ _ | with_reducible refine Below.alloc ?_ ?_ _ | with_reducible refine Below.drew ?_ | with_reducible refine belowN ?_ _ | with_reducible refine Below.setCell ?_ ?_ _ | go_size)) (Nat.le_refl _) st
    have nA : Blk w2 (w.heap.size) 23 #[.int .i64 (a), .int .i64 (b)] := Blk.steps (by (repeat' first | with_reducible assumption | (with_reducible refine Blk.new' ?_; first | with_reducible rfl | (simp only [World.size_alloc, World.size_setCell, World.size_drew]; done)) | with_reducible refine Blk.alloc ?_ _ | with_reducible refine Blk.drew ?_ | with_reducible refine Blk.drewN ?_ _ | with_reducible apply Blk.both | with_reducible refine Blk.far' ?_ ?_ | (show _ ≠ _; omega))) st
    have nB : Blk w2 (w.heap.size + 1) 23 #[.int .i64 (c), .int .i64 (d)] := Blk.steps (by (repeat' first | with_reducible assumption | (with_reducible refine Blk.new' ?_; first | with_reducible rfl | (simp only [World.size_alloc, World.size_setCell, World.size_drew]; done)) | with_reducible refine Blk.alloc ?_ _ | with_reducible refine Blk.drew ?_ | with_reducible refine Blk.drewN ?_ _ | with_reducible apply Blk.both | with_reducible refine Blk.far' ?_ ?_ | (show _ ≠ _; omega))) st
    have nR : Blk w2 (w.heap.size + 1 + 1) 23 #[.int .i64 (0), .int .i64 (0)] := Blk.steps (by (repeat' first | with_reducible assumption | (with_reducible refine Blk.new' ?_; first | with_reducible rfl | (simp only [World.size_alloc, World.size_setCell, World.size_drew]; done)) | with_reducible refine Blk.alloc ?_ _ | with_reducible refine Blk.drew ?_ | with_reducible refine Blk.drewN ?_ _ | with_reducible apply Blk.both | with_reducible refine Blk.far' ?_ ?_ | (show _ ≠ _; omega))) st
    clear B oA oB oR cA0 cA1 fA lA cB0 cB1 fB lB cR0 cR1 fR lR
    clear st
    have B := Bn
    clear Bn
    have oA := nA
    clear nA
    have cA0 : World.cell? w2 ⟨w.heap.size, 0, none⟩ = some (.int .i64 (a)) := oA.c 0 rfl
    have cA1 : World.cell? w2 ⟨w.heap.size, 1, none⟩ = some (.int .i64 (b)) := oA.c 1 rfl
    have fA := oA.fr
    have lA := oA.lt
    have oB := nB
    clear nB
    have cB0 : World.cell? w2 ⟨w.heap.size + 1, 0, none⟩ = some (.int .i64 (c)) := oB.c 0 rfl
    have cB1 : World.cell? w2 ⟨w.heap.size + 1, 1, none⟩ = some (.int .i64 (d)) := oB.c 1 rfl
    have fB := oB.fr
    have lB := oB.lt
    have oR := nR
    clear nR
    have cR0 : World.cell? w2 ⟨w.heap.size + 1 + 1, 0, none⟩ = some (.int .i64 (0)) := oR.c 0 rfl
    have cR1 : World.cell? w2 ⟨w.heap.size + 1 + 1, 1, none⟩ = some (.int .i64 (0)) := oR.c 1 rfl
    have fR := oR.fr
    have lR := oR.lt
    rw [H1.out]
    go_wp2_with fail
    refine bodyPost_ret (by simp [results, Try.results23, go_sem, cR0, cR1, fR, lR]; rfl) rfl ?_
    show G3 w _ _ _
    rw [H.out]
    exact ⟨rfl, by (repeat' first | with_reducible assumption | with_reducible exact Below.refl _ _ | with_reducible refine Below.alloc ?_ ?_ _ | with_reducible refine Below.drew ?_ | with_reducible refine belowN ?_ _ | with_reducible refine Below.setCell ?_ ?_ _ | go_size)⟩
set_option maxRecDepth 100000 in
set_option maxHeartbeats 4000000 in
theorem rsub (a b c d : Int) (w : World) : Calls Try.prog 25 #[.agg #[.int .i64 a, .int .i64 b], .agg #[.int .i64 c, .int .i64 d]] w (G3 w (subS a b c d)) := by
  by_cases hv : V a b ∧ V c d
  · have H1 : Hid (errV (V a b ∧ V c d) = 0) := if_pos hv
    have H : Hid (subS a b c d = md (a - d) (b - c)) := if_pos hv
    obtain ⟨⟨v0, v1, v2⟩, ⟨v3, v4, v5⟩⟩ := hv
    go_enter Try.func25, Try.ntmps25
    go_wp2_with fail
    refine (rboth a b c d _).mono ?_
    rintro e w1 ⟨rfl, hb1⟩
    have st : Steps _ w1 := hb1
    have Bn : Below w.heap.size w w1 := below_steps (by (repeat' first | with_reducible assumption | with_reducible exact Below.refl _ _ | with_reducible refine Below.alloc ?_ ?_ _ | with_reducible refine Below.drew ?_ | with_reducible refine belowN ?_ _ | with_reducible refine Below.setCell ?_ ?_ _ | go_size)) (Nat.le_refl _) st
    have nA : Blk w1 (w.heap.size) 23 #[.int .i64 (a), .int .i64 (b)] := Blk.steps (by (repeat' first | with_reducible assumption | (with_reducible refine Blk.new' ?_; first | with_reducible rfl | (simp only [World.size_alloc, World.size_setCell, World.size_drew]; done)) | with_reducible refine Blk.alloc ?_ _ | with_reducible refine Blk.drew ?_ | with_reducible refine Blk.drewN ?_ _ | with_reducible apply Blk.both | with_reducible refine Blk.far' ?_ ?_ | (show _ ≠ _; omega))) st
    have nB : Blk w1 (w.heap.size + 1) 23 #[.int .i64 (c), .int .i64 (d)] := Blk.steps (by (repeat' first | with_reducible assumption | (with_reducible refine Blk.new' ?_; first | with_reducible rfl | (simp only [World.size_alloc, World.size_setCell, World.size_drew]; done)) | with_reducible refine Blk.alloc ?_ _ | with_reducible refine Blk.drew ?_ | with_reducible refine Blk.drewN ?_ _ | with_reducible apply Blk.both | with_reducible refine Blk.far' ?_ ?_ | (show _ ≠ _; omega))) st
    have nR : Blk w1 (w.heap.size + 1 + 1) 23 #[.int .i64 (0), .int .i64 (0)] := Blk.steps (by (repeat' first | with_reducible assumption | (with_reducible refine Blk.new' ?_; first | with_reducible rfl | (simp only [World.size_alloc, World.size_setCell, World.size_drew]; done)) | with_reducible refine Blk.alloc ?_ _ | with_reducible refine Blk.drew ?_ | with_reducible refine Blk.drewN ?_ _ | with_reducible apply Blk.both | with_reducible refine Blk.far' ?_ ?_ | (show _ ≠ _; omega))) st
    clear st
    have B := Bn
    clear Bn
    have oA := nA
    clear nA
    have cA0 : World.cell? w1 ⟨w.heap.size, 0, none⟩ = some (.int .i64 (a)) := oA.c 0 rfl
    have cA1 : World.cell? w1 ⟨w.heap.size, 1, none⟩ = some (.int .i64 (b)) := oA.c 1 rfl
    have fA := oA.fr
    have lA := oA.lt
    have oB := nB
    clear nB
    have cB0 : World.cell? w1 ⟨w.heap.size + 1, 0, none⟩ = some (.int .i64 (c)) := oB.c 0 rfl
    have cB1 : World.cell? w1 ⟨w.heap.size + 1, 1, none⟩ = some (.int .i64 (d)) := oB.c 1 rfl
    have fB := oB.fr
    have lB := oB.lt
    have oR := nR
    clear nR
    have cR0 : World.cell? w1 ⟨w.heap.size + 1 + 1, 0, none⟩ = some (.int .i64 (0)) := oR.c 0 rfl
    have cR1 : World.cell? w1 ⟨w.heap.size + 1 + 1, 1, none⟩ = some (.int .i64 (0)) := oR.c 1 rfl
    have fR := oR.fr
    have lR := oR.lt
    rw [H1.out]
    go_wp2_with fail
    refine (rmade _ _ _).mono ?_
    rintro e w2 ⟨rfl, hb2⟩
    have st : Steps _ w2 := hb2
    have Bn : Below w.heap.size w w2 := below_steps (by (repeat' first | with_reducible assumption | with_reducible exact Below.refl _ _ | with_reducible refine Below.alloc ?_ ?_ _ | with_reducible refine Below.drew ?_ | with_reducible refine belowN ?_ _ | with_reducible refine Below.setCell ?_ ?_ _ | go_size)) (Nat.le_refl _) st
    have nA : Blk w2 (w.heap.size) 23 #[.int .i64 (a), .int .i64 (b)] := Blk.steps (by (repeat' first | with_reducible assumption | (with_reducible refine Blk.new' ?_; first | with_reducible rfl | (simp only [World.size_alloc, World.size_setCell, World.size_drew]; done)) | with_reducible refine Blk.alloc ?_ _ | with_reducible refine Blk.drew ?_ | with_reducible refine Blk.drewN ?_ _ | with_reducible apply Blk.both | with_reducible refine Blk.far' ?_ ?_ | (show _ ≠ _; omega))) st
    have nB : Blk w2 (w.heap.size + 1) 23 #[.int .i64 (c), .int .i64 (d)] := Blk.steps (by (repeat' first | with_reducible assumption | (with_reducible refine Blk.new' ?_; first | with_reducible rfl | (simp only [World.size_alloc, World.size_setCell, World.size_drew]; done)) | with_reducible refine Blk.alloc ?_ _ | with_reducible refine Blk.drew ?_ | with_reducible refine Blk.drewN ?_ _ | with_reducible apply Blk.both | with_reducible refine Blk.far' ?_ ?_ | (show _ ≠ _; omega))) st
    have nR : Blk w2 (w.heap.size + 1 + 1) 23 #[.int .i64 (0), .int .i64 (0)] := Blk.steps (by (repeat' first | with_reducible assumption | (with_reducible refine Blk.new' ?_; first | with_reducible rfl | (simp only [World.size_alloc, World.size_setCell, World.size_drew]; done)) | with_reducible refine Blk.alloc ?_ _ | with_reducible refine Blk.drew ?_ | with_reducible refine Blk.drewN ?_ _ | with_reducible apply Blk.both | with_reducible refine Blk.far' ?_ ?_ | (show _ ≠ _; omega))) st
    clear B oA oB oR cA0 cA1 fA lA cB0 cB1 fB lB cR0 cR1 fR lR
    clear st
    have B := Bn
    clear Bn
    have oA := nA
    clear nA
    have cA0 : World.cell? w2 ⟨w.heap.size, 0, none⟩ = some (.int .i64 (a)) := oA.c 0 rfl
    have cA1 : World.cell? w2 ⟨w.heap.size, 1, none⟩ = some (.int .i64 (b)) := oA.c 1 rfl
    have fA := oA.fr
    have lA := oA.lt
    have oB := nB
    clear nB
    have cB0 : World.cell? w2 ⟨w.heap.size + 1, 0, none⟩ = some (.int .i64 (c)) := oB.c 0 rfl
    have cB1 : World.cell? w2 ⟨w.heap.size + 1, 1, none⟩ = some (.int .i64 (d)) := oB.c 1 rfl
    have fB := oB.fr
    have lB := oB.lt
    have oR := nR
    clear nR
    have cR0 : World.cell? w2 ⟨w.heap.size + 1 + 1, 0, none⟩ = some (.int .i64 (0)) := oR.c 0 rfl
    have cR1 : World.cell? w2 ⟨w.heap.size + 1 + 1, 1, none⟩ = some (.int .i64 (0)) := oR.c 1 rfl
    have fR := oR.fr
    have lR := oR.lt
    go_wp2_with fail
    refine bodyPost_ret (by simp [results, Try.results25, go_sem, cR0, cR1, fR, lR]; rfl) rfl ?_
    show G3 w _ _ _
    rw [H.out]
    exact ⟨rfl, by (repeat' first | with_reducible assumption | with_reducible exact Below.refl _ _ | with_reducible refine Below.alloc ?_ ?_ _ | with_reducible refine Below.drew ?_ | with_reducible refine belowN ?_ _ | with_reducible refine Below.setCell ?_ ?_ _ | go_size)⟩
  · have H1 : Hid (errV (V a b ∧ V c d) = 8) := if_neg hv
    have H : Hid (subS a b c d = (0, 0, 8)) := if_neg hv
    clear hv
    go_enter Try.func25, Try.ntmps25
    go_wp2_with fail
    refine (rboth a b c d _).mono ?_
    rintro e w1 ⟨rfl, hb1⟩
    have st : Steps _ w1 := hb1
    have Bn : Below w.heap.size w w1 := below_steps (by (repeat' first | with_reducible assumption | with_reducible exact Below.refl _ _ | with_reducible refine Below.alloc ?_ ?_ _ | with_reducible refine Below.drew ?_ | with_reducible refine belowN ?_ _ | with_reducible refine Below.setCell ?_ ?_ _ | go_size)) (Nat.le_refl _) st
    have nA : Blk w1 (w.heap.size) 23 #[.int .i64 (a), .int .i64 (b)] := Blk.steps (by (repeat' first | with_reducible assumption | (with_reducible refine Blk.new' ?_; first | with_reducible rfl | (simp only [World.size_alloc, World.size_setCell, World.size_drew]; done)) | with_reducible refine Blk.alloc ?_ _ | with_reducible refine Blk.drew ?_ | with_reducible refine Blk.drewN ?_ _ | with_reducible apply Blk.both | with_reducible refine Blk.far' ?_ ?_ | (show _ ≠ _; omega))) st
    have nB : Blk w1 (w.heap.size + 1) 23 #[.int .i64 (c), .int .i64 (d)] := Blk.steps (by (repeat' first | with_reducible assumption | (with_reducible refine Blk.new' ?_; first | with_reducible rfl | (simp only [World.size_alloc, World.size_setCell, World.size_drew]; done)) | with_reducible refine Blk.alloc ?_ _ | with_reducible refine Blk.drew ?_ | with_reducible refine Blk.drewN ?_ _ | with_reducible apply Blk.both | with_reducible refine Blk.far' ?_ ?_ | (show _ ≠ _; omega))) st
    have nR : Blk w1 (w.heap.size + 1 + 1) 23 #[.int .i64 (0), .int .i64 (0)] := Blk.steps (by (repeat' first | with_reducible assumption | (with_reducible refine Blk.new' ?_; first | with_reducible rfl | (simp only [World.size_alloc, World.size_setCell, World.size_drew]; done)) | with_reducible refine Blk.alloc ?_ _ | with_reducible refine Blk.drew ?_ | with_reducible refine Blk.drewN ?_ _ | with_reducible apply Blk.both | with_reducible refine Blk.far' ?_ ?_ | (show _ ≠ _; omega))) st
    clear st
    have B := Bn
    clear Bn
    have oA := nA
    clear nA
    have cA0 : World.cell? w1 ⟨w.heap.size, 0, none⟩ = some (.int .i64 (a)) := oA.c 0 rfl
    have cA1 : World.cell? w1 ⟨w.heap.size, 1, none⟩ = some (.int .i64 (b)) := oA.c 1 rfl
    have fA := oA.fr
    have lA := oA.lt
    have oB := nB
    clear nB
    have cB0 : World.cell? w1 ⟨w.heap.size + 1, 0, none⟩ = some (.int .i64 (c)) := oB.c 0 rfl
    have cB1 : World.cell? w1 ⟨w.heap.size + 1, 1, none⟩ = some (.int .i64 (d)) := oB.c 1 rfl
    have fB := oB.fr
    have lB := oB.lt
    have oR := nR
    clear nR
    have cR0 : World.cell? w1 ⟨w.heap.size + 1 + 1, 0, none⟩ = some (.int .i64 (0)) := oR.c 0 rfl
    have cR1 : World.cell? w1 ⟨w.heap.size + 1 + 1, 1, none⟩ = some (.int .i64 (0)) := oR.c 1 rfl
    have fR := oR.fr
    have lR := oR.lt
    rw [H1.out]
    go_wp2_with fail
    refine (rboth a b c d _).mono ?_
    rintro e w2 ⟨rfl, hb2⟩
    have st : Steps _ w2 := hb2
    have Bn : Below w.heap.size w w2 := below_steps (by (repeat' first | with_reducible assumption | with_reducible exact Below.refl _ _ | with_reducible refine Below.alloc ?_ ?_ _ | with_reducible refine Below.drew ?_ | with_reducible refine belowN ?_ _ | with_reducible refine Below.setCell ?_ ?_ _ | go_size)) (Nat.le_refl _) st
    have nA : Blk w2 (w.heap.size) 23 #[.int .i64 (a), .int .i64 (b)] := Blk.steps (by (repeat' first | with_reducible assumption | (with_reducible refine Blk.new' ?_; first | with_reducible rfl | (simp only [World.size_alloc, World.size_setCell, World.size_drew]; done)) | with_reducible refine Blk.alloc ?_ _ | with_reducible refine Blk.drew ?_ | with_reducible refine Blk.drewN ?_ _ | with_reducible apply Blk.both | with_reducible refine Blk.far' ?_ ?_ | (show _ ≠ _; omega))) st
    have nB : Blk w2 (w.heap.size + 1) 23 #[.int .i64 (c), .int .i64 (d)] := Blk.steps (by (repeat' first | with_reducible assumption | (with_reducible refine Blk.new' ?_; first | with_reducible rfl | (simp only [World.size_alloc, World.size_setCell, World.size_drew]; done)) | with_reducible refine Blk.alloc ?_ _ | with_reducible refine Blk.drew ?_ | with_reducible refine Blk.drewN ?_ _ | with_reducible apply Blk.both | with_reducible refine Blk.far' ?_ ?_ | (show _ ≠ _; omega))) st
    have nR : Blk w2 (w.heap.size + 1 + 1) 23 #[.int .i64 (0), .int .i64 (0)] := Blk.steps (by (repeat' first | with_reducible assumption | (with_reducible refine Blk.new' ?_; first | with_reducible rfl | (simp only [World.size_alloc, World.size_setCell, World.size_drew]; done)) | with_reducible refine Blk.alloc ?_ _ | with_reducible refine Blk.drew ?_ | with_reducible refine Blk.drewN ?_ _ | with_reducible apply Blk.both | with_reducible refine Blk.far' ?_ ?_ | (show _ ≠ _; omega))) st
    clear B oA oB oR cA0 cA1 fA lA cB0 cB1 fB lB cR0 cR1 fR lR
    clear st
    have B := Bn
    clear Bn
    have oA := nA
    clear nA
    have cA0 : World.cell? w2 ⟨w.heap.size, 0, none⟩ = some (.int .i64 (a)) := oA.c 0 rfl
    have cA1 : World.cell? w2 ⟨w.heap.size, 1, none⟩ = some (.int .i64 (b)) := oA.c 1 rfl
    have fA := oA.fr
    have lA := oA.lt
    have oB := nB
    clear nB
    have cB0 : World.cell? w2 ⟨w.heap.size + 1, 0, none⟩ = some (.int .i64 (c)) := oB.c 0 rfl
    have cB1 : World.cell? w2 ⟨w.heap.size + 1, 1, none⟩ = some (.int .i64 (d)) := oB.c 1 rfl
    have fB := oB.fr
    have lB := oB.lt
    have oR := nR
    clear nR
    have cR0 : World.cell? w2 ⟨w.heap.size + 1 + 1, 0, none⟩ = some (.int .i64 (0)) := oR.c 0 rfl
    have cR1 : World.cell? w2 ⟨w.heap.size + 1 + 1, 1, none⟩ = some (.int .i64 (0)) := oR.c 1 rfl
    have fR := oR.fr
    have lR := oR.lt
    rw [H1.out]
    go_wp2_with fail
    refine bodyPost_ret (by simp [results, Try.results25, go_sem, cR0, cR1, fR, lR]; rfl) rfl ?_
    show G3 w _ _ _
    rw [H.out]
    exact ⟨rfl, by (repeat' first | with_reducible assumption | with_reducible exact Below.refl _ _ | with_reducible refine Below.alloc ?_ ?_ _ | with_reducible refine Below.drew ?_ | with_reducible refine belowN ?_ _ | with_reducible refine Below.setCell ?_ ?_ _ | go_size)⟩
set_option maxRecDepth 100000 in
set_option maxHeartbeats 4000000 in
theorem rmin (a b c d : Int) (w : World) : Calls Try.prog 31 #[.agg #[.int .i64 a, .int .i64 b], .agg #[.int .i64 c, .int .i64 d]] w (G3 w (minS a b c d)) := by
  by_cases hv : V a b ∧ V c d
  · have H1 : Hid (errV (V a b ∧ V c d) = 0) := if_pos hv
    have H : Hid (minS a b c d = md (min a c) (min b d)) := by show minS a b c d = _; rw [md_ok (by obtain ⟨⟨_, _, _⟩, ⟨_, _, _⟩⟩ := hv; omega) (by obtain ⟨⟨_, _, _⟩, ⟨_, _, _⟩⟩ := hv; omega)]; exact if_pos hv
    obtain ⟨⟨v0, v1, v2⟩, ⟨v3, v4, v5⟩⟩ := hv
    rcases (show (c < a ∧ min a c = c) ∨ (a ≤ c ∧ min a c = a) by omega) with ⟨m1, e1⟩ | ⟨m1, e1⟩
    all_goals rcases (show (d < b ∧ min b d = d) ∨ (b ≤ d ∧ min b d = b) by omega) with ⟨m2, e2⟩ | ⟨m2, e2⟩
    all_goals
      have E1 := Lib.hid e1
      have E2 := Lib.hid e2
      clear e1 e2
      go_enter Try.func31, Try.ntmps31
      go_wp2_with fail
      refine (rboth a b c d _).mono ?_
      rintro e w1 ⟨rfl, hb1⟩
      have st : Steps _ w1 := hb1
      have Bn : Below w.heap.size w w1 := below_steps (by (repeat' first | with_reducible assumption | with_reducible exact Below.refl _ _ | with_reducible refine Below.alloc ?_ ?_ _ | with_reducible refine Below.drew ?_ | with_reducible refine belowN ?_ _ | with_reducible refine Below.setCell ?_ ?_ _ | go_size)) (Nat.le_refl _) st
      have nA : Blk w1 (w.heap.size) 23 #[.int .i64 (a), .int .i64 (b)] := Blk.steps (by (repeat' first | with_reducible assumption | (with_reducible refine Blk.new' ?_; first | with_reducible rfl | (simp only [World.size_alloc, World.size_setCell, World.size_drew]; done)) | with_reducible refine Blk.alloc ?_ _ | with_reducible refine Blk.drew ?_ | with_reducible refine Blk.drewN ?_ _ | with_reducible apply Blk.both | with_reducible refine Blk.far' ?_ ?_ | (show _ ≠ _; omega))) st
      have nB : Blk w1 (w.heap.size + 1) 23 #[.int .i64 (c), .int .i64 (d)] := Blk.steps (by (repeat' first | with_reducible assumption | (with_reducible refine Blk.new' ?_; first | with_reducible rfl | (simp only [World.size_alloc, World.size_setCell, World.size_drew]; done)) | with_reducible refine Blk.alloc ?_ _ | with_reducible refine Blk.drew ?_ | with_reducible refine Blk.drewN ?_ _ | with_reducible apply Blk.both | with_reducible refine Blk.far' ?_ ?_ | (show _ ≠ _; omega))) st
      have nR : Blk w1 (w.heap.size + 1 + 1) 23 #[.int .i64 (0), .int .i64 (0)] := Blk.steps (by (repeat' first | with_reducible assumption | (with_reducible refine Blk.new' ?_; first | with_reducible rfl | (simp only [World.size_alloc, World.size_setCell, World.size_drew]; done)) | with_reducible refine Blk.alloc ?_ _ | with_reducible refine Blk.drew ?_ | with_reducible refine Blk.drewN ?_ _ | with_reducible apply Blk.both | with_reducible refine Blk.far' ?_ ?_ | (show _ ≠ _; omega))) st
      clear st
      have B := Bn
      clear Bn
      have oA := nA
      clear nA
      have cA0 : World.cell? w1 ⟨w.heap.size, 0, none⟩ = some (.int .i64 (a)) := oA.c 0 rfl
      have cA1 : World.cell? w1 ⟨w.heap.size, 1, none⟩ = some (.int .i64 (b)) := oA.c 1 rfl
      have fA := oA.fr
      have lA := oA.lt
      have oB := nB
      clear nB
      have cB0 : World.cell? w1 ⟨w.heap.size + 1, 0, none⟩ = some (.int .i64 (c)) := oB.c 0 rfl
      have cB1 : World.cell? w1 ⟨w.heap.size + 1, 1, none⟩ = some (.int .i64 (d)) := oB.c 1 rfl
      have fB := oB.fr
      have lB := oB.lt
      have oR := nR
      clear nR
      have cR0 : World.cell? w1 ⟨w.heap.size + 1 + 1, 0, none⟩ = some (.int .i64 (0)) := oR.c 0 rfl
      have cR1 : World.cell? w1 ⟨w.heap.size + 1 + 1, 1, none⟩ = some (.int .i64 (0)) := oR.c 1 rfl
      have fR := oR.fr
      have lR := oR.lt
      rw [H1.out]
      go_wp2_with fail
      refine (rmade _ _ _).mono ?_
      rintro e w2 ⟨rfl, hb2⟩
      have st : Steps _ w2 := hb2
      have Bn : Below w.heap.size w w2 := below_steps (by (repeat' first | with_reducible assumption | with_reducible exact Below.refl _ _ | with_reducible refine Below.alloc ?_ ?_ _ | with_reducible refine Below.drew ?_ | with_reducible refine belowN ?_ _ | with_reducible refine Below.setCell ?_ ?_ _ | go_size)) (Nat.le_refl _) st
      have nA : Blk w2 (w.heap.size) 23 #[.int .i64 (a), .int .i64 (b)] := Blk.steps (by (repeat' first | with_reducible assumption | (with_reducible refine Blk.new' ?_; first | with_reducible rfl | (simp only [World.size_alloc, World.size_setCell, World.size_drew]; done)) | with_reducible refine Blk.alloc ?_ _ | with_reducible refine Blk.drew ?_ | with_reducible refine Blk.drewN ?_ _ | with_reducible apply Blk.both | with_reducible refine Blk.far' ?_ ?_ | (show _ ≠ _; omega))) st
      have nB : Blk w2 (w.heap.size + 1) 23 #[.int .i64 (c), .int .i64 (d)] := Blk.steps (by (repeat' first | with_reducible assumption | (with_reducible refine Blk.new' ?_; first | with_reducible rfl | (simp only [World.size_alloc, World.size_setCell, World.size_drew]; done)) | with_reducible refine Blk.alloc ?_ _ | with_reducible refine Blk.drew ?_ | with_reducible refine Blk.drewN ?_ _ | with_reducible apply Blk.both | with_reducible refine Blk.far' ?_ ?_ | (show _ ≠ _; omega))) st
      have nR : Blk w2 (w.heap.size + 1 + 1) 23 #[.int .i64 (0), .int .i64 (0)] := Blk.steps (by (repeat' first | with_reducible assumption | (with_reducible refine Blk.new' ?_; first | with_reducible rfl | (simp only [World.size_alloc, World.size_setCell, World.size_drew]; done)) | with_reducible refine Blk.alloc ?_ _ | with_reducible refine Blk.drew ?_ | with_reducible refine Blk.drewN ?_ _ | with_reducible apply Blk.both | with_reducible refine Blk.far' ?_ ?_ | (show _ ≠ _; omega))) st
      clear B oA oB oR cA0 cA1 fA lA cB0 cB1 fB lB cR0 cR1 fR lR
      clear st
      have B := Bn
      clear Bn
      have oA := nA
      clear nA
      have cA0 : World.cell? w2 ⟨w.heap.size, 0, none⟩ = some (.int .i64 (a)) := oA.c 0 rfl
      have cA1 : World.cell? w2 ⟨w.heap.size, 1, none⟩ = some (.int .i64 (b)) := oA.c 1 rfl
      have fA := oA.fr
      have lA := oA.lt
      have oB := nB
      clear nB
      have cB0 : World.cell? w2 ⟨w.heap.size + 1, 0, none⟩ = some (.int .i64 (c)) := oB.c 0 rfl
      have cB1 : World.cell? w2 ⟨w.heap.size + 1, 1, none⟩ = some (.int .i64 (d)) := oB.c 1 rfl
      have fB := oB.fr
      have lB := oB.lt
      have oR := nR
      clear nR
      have cR0 : World.cell? w2 ⟨w.heap.size + 1 + 1, 0, none⟩ = some (.int .i64 (0)) := oR.c 0 rfl
      have cR1 : World.cell? w2 ⟨w.heap.size + 1 + 1, 1, none⟩ = some (.int .i64 (0)) := oR.c 1 rfl
      have fR := oR.fr
      have lR := oR.lt
      go_wp2_with fail
      refine bodyPost_ret (by simp [results, Try.results31, go_sem, cR0, cR1, fR, lR]; rfl) rfl ?_
      show G3 w _ _ _
      rw [H.out, E1.out, E2.out]
      exact ⟨rfl, by (repeat' first | with_reducible assumption | with_reducible exact Below.refl _ _ | with_reducible refine Below.alloc ?_ ?_ _ | with_reducible refine Below.drew ?_ | with_reducible refine belowN ?_ _ | with_reducible refine Below.setCell ?_ ?_ _ | go_size)⟩
  · have H1 : Hid (errV (V a b ∧ V c d) = 8) := if_neg hv
    have H : Hid (minS a b c d = (0, 0, 8)) := if_neg hv
    clear hv
    go_enter Try.func31, Try.ntmps31
    go_wp2_with fail
    refine (rboth a b c d _).mono ?_
    rintro e w1 ⟨rfl, hb1⟩
    have st : Steps _ w1 := hb1
    have Bn : Below w.heap.size w w1 := below_steps (by (repeat' first | with_reducible assumption | with_reducible exact Below.refl _ _ | with_reducible refine Below.alloc ?_ ?_ _ | with_reducible refine Below.drew ?_ | with_reducible refine belowN ?_ _ | with_reducible refine Below.setCell ?_ ?_ _ | go_size)) (Nat.le_refl _) st
    have nA : Blk w1 (w.heap.size) 23 #[.int .i64 (a), .int .i64 (b)] := Blk.steps (by (repeat' first | with_reducible assumption | (with_reducible refine Blk.new' ?_; first | with_reducible rfl | (simp only [World.size_alloc, World.size_setCell, World.size_drew]; done)) | with_reducible refine Blk.alloc ?_ _ | with_reducible refine Blk.drew ?_ | with_reducible refine Blk.drewN ?_ _ | with_reducible apply Blk.both | with_reducible refine Blk.far' ?_ ?_ | (show _ ≠ _; omega))) st
    have nB : Blk w1 (w.heap.size + 1) 23 #[.int .i64 (c), .int .i64 (d)] := Blk.steps (by (repeat' first | with_reducible assumption | (with_reducible refine Blk.new' ?_; first | with_reducible rfl | (simp only [World.size_alloc, World.size_setCell, World.size_drew]; done)) | with_reducible refine Blk.alloc ?_ _ | with_reducible refine Blk.drew ?_ | with_reducible refine Blk.drewN ?_ _ | with_reducible apply Blk.both | with_reducible refine Blk.far' ?_ ?_ | (show _ ≠ _; omega))) st
    have nR : Blk w1 (w.heap.size + 1 + 1) 23 #[.int .i64 (0), .int .i64 (0)] := Blk.steps (by (repeat' first | with_reducible assumption | (with_reducible refine Blk.new' ?_; first | with_reducible rfl | (simp only [World.size_alloc, World.size_setCell, World.size_drew]; done)) | with_reducible refine Blk.alloc ?_ _ | with_reducible refine Blk.drew ?_ | with_reducible refine Blk.drewN ?_ _ | with_reducible apply Blk.both | with_reducible refine Blk.far' ?_ ?_ | (show _ ≠ _; omega))) st
    clear st
    have B := Bn
    clear Bn
    have oA := nA
    clear nA
    have cA0 : World.cell? w1 ⟨w.heap.size, 0, none⟩ = some (.int .i64 (a)) := oA.c 0 rfl
    have cA1 : World.cell? w1 ⟨w.heap.size, 1, none⟩ = some (.int .i64 (b)) := oA.c 1 rfl
    have fA := oA.fr
    have lA := oA.lt
    have oB := nB
    clear nB
    have cB0 : World.cell? w1 ⟨w.heap.size + 1, 0, none⟩ = some (.int .i64 (c)) := oB.c 0 rfl
    have cB1 : World.cell? w1 ⟨w.heap.size + 1, 1, none⟩ = some (.int .i64 (d)) := oB.c 1 rfl
    have fB := oB.fr
    have lB := oB.lt
    have oR := nR
    clear nR
    have cR0 : World.cell? w1 ⟨w.heap.size + 1 + 1, 0, none⟩ = some (.int .i64 (0)) := oR.c 0 rfl
    have cR1 : World.cell? w1 ⟨w.heap.size + 1 + 1, 1, none⟩ = some (.int .i64 (0)) := oR.c 1 rfl
    have fR := oR.fr
    have lR := oR.lt
    rw [H1.out]
    go_wp2_with fail
    refine (rboth a b c d _).mono ?_
    rintro e w2 ⟨rfl, hb2⟩
    have st : Steps _ w2 := hb2
    have Bn : Below w.heap.size w w2 := below_steps (by (repeat' first | with_reducible assumption | with_reducible exact Below.refl _ _ | with_reducible refine Below.alloc ?_ ?_ _ | with_reducible refine Below.drew ?_ | with_reducible refine belowN ?_ _ | with_reducible refine Below.setCell ?_ ?_ _ | go_size)) (Nat.le_refl _) st
    have nA : Blk w2 (w.heap.size) 23 #[.int .i64 (a), .int .i64 (b)] := Blk.steps (by (repeat' first | with_reducible assumption | (with_reducible refine Blk.new' ?_; first | with_reducible rfl | (simp only [World.size_alloc, World.size_setCell, World.size_drew]; done)) | with_reducible refine Blk.alloc ?_ _ | with_reducible refine Blk.drew ?_ | with_reducible refine Blk.drewN ?_ _ | with_reducible apply Blk.both | with_reducible refine Blk.far' ?_ ?_ | (show _ ≠ _; omega))) st
    have nB : Blk w2 (w.heap.size + 1) 23 #[.int .i64 (c), .int .i64 (d)] := Blk.steps (by (repeat' first | with_reducible assumption | (with_reducible refine Blk.new' ?_; first | with_reducible rfl | (simp only [World.size_alloc, World.size_setCell, World.size_drew]; done)) | with_reducible refine Blk.alloc ?_ _ | with_reducible refine Blk.drew ?_ | with_reducible refine Blk.drewN ?_ _ | with_reducible apply Blk.both | with_reducible refine Blk.far' ?_ ?_ | (show _ ≠ _; omega))) st
    have nR : Blk w2 (w.heap.size + 1 + 1) 23 #[.int .i64 (0), .int .i64 (0)] := Blk.steps (by (repeat' first | with_reducible assumption | (with_reducible refine Blk.new' ?_; first | with_reducible rfl | (simp only [World.size_alloc, World.size_setCell, World.size_drew]; done)) | with_reducible refine Blk.alloc ?_ _ | with_reducible refine Blk.drew ?_ | with_reducible refine Blk.drewN ?_ _ | with_reducible apply Blk.both | with_reducible refine Blk.far' ?_ ?_ | (show _ ≠ _; omega))) st
    clear B oA oB oR cA0 cA1 fA lA cB0 cB1 fB lB cR0 cR1 fR lR
    clear st
    have B := Bn
    clear Bn
    have oA := nA
    clear nA
    have cA0 : World.cell? w2 ⟨w.heap.size, 0, none⟩ = some (.int .i64 (a)) := oA.c 0 rfl
    have cA1 : World.cell? w2 ⟨w.heap.size, 1, none⟩ = some (.int .i64 (b)) := oA.c 1 rfl
    have fA := oA.fr
    have lA := oA.lt
    have oB := nB
    clear nB
    have cB0 : World.cell? w2 ⟨w.heap.size + 1, 0, none⟩ = some (.int .i64 (c)) := oB.c 0 rfl
    have cB1 : World.cell? w2 ⟨w.heap.size + 1, 1, none⟩ = some (.int .i64 (d)) := oB.c 1 rfl
    have fB := oB.fr
    have lB := oB.lt
    have oR := nR
    clear nR
    have cR0 : World.cell? w2 ⟨w.heap.size + 1 + 1, 0, none⟩ = some (.int .i64 (0)) := oR.c 0 rfl
    have cR1 : World.cell? w2 ⟨w.heap.size + 1 + 1, 1, none⟩ = some (.int .i64 (0)) := oR.c 1 rfl
    have fR := oR.fr
    have lR := oR.lt
    rw [H1.out]
    go_wp2_with fail
    refine bodyPost_ret (by simp [results, Try.results31, go_sem, cR0, cR1, fR, lR]; rfl) rfl ?_
    show G3 w _ _ _
    rw [H.out]
    exact ⟨rfl, by (repeat' first | with_reducible assumption | with_reducible exact Below.refl _ _ | with_reducible refine Below.alloc ?_ ?_ _ | with_reducible refine Below.drew ?_ | with_reducible refine belowN ?_ _ | with_reducible refine Below.setCell ?_ ?_ _ | go_size)⟩
set_option maxRecDepth 100000 in
set_option maxHeartbeats 4000000 in
theorem rmax (a b c d : Int) (w : World) : Calls Try.prog 33 #[.agg #[.int .i64 a, .int .i64 b], .agg #[.int .i64 c, .int .i64 d]] w (G3 w (maxS a b c d)) := by
  by_cases hv : V a b ∧ V c d
  · have H1 : Hid (errV (V a b ∧ V c d) = 0) := if_pos hv
    have H : Hid (maxS a b c d = md (max a c) (max b d)) := by show maxS a b c d = _; rw [md_ok (by obtain ⟨⟨_, _, _⟩, ⟨_, _, _⟩⟩ := hv; omega) (by obtain ⟨⟨_, _, _⟩, ⟨_, _, _⟩⟩ := hv; omega)]; exact if_pos hv
    obtain ⟨⟨v0, v1, v2⟩, ⟨v3, v4, v5⟩⟩ := hv
    rcases (show (a < c ∧ max a c = c) ∨ (c ≤ a ∧ max a c = a) by omega) with ⟨m1, e1⟩ | ⟨m1, e1⟩
    all_goals rcases (show (b < d ∧ max b d = d) ∨ (d ≤ b ∧ max b d = b) by omega) with ⟨m2, e2⟩ | ⟨m2, e2⟩
    all_goals
      have E1 := Lib.hid e1
      have E2 := Lib.hid e2
      clear e1 e2
      go_enter Try.func33, Try.ntmps33
      go_wp2_with fail
      refine (rboth a b c d _).mono ?_
      rintro e w1 ⟨rfl, hb1⟩
      have st : Steps _ w1 := hb1
      have Bn : Below w.heap.size w w1 := below_steps (by (repeat' first | with_reducible assumption | with_reducible exact Below.refl _ _ | with_reducible refine Below.alloc ?_ ?_ _ | with_reducible refine Below.drew ?_ | with_reducible refine belowN ?_ _ | with_reducible refine Below.setCell ?_ ?_ _ | go_size)) (Nat.le_refl _) st
      have nA : Blk w1 (w.heap.size) 23 #[.int .i64 (a), .int .i64 (b)] := Blk.steps (by (repeat' first | with_reducible assumption | (with_reducible refine Blk.new' ?_; first | with_reducible rfl | (simp only [World.size_alloc, World.size_setCell, World.size_drew]; done)) | with_reducible refine Blk.alloc ?_ _ | with_reducible refine Blk.drew ?_ | with_reducible refine Blk.drewN ?_ _ | with_reducible apply Blk.both | with_reducible refine Blk.far' ?_ ?_ | (show _ ≠ _; omega))) st
      have nB : Blk w1 (w.heap.size + 1) 23 #[.int .i64 (c), .int .i64 (d)] := Blk.steps (by (repeat' first | with_reducible assumption | (with_reducible refine Blk.new' ?_; first | with_reducible rfl | (simp only [World.size_alloc, World.size_setCell, World.size_drew]; done)) | with_reducible refine Blk.alloc ?_ _ | with_reducible refine Blk.drew ?_ | with_reducible refine Blk.drewN ?_ _ | with_reducible apply Blk.both | with_reducible refine Blk.far' ?_ ?_ | (show _ ≠ _; omega))) st
      have nR : Blk w1 (w.heap.size + 1 + 1) 23 #[.int .i64 (0), .int .i64 (0)] := Blk.steps (by (repeat' first | with_reducible assumption | (with_reducible refine Blk.new' ?_; first | with_reducible rfl | (simp only [World.size_alloc, World.size_setCell, World.size_drew]; done)) | with_reducible refine Blk.alloc ?_ _ | with_reducible refine Blk.drew ?_ | with_reducible refine Blk.drewN ?_ _ | with_reducible apply Blk.both | with_reducible refine Blk.far' ?_ ?_ | (show _ ≠ _; omega))) st
      clear st
      have B := Bn
      clear Bn
      have oA := nA
      clear nA
      have cA0 : World.cell? w1 ⟨w.heap.size, 0, none⟩ = some (.int .i64 (a)) := oA.c 0 rfl
      have cA1 : World.cell? w1 ⟨w.heap.size, 1, none⟩ = some (.int .i64 (b)) := oA.c 1 rfl
      have fA := oA.fr
      have lA := oA.lt
      have oB := nB
      clear nB
      have cB0 : World.cell? w1 ⟨w.heap.size + 1, 0, none⟩ = some (.int .i64 (c)) := oB.c 0 rfl
      have cB1 : World.cell? w1 ⟨w.heap.size + 1, 1, none⟩ = some (.int .i64 (d)) := oB.c 1 rfl
      have fB := oB.fr
      have lB := oB.lt
      have oR := nR
      clear nR
      have cR0 : World.cell? w1 ⟨w.heap.size + 1 + 1, 0, none⟩ = some (.int .i64 (0)) := oR.c 0 rfl
      have cR1 : World.cell? w1 ⟨w.heap.size + 1 + 1, 1, none⟩ = some (.int .i64 (0)) := oR.c 1 rfl
      have fR := oR.fr
      have lR := oR.lt
      rw [H1.out]
      go_wp2_with fail
      refine (rmade _ _ _).mono ?_
      rintro e w2 ⟨rfl, hb2⟩
      have st : Steps _ w2 := hb2
      have Bn : Below w.heap.size w w2 := below_steps (by (repeat' first | with_reducible assumption | with_reducible exact Below.refl _ _ | with_reducible refine Below.alloc ?_ ?_ _ | with_reducible refine Below.drew ?_ | with_reducible refine belowN ?_ _ | with_reducible refine Below.setCell ?_ ?_ _ | go_size)) (Nat.le_refl _) st
      have nA : Blk w2 (w.heap.size) 23 #[.int .i64 (a), .int .i64 (b)] := Blk.steps (by (repeat' first | with_reducible assumption | (with_reducible refine Blk.new' ?_; first | with_reducible rfl | (simp only [World.size_alloc, World.size_setCell, World.size_drew]; done)) | with_reducible refine Blk.alloc ?_ _ | with_reducible refine Blk.drew ?_ | with_reducible refine Blk.drewN ?_ _ | with_reducible apply Blk.both | with_reducible refine Blk.far' ?_ ?_ | (show _ ≠ _; omega))) st
      have nB : Blk w2 (w.heap.size + 1) 23 #[.int .i64 (c), .int .i64 (d)] := Blk.steps (by (repeat' first | with_reducible assumption | (with_reducible refine Blk.new' ?_; first | with_reducible rfl | (simp only [World.size_alloc, World.size_setCell, World.size_drew]; done)) | with_reducible refine Blk.alloc ?_ _ | with_reducible refine Blk.drew ?_ | with_reducible refine Blk.drewN ?_ _ | with_reducible apply Blk.both | with_reducible refine Blk.far' ?_ ?_ | (show _ ≠ _; omega))) st
      have nR : Blk w2 (w.heap.size + 1 + 1) 23 #[.int .i64 (0), .int .i64 (0)] := Blk.steps (by (repeat' first | with_reducible assumption | (with_reducible refine Blk.new' ?_; first | with_reducible rfl | (simp only [World.size_alloc, World.size_setCell, World.size_drew]; done)) | with_reducible refine Blk.alloc ?_ _ | with_reducible refine Blk.drew ?_ | with_reducible refine Blk.drewN ?_ _ | with_reducible apply Blk.both | with_reducible refine Blk.far' ?_ ?_ | (show _ ≠ _; omega))) st
      clear B oA oB oR cA0 cA1 fA lA cB0 cB1 fB lB cR0 cR1 fR lR
      clear st
      have B := Bn
      clear Bn
      have oA := nA
      clear nA
      have cA0 : World.cell? w2 ⟨w.heap.size, 0, none⟩ = some (.int .i64 (a)) := oA.c 0 rfl
      have cA1 : World.cell? w2 ⟨w.heap.size, 1, none⟩ = some (.int .i64 (b)) := oA.c 1 rfl
      have fA := oA.fr
      have lA := oA.lt
      have oB := nB
      clear nB
      have cB0 : World.cell? w2 ⟨w.heap.size + 1, 0, none⟩ = some (.int .i64 (c)) := oB.c 0 rfl
      have cB1 : World.cell? w2 ⟨w.heap.size + 1, 1, none⟩ = some (.int .i64 (d)) := oB.c 1 rfl
      have fB := oB.fr
      have lB := oB.lt
      have oR := nR
      clear nR
      have cR0 : World.cell? w2 ⟨w.heap.size + 1 + 1, 0, none⟩ = some (.int .i64 (0)) := oR.c 0 rfl
      have cR1 : World.cell? w2 ⟨w.heap.size + 1 + 1, 1, none⟩ = some (.int .i64 (0)) := oR.c 1 rfl
      have fR := oR.fr
      have lR := oR.lt
      go_wp2_with fail
      refine bodyPost_ret (by simp [results, Try.results33, go_sem, cR0, cR1, fR, lR]; rfl) rfl ?_
      show G3 w _ _ _
      rw [H.out, E1.out, E2.out]
      exact ⟨rfl, by (repeat' first | with_reducible assumption | with_reducible exact Below.refl _ _ | with_reducible refine Below.alloc ?_ ?_ _ | with_reducible refine Below.drew ?_ | with_reducible refine belowN ?_ _ | with_reducible refine Below.setCell ?_ ?_ _ | go_size)⟩
  · have H1 : Hid (errV (V a b ∧ V c d) = 8) := if_neg hv
    have H : Hid (maxS a b c d = (0, 0, 8)) := if_neg hv
    clear hv
    go_enter Try.func33, Try.ntmps33
    go_wp2_with fail
    refine (rboth a b c d _).mono ?_
    rintro e w1 ⟨rfl, hb1⟩
    have st : Steps _ w1 := hb1
    have Bn : Below w.heap.size w w1 := below_steps (by (repeat' first | with_reducible assumption | with_reducible exact Below.refl _ _ | with_reducible refine Below.alloc ?_ ?_ _ | with_reducible refine Below.drew ?_ | with_reducible refine belowN ?_ _ | with_reducible refine Below.setCell ?_ ?_ _ | go_size)) (Nat.le_refl _) st
    have nA : Blk w1 (w.heap.size) 23 #[.int .i64 (a), .int .i64 (b)] := Blk.steps (by (repeat' first | with_reducible assumption | (with_reducible refine Blk.new' ?_; first | with_reducible rfl | (simp only [World.size_alloc, World.size_setCell, World.size_drew]; done)) | with_reducible refine Blk.alloc ?_ _ | with_reducible refine Blk.drew ?_ | with_reducible refine Blk.drewN ?_ _ | with_reducible apply Blk.both | with_reducible refine Blk.far' ?_ ?_ | (show _ ≠ _; omega))) st
    have nB : Blk w1 (w.heap.size + 1) 23 #[.int .i64 (c), .int .i64 (d)] := Blk.steps (by (repeat' first | with_reducible assumption | (with_reducible refine Blk.new' ?_; first | with_reducible rfl | (simp only [World.size_alloc, World.size_setCell, World.size_drew]; done)) | with_reducible refine Blk.alloc ?_ _ | with_reducible refine Blk.drew ?_ | with_reducible refine Blk.drewN ?_ _ | with_reducible apply Blk.both | with_reducible refine Blk.far' ?_ ?_ | (show _ ≠ _; omega))) st
    have nR : Blk w1 (w.heap.size + 1 + 1) 23 #[.int .i64 (0), .int .i64 (0)] := Blk.steps (by (repeat' first | with_reducible assumption | (with_reducible refine Blk.new' ?_; first | with_reducible rfl | (simp only [World.size_alloc, World.size_setCell, World.size_drew]; done)) | with_reducible refine Blk.alloc ?_ _ | with_reducible refine Blk.drew ?_ | with_reducible refine Blk.drewN ?_ _ | with_reducible apply Blk.both | with_reducible refine Blk.far' ?_ ?_ | (show _ ≠ _; omega))) st
    clear st
    have B := Bn
    clear Bn
    have oA := nA
    clear nA
    have cA0 : World.cell? w1 ⟨w.heap.size, 0, none⟩ = some (.int .i64 (a)) := oA.c 0 rfl
    have cA1 : World.cell? w1 ⟨w.heap.size, 1, none⟩ = some (.int .i64 (b)) := oA.c 1 rfl
    have fA := oA.fr
    have lA := oA.lt
    have oB := nB
    clear nB
    have cB0 : World.cell? w1 ⟨w.heap.size + 1, 0, none⟩ = some (.int .i64 (c)) := oB.c 0 rfl
    have cB1 : World.cell? w1 ⟨w.heap.size + 1, 1, none⟩ = some (.int .i64 (d)) := oB.c 1 rfl
    have fB := oB.fr
    have lB := oB.lt
    have oR := nR
    clear nR
    have cR0 : World.cell? w1 ⟨w.heap.size + 1 + 1, 0, none⟩ = some (.int .i64 (0)) := oR.c 0 rfl
    have cR1 : World.cell? w1 ⟨w.heap.size + 1 + 1, 1, none⟩ = some (.int .i64 (0)) := oR.c 1 rfl
    have fR := oR.fr
    have lR := oR.lt
    rw [H1.out]
    go_wp2_with fail
    refine (rboth a b c d _).mono ?_
    rintro e w2 ⟨rfl, hb2⟩
    have st : Steps _ w2 := hb2
    have Bn : Below w.heap.size w w2 := below_steps (by (repeat' first | with_reducible assumption | with_reducible exact Below.refl _ _ | with_reducible refine Below.alloc ?_ ?_ _ | with_reducible refine Below.drew ?_ | with_reducible refine belowN ?_ _ | with_reducible refine Below.setCell ?_ ?_ _ | go_size)) (Nat.le_refl _) st
    have nA : Blk w2 (w.heap.size) 23 #[.int .i64 (a), .int .i64 (b)] := Blk.steps (by (repeat' first | with_reducible assumption | (with_reducible refine Blk.new' ?_; first | with_reducible rfl | (simp only [World.size_alloc, World.size_setCell, World.size_drew]; done)) | with_reducible refine Blk.alloc ?_ _ | with_reducible refine Blk.drew ?_ | with_reducible refine Blk.drewN ?_ _ | with_reducible apply Blk.both | with_reducible refine Blk.far' ?_ ?_ | (show _ ≠ _; omega))) st
    have nB : Blk w2 (w.heap.size + 1) 23 #[.int .i64 (c), .int .i64 (d)] := Blk.steps (by (repeat' first | with_reducible assumption | (with_reducible refine Blk.new' ?_; first | with_reducible rfl | (simp only [World.size_alloc, World.size_setCell, World.size_drew]; done)) | with_reducible refine Blk.alloc ?_ _ | with_reducible refine Blk.drew ?_ | with_reducible refine Blk.drewN ?_ _ | with_reducible apply Blk.both | with_reducible refine Blk.far' ?_ ?_ | (show _ ≠ _; omega))) st
    have nR : Blk w2 (w.heap.size + 1 + 1) 23 #[.int .i64 (0), .int .i64 (0)] := Blk.steps (by (repeat' first | with_reducible assumption | (with_reducible refine Blk.new' ?_; first | with_reducible rfl | (simp only [World.size_alloc, World.size_setCell, World.size_drew]; done)) | with_reducible refine Blk.alloc ?_ _ | with_reducible refine Blk.drew ?_ | with_reducible refine Blk.drewN ?_ _ | with_reducible apply Blk.both | with_reducible refine Blk.far' ?_ ?_ | (show _ ≠ _; omega))) st
    clear B oA oB oR cA0 cA1 fA lA cB0 cB1 fB lB cR0 cR1 fR lR
    clear st
    have B := Bn
    clear Bn
    have oA := nA
    clear nA
    have cA0 : World.cell? w2 ⟨w.heap.size, 0, none⟩ = some (.int .i64 (a)) := oA.c 0 rfl
    have cA1 : World.cell? w2 ⟨w.heap.size, 1, none⟩ = some (.int .i64 (b)) := oA.c 1 rfl
    have fA := oA.fr
    have lA := oA.lt
    have oB := nB
    clear nB
    have cB0 : World.cell? w2 ⟨w.heap.size + 1, 0, none⟩ = some (.int .i64 (c)) := oB.c 0 rfl
    have cB1 : World.cell? w2 ⟨w.heap.size + 1, 1, none⟩ = some (.int .i64 (d)) := oB.c 1 rfl
    have fB := oB.fr
    have lB := oB.lt
    have oR := nR
    clear nR
    have cR0 : World.cell? w2 ⟨w.heap.size + 1 + 1, 0, none⟩ = some (.int .i64 (0)) := oR.c 0 rfl
    have cR1 : World.cell? w2 ⟨w.heap.size + 1 + 1, 1, none⟩ = some (.int .i64 (0)) := oR.c 1 rfl
    have fR := oR.fr
    have lR := oR.lt
    rw [H1.out]
    go_wp2_with fail
    refine bodyPost_ret (by simp [results, Try.results33, go_sem, cR0, cR1, fR, lR]; rfl) rfl ?_
    show G3 w _ _ _
    rw [H.out]
    exact ⟨rfl, by (repeat' first | with_reducible assumption | with_reducible exact Below.refl _ _ | with_reducible refine Below.alloc ?_ ?_ _ | with_reducible refine Below.drew ?_ | with_reducible refine belowN ?_ _ | with_reducible refine Below.setCell ?_ ?_ _ | go_size)⟩
set_option maxRecDepth 100000 in
set_option maxHeartbeats 4000000 in
theorem rhull (a b c d : Int) (w : World) : Calls Try.prog 35 #[.agg #[.int .i64 a, .int .i64 b], .agg #[.int .i64 c, .int .i64 d]] w (G3 w (hullS a b c d)) := by
  by_cases hv : V a b ∧ V c d
  · have H1 : Hid (errV (V a b ∧ V c d) = 0) := if_pos hv
    have H : Hid (hullS a b c d = md (min a c) (max b d)) := by show hullS a b c d = _; rw [md_ok (by obtain ⟨⟨_, _, _⟩, ⟨_, _, _⟩⟩ := hv; omega) (by obtain ⟨⟨_, _, _⟩, ⟨_, _, _⟩⟩ := hv; omega)]; exact if_pos hv
    obtain ⟨⟨v0, v1, v2⟩, ⟨v3, v4, v5⟩⟩ := hv
    rcases (show (c < a ∧ min a c = c) ∨ (a ≤ c ∧ min a c = a) by omega) with ⟨m1, e1⟩ | ⟨m1, e1⟩
    all_goals rcases (show (b < d ∧ max b d = d) ∨ (d ≤ b ∧ max b d = b) by omega) with ⟨m2, e2⟩ | ⟨m2, e2⟩
    all_goals
      have E1 := Lib.hid e1
      have E2 := Lib.hid e2
      clear e1 e2
      go_enter Try.func35, Try.ntmps35
      go_wp2_with fail
      refine (rboth a b c d _).mono ?_
      rintro e w1 ⟨rfl, hb1⟩
      have st : Steps _ w1 := hb1
      have Bn : Below w.heap.size w w1 := below_steps (by (repeat' first | with_reducible assumption | with_reducible exact Below.refl _ _ | with_reducible refine Below.alloc ?_ ?_ _ | with_reducible refine Below.drew ?_ | with_reducible refine belowN ?_ _ | with_reducible refine Below.setCell ?_ ?_ _ | go_size)) (Nat.le_refl _) st
      have nA : Blk w1 (w.heap.size) 23 #[.int .i64 (a), .int .i64 (b)] := Blk.steps (by (repeat' first | with_reducible assumption | (with_reducible refine Blk.new' ?_; first | with_reducible rfl | (simp only [World.size_alloc, World.size_setCell, World.size_drew]; done)) | with_reducible refine Blk.alloc ?_ _ | with_reducible refine Blk.drew ?_ | with_reducible refine Blk.drewN ?_ _ | with_reducible apply Blk.both | with_reducible refine Blk.far' ?_ ?_ | (show _ ≠ _; omega))) st
      have nB : Blk w1 (w.heap.size + 1) 23 #[.int .i64 (c), .int .i64 (d)] := Blk.steps (by (repeat' first | with_reducible assumption | (with_reducible refine Blk.new' ?_; first | with_reducible rfl | (simp only [World.size_alloc, World.size_setCell, World.size_drew]; done)) | with_reducible refine Blk.alloc ?_ _ | with_reducible refine Blk.drew ?_ | with_reducible refine Blk.drewN ?_ _ | with_reducible apply Blk.both | with_reducible refine Blk.far' ?_ ?_ | (show _ ≠ _; omega))) st
      have nR : Blk w1 (w.heap.size + 1 + 1) 23 #[.int .i64 (0), .int .i64 (0)] := Blk.steps (by (repeat' first | with_reducible assumption | (with_reducible refine Blk.new' ?_; first | with_reducible rfl | (simp only [World.size_alloc, World.size_setCell, World.size_drew]; done)) | with_reducible refine Blk.alloc ?_ _ | with_reducible refine Blk.drew ?_ | with_reducible refine Blk.drewN ?_ _ | with_reducible apply Blk.both | with_reducible refine Blk.far' ?_ ?_ | (show _ ≠ _; omega))) st
      clear st
      have B := Bn
      clear Bn
      have oA := nA
      clear nA
      have cA0 : World.cell? w1 ⟨w.heap.size, 0, none⟩ = some (.int .i64 (a)) := oA.c 0 rfl
      have cA1 : World.cell? w1 ⟨w.heap.size, 1, none⟩ = some (.int .i64 (b)) := oA.c 1 rfl
      have fA := oA.fr
      have lA := oA.lt
      have oB := nB
      clear nB
      have cB0 : World.cell? w1 ⟨w.heap.size + 1, 0, none⟩ = some (.int .i64 (c)) := oB.c 0 rfl
      have cB1 : World.cell? w1 ⟨w.heap.size + 1, 1, none⟩ = some (.int .i64 (d)) := oB.c 1 rfl
      have fB := oB.fr
      have lB := oB.lt
      have oR := nR
      clear nR
      have cR0 : World.cell? w1 ⟨w.heap.size + 1 + 1, 0, none⟩ = some (.int .i64 (0)) := oR.c 0 rfl
      have cR1 : World.cell? w1 ⟨w.heap.size + 1 + 1, 1, none⟩ = some (.int .i64 (0)) := oR.c 1 rfl
      have fR := oR.fr
      have lR := oR.lt
      rw [H1.out]
      go_wp2_with fail
      refine (rmade _ _ _).mono ?_
      rintro e w2 ⟨rfl, hb2⟩
      have st : Steps _ w2 := hb2
      have Bn : Below w.heap.size w w2 := below_steps (by (repeat' first | with_reducible assumption | with_reducible exact Below.refl _ _ | with_reducible refine Below.alloc ?_ ?_ _ | with_reducible refine Below.drew ?_ | with_reducible refine belowN ?_ _ | with_reducible refine Below.setCell ?_ ?_ _ | go_size)) (Nat.le_refl _) st
      have nA : Blk w2 (w.heap.size) 23 #[.int .i64 (a), .int .i64 (b)] := Blk.steps (by (repeat' first | with_reducible assumption | (with_reducible refine Blk.new' ?_; first | with_reducible rfl | (simp only [World.size_alloc, World.size_setCell, World.size_drew]; done)) | with_reducible refine Blk.alloc ?_ _ | with_reducible refine Blk.drew ?_ | with_reducible refine Blk.drewN ?_ _ | with_reducible apply Blk.both | with_reducible refine Blk.far' ?_ ?_ | (show _ ≠ _; omega))) st
      have nB : Blk w2 (w.heap.size + 1) 23 #[.int .i64 (c), .int .i64 (d)] := Blk.steps (by (repeat' first | with_reducible assumption | (with_reducible refine Blk.new' ?_; first | with_reducible rfl | (simp only [World.size_alloc, World.size_setCell, World.size_drew]; done)) | with_reducible refine Blk.alloc ?_ _ | with_reducible refine Blk.drew ?_ | with_reducible refine Blk.drewN ?_ _ | with_reducible apply Blk.both | with_reducible refine Blk.far' ?_ ?_ | (show _ ≠ _; omega))) st
      have nR : Blk w2 (w.heap.size + 1 + 1) 23 #[.int .i64 (0), .int .i64 (0)] := Blk.steps (by (repeat' first | with_reducible assumption | (with_reducible refine Blk.new' ?_; first | with_reducible rfl | (simp only [World.size_alloc, World.size_setCell, World.size_drew]; done)) | with_reducible refine Blk.alloc ?_ _ | with_reducible refine Blk.drew ?_ | with_reducible refine Blk.drewN ?_ _ | with_reducible apply Blk.both | with_reducible refine Blk.far' ?_ ?_ | (show _ ≠ _; omega))) st
      clear B oA oB oR cA0 cA1 fA lA cB0 cB1 fB lB cR0 cR1 fR lR
      clear st
      have B := Bn
      clear Bn
      have oA := nA
      clear nA
      have cA0 : World.cell? w2 ⟨w.heap.size, 0, none⟩ = some (.int .i64 (a)) := oA.c 0 rfl
      have cA1 : World.cell? w2 ⟨w.heap.size, 1, none⟩ = some (.int .i64 (b)) := oA.c 1 rfl
      have fA := oA.fr
      have lA := oA.lt
      have oB := nB
      clear nB
      have cB0 : World.cell? w2 ⟨w.heap.size + 1, 0, none⟩ = some (.int .i64 (c)) := oB.c 0 rfl
      have cB1 : World.cell? w2 ⟨w.heap.size + 1, 1, none⟩ = some (.int .i64 (d)) := oB.c 1 rfl
      have fB := oB.fr
      have lB := oB.lt
      have oR := nR
      clear nR
      have cR0 : World.cell? w2 ⟨w.heap.size + 1 + 1, 0, none⟩ = some (.int .i64 (0)) := oR.c 0 rfl
      have cR1 : World.cell? w2 ⟨w.heap.size + 1 + 1, 1, none⟩ = some (.int .i64 (0)) := oR.c 1 rfl
      have fR := oR.fr
      have lR := oR.lt
      go_wp2_with fail
      refine bodyPost_ret (by simp [results, Try.results35, go_sem, cR0, cR1, fR, lR]; rfl) rfl ?_
      show G3 w _ _ _
      rw [H.out, E1.out, E2.out]
      exact ⟨rfl, by (repeat' first | with_reducible assumption | with_reducible exact Below.refl _ _ | with_reducible refine Below.alloc ?_ ?_ _ | with_reducible refine Below.drew ?_ | with_reducible refine belowN ?_ _ | with_reducible refine Below.setCell ?_ ?_ _ | go_size)⟩
  · have H1 : Hid (errV (V a b ∧ V c d) = 8) := if_neg hv
    have H : Hid (hullS a b c d = (0, 0, 8)) := if_neg hv
    clear hv
    go_enter Try.func35, Try.ntmps35
    go_wp2_with fail
    refine (rboth a b c d _).mono ?_
    rintro e w1 ⟨rfl, hb1⟩
    have st : Steps _ w1 := hb1
    have Bn : Below w.heap.size w w1 := below_steps (by (repeat' first | with_reducible assumption | with_reducible exact Below.refl _ _ | with_reducible refine Below.alloc ?_ ?_ _ | with_reducible refine Below.drew ?_ | with_reducible refine belowN ?_ _ | with_reducible refine Below.setCell ?_ ?_ _ | go_size)) (Nat.le_refl _) st
    have nA : Blk w1 (w.heap.size) 23 #[.int .i64 (a), .int .i64 (b)] := Blk.steps (by (repeat' first | with_reducible assumption | (with_reducible refine Blk.new' ?_; first | with_reducible rfl | (simp only [World.size_alloc, World.size_setCell, World.size_drew]; done)) | with_reducible refine Blk.alloc ?_ _ | with_reducible refine Blk.drew ?_ | with_reducible refine Blk.drewN ?_ _ | with_reducible apply Blk.both | with_reducible refine Blk.far' ?_ ?_ | (show _ ≠ _; omega))) st
    have nB : Blk w1 (w.heap.size + 1) 23 #[.int .i64 (c), .int .i64 (d)] := Blk.steps (by (repeat' first | with_reducible assumption | (with_reducible refine Blk.new' ?_; first | with_reducible rfl | (simp only [World.size_alloc, World.size_setCell, World.size_drew]; done)) | with_reducible refine Blk.alloc ?_ _ | with_reducible refine Blk.drew ?_ | with_reducible refine Blk.drewN ?_ _ | with_reducible apply Blk.both | with_reducible refine Blk.far' ?_ ?_ | (show _ ≠ _; omega))) st
    have nR : Blk w1 (w.heap.size + 1 + 1) 23 #[.int .i64 (0), .int .i64 (0)] := Blk.steps (by (repeat' first | with_reducible assumption | (with_reducible refine Blk.new' ?_; first | with_reducible rfl | (simp only [World.size_alloc, World.size_setCell, World.size_drew]; done)) | with_reducible refine Blk.alloc ?_ _ | with_reducible refine Blk.drew ?_ | with_reducible refine Blk.drewN ?_ _ | with_reducible apply Blk.both | with_reducible refine Blk.far' ?_ ?_ | (show _ ≠ _; omega))) st
    clear st
    have B := Bn
    clear Bn
    have oA := nA
    clear nA
    have cA0 : World.cell? w1 ⟨w.heap.size, 0, none⟩ = some (.int .i64 (a)) := oA.c 0 rfl
    have cA1 : World.cell? w1 ⟨w.heap.size, 1, none⟩ = some (.int .i64 (b)) := oA.c 1 rfl
    have fA := oA.fr
    have lA := oA.lt
    have oB := nB
    clear nB
    have cB0 : World.cell? w1 ⟨w.heap.size + 1, 0, none⟩ = some (.int .i64 (c)) := oB.c 0 rfl
    have cB1 : World.cell? w1 ⟨w.heap.size + 1, 1, none⟩ = some (.int .i64 (d)) := oB.c 1 rfl
    have fB := oB.fr
    have lB := oB.lt
    have oR := nR
    clear nR
    have cR0 : World.cell? w1 ⟨w.heap.size + 1 + 1, 0, none⟩ = some (.int .i64 (0)) := oR.c 0 rfl
    have cR1 : World.cell? w1 ⟨w.heap.size + 1 + 1, 1, none⟩ = some (.int .i64 (0)) := oR.c 1 rfl
    have fR := oR.fr
    have lR := oR.lt
    rw [H1.out]
    go_wp2_with fail
    refine (rboth a b c d _).mono ?_
    rintro e w2 ⟨rfl, hb2⟩
    have st : Steps _ w2 := hb2
    have Bn : Below w.heap.size w w2 := below_steps (by (repeat' first | with_reducible assumption | with_reducible exact Below.refl _ _ | with_reducible refine Below.alloc ?_ ?_ _ | with_reducible refine Below.drew ?_ | with_reducible refine belowN ?_ _ | with_reducible refine Below.setCell ?_ ?_ _ | go_size)) (Nat.le_refl _) st
    have nA : Blk w2 (w.heap.size) 23 #[.int .i64 (a), .int .i64 (b)] := Blk.steps (by (repeat' first | with_reducible assumption | (with_reducible refine Blk.new' ?_; first | with_reducible rfl | (simp only [World.size_alloc, World.size_setCell, World.size_drew]; done)) | with_reducible refine Blk.alloc ?_ _ | with_reducible refine Blk.drew ?_ | with_reducible refine Blk.drewN ?_ _ | with_reducible apply Blk.both | with_reducible refine Blk.far' ?_ ?_ | (show _ ≠ _; omega))) st
    have nB : Blk w2 (w.heap.size + 1) 23 #[.int .i64 (c), .int .i64 (d)] := Blk.steps (by (repeat' first | with_reducible assumption | (with_reducible refine Blk.new' ?_; first | with_reducible rfl | (simp only [World.size_alloc, World.size_setCell, World.size_drew]; done)) | with_reducible refine Blk.alloc ?_ _ | with_reducible refine Blk.drew ?_ | with_reducible refine Blk.drewN ?_ _ | with_reducible apply Blk.both | with_reducible refine Blk.far' ?_ ?_ | (show _ ≠ _; omega))) st
    have nR : Blk w2 (w.heap.size + 1 + 1) 23 #[.int .i64 (0), .int .i64 (0)] := Blk.steps (by (repeat' first | with_reducible assumption | (with_reducible refine Blk.new' ?_; first | with_reducible rfl | (simp only [World.size_alloc, World.size_setCell, World.size_drew]; done)) | with_reducible refine Blk.alloc ?_ _ | with_reducible refine Blk.drew ?_ | with_reducible refine Blk.drewN ?_ _ | with_reducible apply Blk.both | with_reducible refine Blk.far' ?_ ?_ | (show _ ≠ _; omega))) st
    clear B oA oB oR cA0 cA1 fA lA cB0 cB1 fB lB cR0 cR1 fR lR
    clear st
    have B := Bn
    clear Bn
    have oA := nA
    clear nA
    have cA0 : World.cell? w2 ⟨w.heap.size, 0, none⟩ = some (.int .i64 (a)) := oA.c 0 rfl
    have cA1 : World.cell? w2 ⟨w.heap.size, 1, none⟩ = some (.int .i64 (b)) := oA.c 1 rfl
    have fA := oA.fr
    have lA := oA.lt
    have oB := nB
    clear nB
    have cB0 : World.cell? w2 ⟨w.heap.size + 1, 0, none⟩ = some (.int .i64 (c)) := oB.c 0 rfl
    have cB1 : World.cell? w2 ⟨w.heap.size + 1, 1, none⟩ = some (.int .i64 (d)) := oB.c 1 rfl
    have fB := oB.fr
    have lB := oB.lt
    have oR := nR
    clear nR
    have cR0 : World.cell? w2 ⟨w.heap.size + 1 + 1, 0, none⟩ = some (.int .i64 (0)) := oR.c 0 rfl
    have cR1 : World.cell? w2 ⟨w.heap.size + 1 + 1, 1, none⟩ = some (.int .i64 (0)) := oR.c 1 rfl
    have fR := oR.fr
    have lR := oR.lt
    rw [H1.out]
    go_wp2_with fail
    refine bodyPost_ret (by simp [results, Try.results35, go_sem, cR0, cR1, fR, lR]; rfl) rfl ?_
    show G3 w _ _ _
    rw [H.out]
    exact ⟨rfl, by (repeat' first | with_reducible assumption | with_reducible exact Below.refl _ _ | with_reducible refine Below.alloc ?_ ?_ _ | with_reducible refine Below.drew ?_ | with_reducible refine belowN ?_ _ | with_reducible refine Below.setCell ?_ ?_ _ | go_size)⟩
set_option maxRecDepth 100000 in
set_option maxHeartbeats 4000000 in
theorem rneg (a b : Int) (w : World) : Calls Try.prog 9 #[.agg #[.int .i64 a, .int .i64 b]] w (G3 w (negS a b)) := by
  by_cases hv : V a b
  · have H1 : Hid (errV (V a b) = 0) := if_pos hv
    have H : Hid (negS a b = md (-b) (-a)) := by show negS a b = _; rw [md_ok (by obtain ⟨_, _, _⟩ := hv; omega) (by obtain ⟨_, _, _⟩ := hv; omega)]; exact if_pos hv
    obtain ⟨v0, v1, v2⟩ := hv
    go_enter Try.func9, Try.ntmps9
    go_wp2_with fail
    refine (rcheck a b _).mono ?_
    rintro e w1 ⟨rfl, hb1⟩
    have st : Steps _ w1 := hb1
    have Bn : Below w.heap.size w w1 := below_steps (by (repeat' first | with_reducible assumption | with_reducible exact Below.refl _ _ | with_reducible refine Below.alloc ?_ ?_ _ | with_reducible refine Below.drew ?_ | with_reducible refine belowN ?_ _ | with_reducible refine Below.setCell ?_ ?_ _ | go_size)) (Nat.le_refl _) st
    have nA : Blk w1 (w.heap.size) 23 #[.int .i64 (a), .int .i64 (b)] := Blk.steps (by (repeat' first | with_reducible assumption | (with_reducible refine Blk.new' ?_; first | with_reducible rfl | (simp only [World.size_alloc, World.size_setCell, World.size_drew]; done)) | with_reducible refine Blk.alloc ?_ _ | with_reducible refine Blk.drew ?_ | with_reducible refine Blk.drewN ?_ _ | with_reducible apply Blk.both | with_reducible refine Blk.far' ?_ ?_ | (show _ ≠ _; omega))) st
    have nR : Blk w1 (w.heap.size + 1) 23 #[.int .i64 (0), .int .i64 (0)] := Blk.steps (by (repeat' first | with_reducible assumption | (with_reducible refine Blk.new' ?_; first | with_reducible rfl | (simp only [World.size_alloc, World.size_setCell, World.size_drew]; done)) | with_reducible refine Blk.alloc ?_ _ | with_reducible refine Blk.drew ?_ | with_reducible refine Blk.drewN ?_ _ | with_reducible apply Blk.both | with_reducible refine Blk.far' ?_ ?_ | (show _ ≠ _; omega))) st
    clear st
    have B := Bn
    clear Bn
    have oA := nA
    clear nA
    have cA0 : World.cell? w1 ⟨w.heap.size, 0, none⟩ = some (.int .i64 (a)) := oA.c 0 rfl
    have cA1 : World.cell? w1 ⟨w.heap.size, 1, none⟩ = some (.int .i64 (b)) := oA.c 1 rfl
    have fA := oA.fr
    have lA := oA.lt
    have oR := nR
    clear nR
    have cR0 : World.cell? w1 ⟨w.heap.size + 1, 0, none⟩ = some (.int .i64 (0)) := oR.c 0 rfl
    have cR1 : World.cell? w1 ⟨w.heap.size + 1, 1, none⟩ = some (.int .i64 (0)) := oR.c 1 rfl
    have fR := oR.fr
    have lR := oR.lt
    rw [H1.out]
    go_wp2_with fail
    refine (rmade _ _ _).mono ?_
    rintro e w2 ⟨rfl, hb2⟩
    have st : Steps _ w2 := hb2
    have Bn : Below w.heap.size w w2 := below_steps (by (repeat' first | with_reducible assumption | with_reducible exact Below.refl _ _ | with_reducible refine Below.alloc ?_ ?_ _ | with_reducible refine Below.drew ?_ | with_reducible refine belowN ?_ _ | with_reducible refine Below.setCell ?_ ?_ _ | go_size)) (Nat.le_refl _) st
    have nA : Blk w2 (w.heap.size) 23 #[.int .i64 (a), .int .i64 (b)] := Blk.steps (by (repeat' first | with_reducible assumption | (with_reducible refine Blk.new' ?_; first | with_reducible rfl | (simp only [World.size_alloc, World.size_setCell, World.size_drew]; done)) | with_reducible refine Blk.alloc ?_ _ | with_reducible refine Blk.drew ?_ | with_reducible refine Blk.drewN ?_ _ | with_reducible apply Blk.both | with_reducible refine Blk.far' ?_ ?_ | (show _ ≠ _; omega))) st
    have nR : Blk w2 (w.heap.size + 1) 23 #[.int .i64 (0), .int .i64 (0)] := Blk.steps (by (repeat' first | with_reducible assumption | (with_reducible refine Blk.new' ?_; first | with_reducible rfl | (simp only [World.size_alloc, World.size_setCell, World.size_drew]; done)) | with_reducible refine Blk.alloc ?_ _ | with_reducible refine Blk.drew ?_ | with_reducible refine Blk.drewN ?_ _ | with_reducible apply Blk.both | with_reducible refine Blk.far' ?_ ?_ | (show _ ≠ _; omega))) st
    clear B oA oR cA0 cA1 fA lA cR0 cR1 fR lR
    clear st
    have B := Bn
    clear Bn
    have oA := nA
    clear nA
    have cA0 : World.cell? w2 ⟨w.heap.size, 0, none⟩ = some (.int .i64 (a)) := oA.c 0 rfl
    have cA1 : World.cell? w2 ⟨w.heap.size, 1, none⟩ = some (.int .i64 (b)) := oA.c 1 rfl
    have fA := oA.fr
    have lA := oA.lt
    have oR := nR
    clear nR
    have cR0 : World.cell? w2 ⟨w.heap.size + 1, 0, none⟩ = some (.int .i64 (0)) := oR.c 0 rfl
    have cR1 : World.cell? w2 ⟨w.heap.size + 1, 1, none⟩ = some (.int .i64 (0)) := oR.c 1 rfl
    have fR := oR.fr
    have lR := oR.lt
    go_wp2_with fail
    refine bodyPost_ret (by simp [results, Try.results9, go_sem, cR0, cR1, fR, lR]; rfl) rfl ?_
    show G3 w _ _ _
    rw [H.out]
    exact ⟨rfl, by (repeat' first | with_reducible assumption | with_reducible exact Below.refl _ _ | with_reducible refine Below.alloc ?_ ?_ _ | with_reducible refine Below.drew ?_ | with_reducible refine belowN ?_ _ | with_reducible refine Below.setCell ?_ ?_ _ | go_size)⟩
  · have H1 : Hid (errV (V a b) = 8) := if_neg hv
    have H : Hid (negS a b = (0, 0, 8)) := if_neg hv
    clear hv
    go_enter Try.func9, Try.ntmps9
    go_wp2_with fail
    refine (rcheck a b _).mono ?_
    rintro e w1 ⟨rfl, hb1⟩
    have st : Steps _ w1 := hb1
    have Bn : Below w.heap.size w w1 := below_steps (by (repeat' first | with_reducible assumption | with_reducible exact Below.refl _ _ | with_reducible refine Below.alloc ?_ ?_ _ | with_reducible refine Below.drew ?_ | with_reducible refine belowN ?_ _ | with_reducible refine Below.setCell ?_ ?_ _ | go_size)) (Nat.le_refl _) st
    have nA : Blk w1 (w.heap.size) 23 #[.int .i64 (a), .int .i64 (b)] := Blk.steps (by (repeat' first | with_reducible assumption | (with_reducible refine Blk.new' ?_; first | with_reducible rfl | (simp only [World.size_alloc, World.size_setCell, World.size_drew]; done)) | with_reducible refine Blk.alloc ?_ _ | with_reducible refine Blk.drew ?_ | with_reducible refine Blk.drewN ?_ _ | with_reducible apply Blk.both | with_reducible refine Blk.far' ?_ ?_ | (show _ ≠ _; omega))) st
    have nR : Blk w1 (w.heap.size + 1) 23 #[.int .i64 (0), .int .i64 (0)] := Blk.steps (by (repeat' first | with_reducible assumption | (with_reducible refine Blk.new' ?_; first | with_reducible rfl | (simp only [World.size_alloc, World.size_setCell, World.size_drew]; done)) | with_reducible refine Blk.alloc ?_ _ | with_reducible refine Blk.drew ?_ | with_reducible refine Blk.drewN ?_ _ | with_reducible apply Blk.both | with_reducible refine Blk.far' ?_ ?_ | (show _ ≠ _; omega))) st
    clear st
    have B := Bn
    clear Bn
    have oA := nA
    clear nA
    have cA0 : World.cell? w1 ⟨w.heap.size, 0, none⟩ = some (.int .i64 (a)) := oA.c 0 rfl
    have cA1 : World.cell? w1 ⟨w.heap.size, 1, none⟩ = some (.int .i64 (b)) := oA.c 1 rfl
    have fA := oA.fr
    have lA := oA.lt
    have oR := nR
    clear nR
    have cR0 : World.cell? w1 ⟨w.heap.size + 1, 0, none⟩ = some (.int .i64 (0)) := oR.c 0 rfl
    have cR1 : World.cell? w1 ⟨w.heap.size + 1, 1, none⟩ = some (.int .i64 (0)) := oR.c 1 rfl
    have fR := oR.fr
    have lR := oR.lt
    rw [H1.out]
    go_wp2_with fail
    refine (rcheck a b _).mono ?_
    rintro e w2 ⟨rfl, hb2⟩
    have st : Steps _ w2 := hb2
    have Bn : Below w.heap.size w w2 := below_steps (by (repeat' first | with_reducible assumption | with_reducible exact Below.refl _ _ | with_reducible refine Below.alloc ?_ ?_ _ | with_reducible refine Below.drew ?_ | with_reducible refine belowN ?_ _ | with_reducible refine Below.setCell ?_ ?_ _ | go_size)) (Nat.le_refl _) st
    have nA : Blk w2 (w.heap.size) 23 #[.int .i64 (a), .int .i64 (b)] := Blk.steps (by (repeat' first | with_reducible assumption | (with_reducible refine Blk.new' ?_; first | with_reducible rfl | (simp only [World.size_alloc, World.size_setCell, World.size_drew]; done)) | with_reducible refine Blk.alloc ?_ _ | with_reducible refine Blk.drew ?_ | with_reducible refine Blk.drewN ?_ _ | with_reducible apply Blk.both | with_reducible refine Blk.far' ?_ ?_ | (show _ ≠ _; omega))) st
    have nR : Blk w2 (w.heap.size + 1) 23 #[.int .i64 (0), .int .i64 (0)] := Blk.steps (by (repeat' first | with_reducible assumption | (with_reducible refine Blk.new' ?_; first | with_reducible rfl | (simp only [World.size_alloc, World.size_setCell, World.size_drew]; done)) | with_reducible refine Blk.alloc ?_ _ | with_reducible refine Blk.drew ?_ | with_reducible refine Blk.drewN ?_ _ | with_reducible apply Blk.both | with_reducible refine Blk.far' ?_ ?_ | (show _ ≠ _; omega))) st
    clear B oA oR cA0 cA1 fA lA cR0 cR1 fR lR
    clear st
    have B := Bn
    clear Bn
    have oA := nA
    clear nA
    have cA0 : World.cell? w2 ⟨w.heap.size, 0, none⟩ = some (.int .i64 (a)) := oA.c 0 rfl
    have cA1 : World.cell? w2 ⟨w.heap.size, 1, none⟩ = some (.int .i64 (b)) := oA.c 1 rfl
    have fA := oA.fr
    have lA := oA.lt
    have oR := nR
    clear nR
    have cR0 : World.cell? w2 ⟨w.heap.size + 1, 0, none⟩ = some (.int .i64 (0)) := oR.c 0 rfl
    have cR1 : World.cell? w2 ⟨w.heap.size + 1, 1, none⟩ = some (.int .i64 (0)) := oR.c 1 rfl
    have fR := oR.fr
    have lR := oR.lt
    rw [H1.out]
    go_wp2_with fail
    refine bodyPost_ret (by simp [results, Try.results9, go_sem, cR0, cR1, fR, lR]; rfl) rfl ?_
    show G3 w _ _ _
    rw [H.out]
    exact ⟨rfl, by (repeat' first | with_reducible assumption | with_reducible exact Below.refl _ _ | with_reducible refine Below.alloc ?_ ?_ _ | with_reducible refine Below.drew ?_ | with_reducible refine belowN ?_ _ | with_reducible refine Below.setCell ?_ ?_ _ | go_size)⟩
