import Derived.Test.YtalnlnpnacfdfaaRefH
import Derived.Test.YtalnlnpnacfdfaaReg
namespace Go.Proofs.Ytalnlnpnacfdfaa
open Go.RowKit
theorem mul_p (a b c d : Int) (w : World) : Calls Try.prog 26 #[.agg #[.int .i64 a, .int .i64 b], .agg #[.int .i64 c, .int .i64 d]] w (G3 w (mulS a b c d)) := by
  by_cases hv : V a b ∧ V c d
  · have H : mulS a b c d = mulV a b c d := if_pos hv
    obtain ⟨⟨v0, v1, v2⟩, ⟨v3, v4, v5⟩⟩ := hv
    rw [H]; exact mul_ok a b c d w v0 v1 v2 v3 v4 v5
  · have H : Hid (mulS a b c d = (0, 0, 8)) := if_neg hv
    go_enter Try.func26, Try.ntmps26
    go_wp2_with fail
    refine (check2_bad _ a b c d _ (by go_size) (by simp [go_sem]) (by simp [go_sem]) (by simp [go_sem]) (by simp [go_sem]) hv).mono ?_
    rintro e w1 ⟨rfl, hb1⟩
    have st : Steps _ w1 := hb1
    have Bn : Below w.heap.size w w1 := below_steps (by (repeat' first | with_reducible assumption | with_reducible exact Below.refl _ _ | with_reducible refine Below.alloc ?_ ?_ _ | with_reducible refine Below.drew ?_ | with_reducible refine belowN ?_ _ | with_reducible refine Below.setCell ?_ ?_ _ | go_size)) (Nat.le_refl _) st
    have nR : Blk w1 (w.heap.size + 1 + 1) 23 #[.int .i64 (0), .int .i64 (0)] := Blk.steps (by (repeat' first | with_reducible assumption | (with_reducible refine Blk.new' ?_; first | with_reducible rfl | (simp only [World.size_alloc, World.size_setCell, World.size_drew]; done)) | with_reducible refine Blk.alloc ?_ _ | with_reducible refine Blk.drew ?_ | with_reducible refine Blk.drewN ?_ _ | with_reducible apply Blk.both | with_reducible refine Blk.far' ?_ ?_ | (show _ ≠ _; omega))) st
    clear st
    have B := Bn
    clear Bn
    have oR := nR
    clear nR
    have cR0 : World.cell? w1 ⟨w.heap.size + 1 + 1, 0, none⟩ = some (.int .i64 (0)) := oR.c 0 rfl
    have cR1 : World.cell? w1 ⟨w.heap.size + 1 + 1, 1, none⟩ = some (.int .i64 (0)) := oR.c 1 rfl
    have fR := oR.fr
    have lR := oR.lt
    go_wp2_with fail
    refine bodyPost_ret (by simp [results, Try.results26, go_sem, cR0, cR1, fR, lR]; rfl) rfl ?_
    show G3 w _ _ _
    rw [H.out]
    exact ⟨rfl, by (repeat' first | with_reducible assumption | with_reducible exact Below.refl _ _ | with_reducible refine Below.alloc ?_ ?_ _ | with_reducible refine Below.drew ?_ | with_reducible refine belowN ?_ _ | with_reducible refine Below.setCell ?_ ?_ _ | go_size)⟩
set_option maxRecDepth 1000000 in
set_option maxHeartbeats 20000000 in
theorem reckons_walk (a b c d : Int) (w : World) : Calls Try.prog 4 #[.agg #[.int .i64 a, .int .i64 b], .agg #[.int .i64 c, .int .i64 d]] w fun e w' => e = .returned (.bool true) ∧ Below w.heap.size w w' := by
  go_enter Try.func4, Try.ntmps4
  go_wp2_with fail
  refine (add_p a b c d _).mono ?_
  rintro e w1 ⟨rfl, hb1⟩
  have st : Steps _ w1 := hb1
  have Bn : Below w.heap.size w w1 := below_steps (by (repeat' first | with_reducible assumption | with_reducible exact Below.refl _ _ | with_reducible refine Below.alloc ?_ ?_ _ | with_reducible refine Below.drew ?_ | with_reducible refine belowN ?_ _ | with_reducible refine Below.setCell ?_ ?_ _ | go_size)) (Nat.le_refl _) st
  have nA : Blk w1 (w.heap.size) 23 #[.int .i64 (a), .int .i64 (b)] := Blk.steps (by (repeat' first | with_reducible assumption | (with_reducible refine Blk.new' ?_; first | with_reducible rfl | (simp only [World.size_alloc, World.size_setCell, World.size_drew]; done)) | with_reducible refine Blk.alloc ?_ _ | with_reducible refine Blk.drew ?_ | with_reducible refine Blk.drewN ?_ _ | with_reducible apply Blk.both | with_reducible refine Blk.far' ?_ ?_ | (show _ ≠ _; omega))) st
  have nB : Blk w1 (w.heap.size + 1) 23 #[.int .i64 (c), .int .i64 (d)] := Blk.steps (by (repeat' first | with_reducible assumption | (with_reducible refine Blk.new' ?_; first | with_reducible rfl | (simp only [World.size_alloc, World.size_setCell, World.size_drew]; done)) | with_reducible refine Blk.alloc ?_ _ | with_reducible refine Blk.drew ?_ | with_reducible refine Blk.drewN ?_ _ | with_reducible apply Blk.both | with_reducible refine Blk.far' ?_ ?_ | (show _ ≠ _; omega))) st
  clear  st hb1
  have B := Bn
  clear Bn
  have oA := nA
  clear nA
  have oB := nB
  clear nB
  have cA0 : World.cell? w1 ⟨w.heap.size, 0, none⟩ = some (.int .i64 (a)) := oA.c 0 rfl
  have cA1 : World.cell? w1 ⟨w.heap.size, 1, none⟩ = some (.int .i64 (b)) := oA.c 1 rfl
  have lA := oA.lt
  have cB0 : World.cell? w1 ⟨w.heap.size + 1, 0, none⟩ = some (.int .i64 (c)) := oB.c 0 rfl
  have cB1 : World.cell? w1 ⟨w.heap.size + 1, 1, none⟩ = some (.int .i64 (d)) := oB.c 1 rfl
  have lB := oB.lt
  have dA_w1 : w.heap.size ≠ w1.heap.size := Nat.ne_of_lt oA.lt
  have dA_w1' := Ne.symm dA_w1
  have dB_w1 : w.heap.size + 1 ≠ w1.heap.size := Nat.ne_of_lt oB.lt
  have dB_w1' := Ne.symm dB_w1
  have s_w1 : w.heap.size ≤ w1.heap.size := Below.size B
  go_wp2_with fail
  refine (radd a b c d _).mono ?_
  rintro e w2 ⟨rfl, hb2⟩
  have st : Steps _ w2 := hb2
  have Bn : Below w.heap.size w w2 := below_steps (by (repeat' first | with_reducible assumption | with_reducible exact Below.refl _ _ | with_reducible refine Below.alloc ?_ ?_ _ | with_reducible refine Below.drew ?_ | with_reducible refine belowN ?_ _ | with_reducible refine Below.setCell ?_ ?_ _ | go_size)) (Nat.le_refl _) st
  have nA : Blk w2 (w.heap.size) 23 #[.int .i64 (a), .int .i64 (b)] := Blk.steps (by (repeat' first | with_reducible assumption | (with_reducible refine Blk.new' ?_; first | with_reducible rfl | (simp only [World.size_alloc, World.size_setCell, World.size_drew]; done)) | with_reducible refine Blk.alloc ?_ _ | with_reducible refine Blk.drew ?_ | with_reducible refine Blk.drewN ?_ _ | with_reducible apply Blk.both | with_reducible refine Blk.far' ?_ ?_ | (show _ ≠ _; omega))) st
  have nB : Blk w2 (w.heap.size + 1) 23 #[.int .i64 (c), .int .i64 (d)] := Blk.steps (by (repeat' first | with_reducible assumption | (with_reducible refine Blk.new' ?_; first | with_reducible rfl | (simp only [World.size_alloc, World.size_setCell, World.size_drew]; done)) | with_reducible refine Blk.alloc ?_ _ | with_reducible refine Blk.drew ?_ | with_reducible refine Blk.drewN ?_ _ | with_reducible apply Blk.both | with_reducible refine Blk.far' ?_ ?_ | (show _ ≠ _; omega))) st
  have nX1 : Blk w2 (w1.heap.size) 23 #[.int .i64 ((addS a b c d).1), .int .i64 ((addS a b c d).2.1)] := Blk.steps (by (repeat' first | with_reducible assumption | (with_reducible refine Blk.new' ?_; first | with_reducible rfl | (simp only [World.size_alloc, World.size_setCell, World.size_drew]; done)) | with_reducible refine Blk.alloc ?_ _ | with_reducible refine Blk.drew ?_ | with_reducible refine Blk.drewN ?_ _ | with_reducible apply Blk.both | with_reducible refine Blk.far' ?_ ?_ | (show _ ≠ _; omega))) st
  clear B oA oB cA0 cA1 lA cB0 cB1 lB st hb2
  have B := Bn
  clear Bn
  have oA := nA
  clear nA
  have oB := nB
  clear nB
  have oX1 := nX1
  clear nX1
  have cA0 : World.cell? w2 ⟨w.heap.size, 0, none⟩ = some (.int .i64 (a)) := oA.c 0 rfl
  have cA1 : World.cell? w2 ⟨w.heap.size, 1, none⟩ = some (.int .i64 (b)) := oA.c 1 rfl
  have lA := oA.lt
  have cB0 : World.cell? w2 ⟨w.heap.size + 1, 0, none⟩ = some (.int .i64 (c)) := oB.c 0 rfl
  have cB1 : World.cell? w2 ⟨w.heap.size + 1, 1, none⟩ = some (.int .i64 (d)) := oB.c 1 rfl
  have lB := oB.lt
  have dA_w2 : w.heap.size ≠ w2.heap.size := Nat.ne_of_lt oA.lt
  have dA_w2' := Ne.symm dA_w2
  have dB_w2 : w.heap.size + 1 ≠ w2.heap.size := Nat.ne_of_lt oB.lt
  have dB_w2' := Ne.symm dB_w2
  have dX1_w2 : w1.heap.size ≠ w2.heap.size := Nat.ne_of_lt oX1.lt
  have dX1_w2' := Ne.symm dX1_w2
  have s_w2 : w.heap.size ≤ w2.heap.size := Below.size B
  go_wp2_with fail
  refine (sub_p a b c d _).mono ?_
  rintro e w3 ⟨rfl, hb3⟩
  have st : Steps _ w3 := hb3
  have Bn : Below w.heap.size w w3 := below_steps (by (repeat' first | with_reducible assumption | with_reducible exact Below.refl _ _ | with_reducible refine Below.alloc ?_ ?_ _ | with_reducible refine Below.drew ?_ | with_reducible refine belowN ?_ _ | with_reducible refine Below.setCell ?_ ?_ _ | go_size)) (Nat.le_refl _) st
  have nA : Blk w3 (w.heap.size) 23 #[.int .i64 (a), .int .i64 (b)] := Blk.steps (by (repeat' first | with_reducible assumption | (with_reducible refine Blk.new' ?_; first | with_reducible rfl | (simp only [World.size_alloc, World.size_setCell, World.size_drew]; done)) | with_reducible refine Blk.alloc ?_ _ | with_reducible refine Blk.drew ?_ | with_reducible refine Blk.drewN ?_ _ | with_reducible apply Blk.both | with_reducible refine Blk.far' ?_ ?_ | (show _ ≠ _; omega))) st
  have nB : Blk w3 (w.heap.size + 1) 23 #[.int .i64 (c), .int .i64 (d)] := Blk.steps (by (repeat' first | with_reducible assumption | (with_reducible refine Blk.new' ?_; first | with_reducible rfl | (simp only [World.size_alloc, World.size_setCell, World.size_drew]; done)) | with_reducible refine Blk.alloc ?_ _ | with_reducible refine Blk.drew ?_ | with_reducible refine Blk.drewN ?_ _ | with_reducible apply Blk.both | with_reducible refine Blk.far' ?_ ?_ | (show _ ≠ _; omega))) st
  have nX1 : Blk w3 (w1.heap.size) 23 #[.int .i64 ((addS a b c d).1), .int .i64 ((addS a b c d).2.1)] := Blk.steps (by (repeat' first | with_reducible assumption | (with_reducible refine Blk.new' ?_; first | with_reducible rfl | (simp only [World.size_alloc, World.size_setCell, World.size_drew]; done)) | with_reducible refine Blk.alloc ?_ _ | with_reducible refine Blk.drew ?_ | with_reducible refine Blk.drewN ?_ _ | with_reducible apply Blk.both | with_reducible refine Blk.far' ?_ ?_ | (show _ ≠ _; omega))) st
  have nX2 : Blk w3 (w2.heap.size) 23 #[.int .i64 ((addS a b c d).1), .int .i64 ((addS a b c d).2.1)] := Blk.steps (by (repeat' first | with_reducible assumption | (with_reducible refine Blk.new' ?_; first | with_reducible rfl | (simp only [World.size_alloc, World.size_setCell, World.size_drew]; done)) | with_reducible refine Blk.alloc ?_ _ | with_reducible refine Blk.drew ?_ | with_reducible refine Blk.drewN ?_ _ | with_reducible apply Blk.both | with_reducible refine Blk.far' ?_ ?_ | (show _ ≠ _; omega))) st
  clear B oA oB oX1 cA0 cA1 lA cB0 cB1 lB st hb3
  have B := Bn
  clear Bn
  have oA := nA
  clear nA
  have oB := nB
  clear nB
  have oX1 := nX1
  clear nX1
  have oX2 := nX2
  clear nX2
  have cA0 : World.cell? w3 ⟨w.heap.size, 0, none⟩ = some (.int .i64 (a)) := oA.c 0 rfl
  have cA1 : World.cell? w3 ⟨w.heap.size, 1, none⟩ = some (.int .i64 (b)) := oA.c 1 rfl
  have lA := oA.lt
  have cB0 : World.cell? w3 ⟨w.heap.size + 1, 0, none⟩ = some (.int .i64 (c)) := oB.c 0 rfl
  have cB1 : World.cell? w3 ⟨w.heap.size + 1, 1, none⟩ = some (.int .i64 (d)) := oB.c 1 rfl
  have lB := oB.lt
  have dA_w3 : w.heap.size ≠ w3.heap.size := Nat.ne_of_lt oA.lt
  have dA_w3' := Ne.symm dA_w3
  have dB_w3 : w.heap.size + 1 ≠ w3.heap.size := Nat.ne_of_lt oB.lt
  have dB_w3' := Ne.symm dB_w3
  have dX1_w3 : w1.heap.size ≠ w3.heap.size := Nat.ne_of_lt oX1.lt
  have dX1_w3' := Ne.symm dX1_w3
  have dX2_w3 : w2.heap.size ≠ w3.heap.size := Nat.ne_of_lt oX2.lt
  have dX2_w3' := Ne.symm dX2_w3
  have s_w3 : w.heap.size ≤ w3.heap.size := Below.size B
  go_wp2_with fail
  refine (rsub a b c d _).mono ?_
  rintro e w4 ⟨rfl, hb4⟩
  have st : Steps _ w4 := hb4
  have Bn : Below w.heap.size w w4 := below_steps (by (repeat' first | with_reducible assumption | with_reducible exact Below.refl _ _ | with_reducible refine Below.alloc ?_ ?_ _ | with_reducible refine Below.drew ?_ | with_reducible refine belowN ?_ _ | with_reducible refine Below.setCell ?_ ?_ _ | go_size)) (Nat.le_refl _) st
  have nA : Blk w4 (w.heap.size) 23 #[.int .i64 (a), .int .i64 (b)] := Blk.steps (by (repeat' first | with_reducible assumption | (with_reducible refine Blk.new' ?_; first | with_reducible rfl | (simp only [World.size_alloc, World.size_setCell, World.size_drew]; done)) | with_reducible refine Blk.alloc ?_ _ | with_reducible refine Blk.drew ?_ | with_reducible refine Blk.drewN ?_ _ | with_reducible apply Blk.both | with_reducible refine Blk.far' ?_ ?_ | (show _ ≠ _; omega))) st
  have nB : Blk w4 (w.heap.size + 1) 23 #[.int .i64 (c), .int .i64 (d)] := Blk.steps (by (repeat' first | with_reducible assumption | (with_reducible refine Blk.new' ?_; first | with_reducible rfl | (simp only [World.size_alloc, World.size_setCell, World.size_drew]; done)) | with_reducible refine Blk.alloc ?_ _ | with_reducible refine Blk.drew ?_ | with_reducible refine Blk.drewN ?_ _ | with_reducible apply Blk.both | with_reducible refine Blk.far' ?_ ?_ | (show _ ≠ _; omega))) st
  have nX1 : Blk w4 (w1.heap.size) 23 #[.int .i64 ((addS a b c d).1), .int .i64 ((addS a b c d).2.1)] := Blk.steps (by (repeat' first | with_reducible assumption | (with_reducible refine Blk.new' ?_; first | with_reducible rfl | (simp only [World.size_alloc, World.size_setCell, World.size_drew]; done)) | with_reducible refine Blk.alloc ?_ _ | with_reducible refine Blk.drew ?_ | with_reducible refine Blk.drewN ?_ _ | with_reducible apply Blk.both | with_reducible refine Blk.far' ?_ ?_ | (show _ ≠ _; omega))) st
  have nX2 : Blk w4 (w2.heap.size) 23 #[.int .i64 ((addS a b c d).1), .int .i64 ((addS a b c d).2.1)] := Blk.steps (by (repeat' first | with_reducible assumption | (with_reducible refine Blk.new' ?_; first | with_reducible rfl | (simp only [World.size_alloc, World.size_setCell, World.size_drew]; done)) | with_reducible refine Blk.alloc ?_ _ | with_reducible refine Blk.drew ?_ | with_reducible refine Blk.drewN ?_ _ | with_reducible apply Blk.both | with_reducible refine Blk.far' ?_ ?_ | (show _ ≠ _; omega))) st
  have nX3 : Blk w4 (w3.heap.size) 23 #[.int .i64 ((subS a b c d).1), .int .i64 ((subS a b c d).2.1)] := Blk.steps (by (repeat' first | with_reducible assumption | (with_reducible refine Blk.new' ?_; first | with_reducible rfl | (simp only [World.size_alloc, World.size_setCell, World.size_drew]; done)) | with_reducible refine Blk.alloc ?_ _ | with_reducible refine Blk.drew ?_ | with_reducible refine Blk.drewN ?_ _ | with_reducible apply Blk.both | with_reducible refine Blk.far' ?_ ?_ | (show _ ≠ _; omega))) st
  clear B oA oB oX1 oX2 cA0 cA1 lA cB0 cB1 lB st hb4
  have B := Bn
  clear Bn
  have oA := nA
  clear nA
  have oB := nB
  clear nB
  have oX1 := nX1
  clear nX1
  have oX2 := nX2
  clear nX2
  have oX3 := nX3
  clear nX3
  have cA0 : World.cell? w4 ⟨w.heap.size, 0, none⟩ = some (.int .i64 (a)) := oA.c 0 rfl
  have cA1 : World.cell? w4 ⟨w.heap.size, 1, none⟩ = some (.int .i64 (b)) := oA.c 1 rfl
  have lA := oA.lt
  have cB0 : World.cell? w4 ⟨w.heap.size + 1, 0, none⟩ = some (.int .i64 (c)) := oB.c 0 rfl
  have cB1 : World.cell? w4 ⟨w.heap.size + 1, 1, none⟩ = some (.int .i64 (d)) := oB.c 1 rfl
  have lB := oB.lt
  have dA_w4 : w.heap.size ≠ w4.heap.size := Nat.ne_of_lt oA.lt
  have dA_w4' := Ne.symm dA_w4
  have dB_w4 : w.heap.size + 1 ≠ w4.heap.size := Nat.ne_of_lt oB.lt
  have dB_w4' := Ne.symm dB_w4
  have dX1_w4 : w1.heap.size ≠ w4.heap.size := Nat.ne_of_lt oX1.lt
  have dX1_w4' := Ne.symm dX1_w4
  have dX2_w4 : w2.heap.size ≠ w4.heap.size := Nat.ne_of_lt oX2.lt
  have dX2_w4' := Ne.symm dX2_w4
  have dX3_w4 : w3.heap.size ≠ w4.heap.size := Nat.ne_of_lt oX3.lt
  have dX3_w4' := Ne.symm dX3_w4
  have s_w4 : w.heap.size ≤ w4.heap.size := Below.size B
  go_wp2_with fail
  refine (mul_p a b c d _).mono ?_
  rintro e w5 ⟨rfl, hb5⟩
  have st : Steps _ w5 := hb5
  have Bn : Below w.heap.size w w5 := below_steps (by (repeat' first | with_reducible assumption | with_reducible exact Below.refl _ _ | with_reducible refine Below.alloc ?_ ?_ _ | with_reducible refine Below.drew ?_ | with_reducible refine belowN ?_ _ | with_reducible refine Below.setCell ?_ ?_ _ | go_size)) (Nat.le_refl _) st
  have nA : Blk w5 (w.heap.size) 23 #[.int .i64 (a), .int .i64 (b)] := Blk.steps (by (repeat' first | with_reducible assumption | (with_reducible refine Blk.new' ?_; first | with_reducible rfl | (simp only [World.size_alloc, World.size_setCell, World.size_drew]; done)) | with_reducible refine Blk.alloc ?_ _ | with_reducible refine Blk.drew ?_ | with_reducible refine Blk.drewN ?_ _ | with_reducible apply Blk.both | with_reducible refine Blk.far' ?_ ?_ | (show _ ≠ _; omega))) st
  have nB : Blk w5 (w.heap.size + 1) 23 #[.int .i64 (c), .int .i64 (d)] := Blk.steps (by (repeat' first | with_reducible assumption | (with_reducible refine Blk.new' ?_; first | with_reducible rfl | (simp only [World.size_alloc, World.size_setCell, World.size_drew]; done)) | with_reducible refine Blk.alloc ?_ _ | with_reducible refine Blk.drew ?_ | with_reducible refine Blk.drewN ?_ _ | with_reducible apply Blk.both | with_reducible refine Blk.far' ?_ ?_ | (show _ ≠ _; omega))) st
  have nX1 : Blk w5 (w1.heap.size) 23 #[.int .i64 ((addS a b c d).1), .int .i64 ((addS a b c d).2.1)] := Blk.steps (by (repeat' first | with_reducible assumption | (with_reducible refine Blk.new' ?_; first | with_reducible rfl | (simp only [World.size_alloc, World.size_setCell, World.size_drew]; done)) | with_reducible refine Blk.alloc ?_ _ | with_reducible refine Blk.drew ?_ | with_reducible refine Blk.drewN ?_ _ | with_reducible apply Blk.both | with_reducible refine Blk.far' ?_ ?_ | (show _ ≠ _; omega))) st
  have nX2 : Blk w5 (w2.heap.size) 23 #[.int .i64 ((addS a b c d).1), .int .i64 ((addS a b c d).2.1)] := Blk.steps (by (repeat' first | with_reducible assumption | (with_reducible refine Blk.new' ?_; first | with_reducible rfl | (simp only [World.size_alloc, World.size_setCell, World.size_drew]; done)) | with_reducible refine Blk.alloc ?_ _ | with_reducible refine Blk.drew ?_ | with_reducible refine Blk.drewN ?_ _ | with_reducible apply Blk.both | with_reducible refine Blk.far' ?_ ?_ | (show _ ≠ _; omega))) st
  have nX3 : Blk w5 (w3.heap.size) 23 #[.int .i64 ((subS a b c d).1), .int .i64 ((subS a b c d).2.1)] := Blk.steps (by (repeat' first | with_reducible assumption | (with_reducible refine Blk.new' ?_; first | with_reducible rfl | (simp only [World.size_alloc, World.size_setCell, World.size_drew]; done)) | with_reducible refine Blk.alloc ?_ _ | with_reducible refine Blk.drew ?_ | with_reducible refine Blk.drewN ?_ _ | with_reducible apply Blk.both | with_reducible refine Blk.far' ?_ ?_ | (show _ ≠ _; omega))) st
  have nX4 : Blk w5 (w4.heap.size) 23 #[.int .i64 ((subS a b c d).1), .int .i64 ((subS a b c d).2.1)] := Blk.steps (by (repeat' first | with_reducible assumption | (with_reducible refine Blk.new' ?_; first | with_reducible rfl | (simp only [World.size_alloc, World.size_setCell, World.size_drew]; done)) | with_reducible refine Blk.alloc ?_ _ | with_reducible refine Blk.drew ?_ | with_reducible refine Blk.drewN ?_ _ | with_reducible apply Blk.both | with_reducible refine Blk.far' ?_ ?_ | (show _ ≠ _; omega))) st
  clear B oA oB oX1 oX2 oX3 cA0 cA1 lA cB0 cB1 lB st hb5
  have B := Bn
  clear Bn
  have oA := nA
  clear nA
  have oB := nB
  clear nB
  have oX1 := nX1
  clear nX1
  have oX2 := nX2
  clear nX2
  have oX3 := nX3
  clear nX3
  have oX4 := nX4
  clear nX4
  have cA0 : World.cell? w5 ⟨w.heap.size, 0, none⟩ = some (.int .i64 (a)) := oA.c 0 rfl
  have cA1 : World.cell? w5 ⟨w.heap.size, 1, none⟩ = some (.int .i64 (b)) := oA.c 1 rfl
  have lA := oA.lt
  have cB0 : World.cell? w5 ⟨w.heap.size + 1, 0, none⟩ = some (.int .i64 (c)) := oB.c 0 rfl
  have cB1 : World.cell? w5 ⟨w.heap.size + 1, 1, none⟩ = some (.int .i64 (d)) := oB.c 1 rfl
  have lB := oB.lt
  have dA_w5 : w.heap.size ≠ w5.heap.size := Nat.ne_of_lt oA.lt
  have dA_w5' := Ne.symm dA_w5
  have dB_w5 : w.heap.size + 1 ≠ w5.heap.size := Nat.ne_of_lt oB.lt
  have dB_w5' := Ne.symm dB_w5
  have dX1_w5 : w1.heap.size ≠ w5.heap.size := Nat.ne_of_lt oX1.lt
  have dX1_w5' := Ne.symm dX1_w5
  have dX2_w5 : w2.heap.size ≠ w5.heap.size := Nat.ne_of_lt oX2.lt
  have dX2_w5' := Ne.symm dX2_w5
  have dX3_w5 : w3.heap.size ≠ w5.heap.size := Nat.ne_of_lt oX3.lt
  have dX3_w5' := Ne.symm dX3_w5
  have dX4_w5 : w4.heap.size ≠ w5.heap.size := Nat.ne_of_lt oX4.lt
  have dX4_w5' := Ne.symm dX4_w5
  have s_w5 : w.heap.size ≤ w5.heap.size := Below.size B
  go_wp2_with fail
  refine (rmul a b c d _).mono ?_
  rintro e w6 ⟨rfl, hb6⟩
  have st : Steps _ w6 := hb6
  have Bn : Below w.heap.size w w6 := below_steps (by (repeat' first | with_reducible assumption | with_reducible exact Below.refl _ _ | with_reducible refine Below.alloc ?_ ?_ _ | with_reducible refine Below.drew ?_ | with_reducible refine belowN ?_ _ | with_reducible refine Below.setCell ?_ ?_ _ | go_size)) (Nat.le_refl _) st
  have nA : Blk w6 (w.heap.size) 23 #[.int .i64 (a), .int .i64 (b)] := Blk.steps (by (repeat' first | with_reducible assumption | (with_reducible refine Blk.new' ?_; first | with_reducible rfl | (simp only [World.size_alloc, World.size_setCell, World.size_drew]; done)) | with_reducible refine Blk.alloc ?_ _ | with_reducible refine Blk.drew ?_ | with_reducible refine Blk.drewN ?_ _ | with_reducible apply Blk.both | with_reducible refine Blk.far' ?_ ?_ | (show _ ≠ _; omega))) st
  have nB : Blk w6 (w.heap.size + 1) 23 #[.int .i64 (c), .int .i64 (d)] := Blk.steps (by (repeat' first | with_reducible assumption | (with_reducible refine Blk.new' ?_; first | with_reducible rfl | (simp only [World.size_alloc, World.size_setCell, World.size_drew]; done)) | with_reducible refine Blk.alloc ?_ _ | with_reducible refine Blk.drew ?_ | with_reducible refine Blk.drewN ?_ _ | with_reducible apply Blk.both | with_reducible refine Blk.far' ?_ ?_ | (show _ ≠ _; omega))) st
  have nX1 : Blk w6 (w1.heap.size) 23 #[.int .i64 ((addS a b c d).1), .int .i64 ((addS a b c d).2.1)] := Blk.steps (by (repeat' first | with_reducible assumption | (with_reducible refine Blk.new' ?_; first | with_reducible rfl | (simp only [World.size_alloc, World.size_setCell, World.size_drew]; done)) | with_reducible refine Blk.alloc ?_ _ | with_reducible refine Blk.drew ?_ | with_reducible refine Blk.drewN ?_ _ | with_reducible apply Blk.both | with_reducible refine Blk.far' ?_ ?_ | (show _ ≠ _; omega))) st
  have nX2 : Blk w6 (w2.heap.size) 23 #[.int .i64 ((addS a b c d).1), .int .i64 ((addS a b c d).2.1)] := Blk.steps (by (repeat' first | with_reducible assumption | (with_reducible refine Blk.new' ?_; first | with_reducible rfl | (simp only [World.size_alloc, World.size_setCell, World.size_drew]; done)) | with_reducible refine Blk.alloc ?_ _ | with_reducible refine Blk.drew ?_ | with_reducible refine Blk.drewN ?_ _ | with_reducible apply Blk.both | with_reducible refine Blk.far' ?_ ?_ | (show _ ≠ _; omega))) st
  have nX3 : Blk w6 (w3.heap.size) 23 #[.int .i64 ((subS a b c d).1), .int .i64 ((subS a b c d).2.1)] := Blk.steps (by (repeat' first | with_reducible assumption | (with_reducible refine Blk.new' ?_; first | with_reducible rfl | (simp only [World.size_alloc, World.size_setCell, World.size_drew]; done)) | with_reducible refine Blk.alloc ?_ _ | with_reducible refine Blk.drew ?_ | with_reducible refine Blk.drewN ?_ _ | with_reducible apply Blk.both | with_reducible refine Blk.far' ?_ ?_ | (show _ ≠ _; omega))) st
  have nX4 : Blk w6 (w4.heap.size) 23 #[.int .i64 ((subS a b c d).1), .int .i64 ((subS a b c d).2.1)] := Blk.steps (by (repeat' first | with_reducible assumption | (with_reducible refine Blk.new' ?_; first | with_reducible rfl | (simp only [World.size_alloc, World.size_setCell, World.size_drew]; done)) | with_reducible refine Blk.alloc ?_ _ | with_reducible refine Blk.drew ?_ | with_reducible refine Blk.drewN ?_ _ | with_reducible apply Blk.both | with_reducible refine Blk.far' ?_ ?_ | (show _ ≠ _; omega))) st
  have nX5 : Blk w6 (w5.heap.size) 23 #[.int .i64 ((mulS a b c d).1), .int .i64 ((mulS a b c d).2.1)] := Blk.steps (by (repeat' first | with_reducible assumption | (with_reducible refine Blk.new' ?_; first | with_reducible rfl | (simp only [World.size_alloc, World.size_setCell, World.size_drew]; done)) | with_reducible refine Blk.alloc ?_ _ | with_reducible refine Blk.drew ?_ | with_reducible refine Blk.drewN ?_ _ | with_reducible apply Blk.both | with_reducible refine Blk.far' ?_ ?_ | (show _ ≠ _; omega))) st
  clear B oA oB oX1 oX2 oX3 oX4 cA0 cA1 lA cB0 cB1 lB st hb6
  have B := Bn
  clear Bn
  have oA := nA
  clear nA
  have oB := nB
  clear nB
  have oX1 := nX1
  clear nX1
  have oX2 := nX2
  clear nX2
  have oX3 := nX3
  clear nX3
  have oX4 := nX4
  clear nX4
  have oX5 := nX5
  clear nX5
  have cA0 : World.cell? w6 ⟨w.heap.size, 0, none⟩ = some (.int .i64 (a)) := oA.c 0 rfl
  have cA1 : World.cell? w6 ⟨w.heap.size, 1, none⟩ = some (.int .i64 (b)) := oA.c 1 rfl
  have lA := oA.lt
  have cB0 : World.cell? w6 ⟨w.heap.size + 1, 0, none⟩ = some (.int .i64 (c)) := oB.c 0 rfl
  have cB1 : World.cell? w6 ⟨w.heap.size + 1, 1, none⟩ = some (.int .i64 (d)) := oB.c 1 rfl
  have lB := oB.lt
  have dA_w6 : w.heap.size ≠ w6.heap.size := Nat.ne_of_lt oA.lt
  have dA_w6' := Ne.symm dA_w6
  have dB_w6 : w.heap.size + 1 ≠ w6.heap.size := Nat.ne_of_lt oB.lt
  have dB_w6' := Ne.symm dB_w6
  have dX1_w6 : w1.heap.size ≠ w6.heap.size := Nat.ne_of_lt oX1.lt
  have dX1_w6' := Ne.symm dX1_w6
  have dX2_w6 : w2.heap.size ≠ w6.heap.size := Nat.ne_of_lt oX2.lt
  have dX2_w6' := Ne.symm dX2_w6
  have dX3_w6 : w3.heap.size ≠ w6.heap.size := Nat.ne_of_lt oX3.lt
  have dX3_w6' := Ne.symm dX3_w6
  have dX4_w6 : w4.heap.size ≠ w6.heap.size := Nat.ne_of_lt oX4.lt
  have dX4_w6' := Ne.symm dX4_w6
  have dX5_w6 : w5.heap.size ≠ w6.heap.size := Nat.ne_of_lt oX5.lt
  have dX5_w6' := Ne.symm dX5_w6
  have s_w6 : w.heap.size ≤ w6.heap.size := Below.size B
  go_wp2_with fail
  refine (div_p a b c d _).mono ?_
  rintro e w7 ⟨rfl, hb7⟩
  have st : Steps _ w7 := hb7
  have Bn : Below w.heap.size w w7 := below_steps (by (repeat' first | with_reducible assumption | with_reducible exact Below.refl _ _ | with_reducible refine Below.alloc ?_ ?_ _ | with_reducible refine Below.drew ?_ | with_reducible refine belowN ?_ _ | with_reducible refine Below.setCell ?_ ?_ _ | go_size)) (Nat.le_refl _) st
  have nA : Blk w7 (w.heap.size) 23 #[.int .i64 (a), .int .i64 (b)] := Blk.steps (by (repeat' first | with_reducible assumption | (with_reducible refine Blk.new' ?_; first | with_reducible rfl | (simp only [World.size_alloc, World.size_setCell, World.size_drew]; done)) | with_reducible refine Blk.alloc ?_ _ | with_reducible refine Blk.drew ?_ | with_reducible refine Blk.drewN ?_ _ | with_reducible apply Blk.both | with_reducible refine Blk.far' ?_ ?_ | (show _ ≠ _; omega))) st
  have nB : Blk w7 (w.heap.size + 1) 23 #[.int .i64 (c), .int .i64 (d)] := Blk.steps (by (repeat' first | with_reducible assumption | (with_reducible refine Blk.new' ?_; first | with_reducible rfl | (simp only [World.size_alloc, World.size_setCell, World.size_drew]; done)) | with_reducible refine Blk.alloc ?_ _ | with_reducible refine Blk.drew ?_ | with_reducible refine Blk.drewN ?_ _ | with_reducible apply Blk.both | with_reducible refine Blk.far' ?_ ?_ | (show _ ≠ _; omega))) st
  have nX1 : Blk w7 (w1.heap.size) 23 #[.int .i64 ((addS a b c d).1), .int .i64 ((addS a b c d).2.1)] := Blk.steps (by (repeat' first | with_reducible assumption | (with_reducible refine Blk.new' ?_; first | with_reducible rfl | (simp only [World.size_alloc, World.size_setCell, World.size_drew]; done)) | with_reducible refine Blk.alloc ?_ _ | with_reducible refine Blk.drew ?_ | with_reducible refine Blk.drewN ?_ _ | with_reducible apply Blk.both | with_reducible refine Blk.far' ?_ ?_ | (show _ ≠ _; omega))) st
  have nX2 : Blk w7 (w2.heap.size) 23 #[.int .i64 ((addS a b c d).1), .int .i64 ((addS a b c d).2.1)] := Blk.steps (by (repeat' first | with_reducible assumption | (with_reducible refine Blk.new' ?_; first | with_reducible rfl | (simp only [World.size_alloc, World.size_setCell, World.size_drew]; done)) | with_reducible refine Blk.alloc ?_ _ | with_reducible refine Blk.drew ?_ | with_reducible refine Blk.drewN ?_ _ | with_reducible apply Blk.both | with_reducible refine Blk.far' ?_ ?_ | (show _ ≠ _; omega))) st
  have nX3 : Blk w7 (w3.heap.size) 23 #[.int .i64 ((subS a b c d).1), .int .i64 ((subS a b c d).2.1)] := Blk.steps (by (repeat' first | with_reducible assumption | (with_reducible refine Blk.new' ?_; first | with_reducible rfl | (simp only [World.size_alloc, World.size_setCell, World.size_drew]; done)) | with_reducible refine Blk.alloc ?_ _ | with_reducible refine Blk.drew ?_ | with_reducible refine Blk.drewN ?_ _ | with_reducible apply Blk.both | with_reducible refine Blk.far' ?_ ?_ | (show _ ≠ _; omega))) st
  have nX4 : Blk w7 (w4.heap.size) 23 #[.int .i64 ((subS a b c d).1), .int .i64 ((subS a b c d).2.1)] := Blk.steps (by (repeat' first | with_reducible assumption | (with_reducible refine Blk.new' ?_; first | with_reducible rfl | (simp only [World.size_alloc, World.size_setCell, World.size_drew]; done)) | with_reducible refine Blk.alloc ?_ _ | with_reducible refine Blk.drew ?_ | with_reducible refine Blk.drewN ?_ _ | with_reducible apply Blk.both | with_reducible refine Blk.far' ?_ ?_ | (show _ ≠ _; omega))) st
  have nX5 : Blk w7 (w5.heap.size) 23 #[.int .i64 ((mulS a b c d).1), .int .i64 ((mulS a b c d).2.1)] := Blk.steps (by (repeat' first | with_reducible assumption | (with_reducible refine Blk.new' ?_; first | with_reducible rfl | (simp only [World.size_alloc, World.size_setCell, World.size_drew]; done)) | with_reducible refine Blk.alloc ?_ _ | with_reducible refine Blk.drew ?_ | with_reducible refine Blk.drewN ?_ _ | with_reducible apply Blk.both | with_reducible refine Blk.far' ?_ ?_ | (show _ ≠ _; omega))) st
  have nX6 : Blk w7 (w6.heap.size) 23 #[.int .i64 ((mulS a b c d).1), .int .i64 ((mulS a b c d).2.1)] := Blk.steps (by (repeat' first | with_reducible assumption | (with_reducible refine Blk.new' ?_; first | with_reducible rfl | (simp only [World.size_alloc, World.size_setCell, World.size_drew]; done)) | with_reducible refine Blk.alloc ?_ _ | with_reducible refine Blk.drew ?_ | with_reducible refine Blk.drewN ?_ _ | with_reducible apply Blk.both | with_reducible refine Blk.far' ?_ ?_ | (show _ ≠ _; omega))) st
  clear B oA oB oX1 oX2 oX3 oX4 oX5 cA0 cA1 lA cB0 cB1 lB st hb7
  have B := Bn
  clear Bn
  have oA := nA
  clear nA
  have oB := nB
  clear nB
  have oX1 := nX1
  clear nX1
  have oX2 := nX2
  clear nX2
  have oX3 := nX3
  clear nX3
  have oX4 := nX4
  clear nX4
  have oX5 := nX5
  clear nX5
  have oX6 := nX6
  clear nX6
  have cA0 : World.cell? w7 ⟨w.heap.size, 0, none⟩ = some (.int .i64 (a)) := oA.c 0 rfl
  have cA1 : World.cell? w7 ⟨w.heap.size, 1, none⟩ = some (.int .i64 (b)) := oA.c 1 rfl
  have lA := oA.lt
  have cB0 : World.cell? w7 ⟨w.heap.size + 1, 0, none⟩ = some (.int .i64 (c)) := oB.c 0 rfl
  have cB1 : World.cell? w7 ⟨w.heap.size + 1, 1, none⟩ = some (.int .i64 (d)) := oB.c 1 rfl
  have lB := oB.lt
  have dA_w7 : w.heap.size ≠ w7.heap.size := Nat.ne_of_lt oA.lt
  have dA_w7' := Ne.symm dA_w7
  have dB_w7 : w.heap.size + 1 ≠ w7.heap.size := Nat.ne_of_lt oB.lt
  have dB_w7' := Ne.symm dB_w7
  have dX1_w7 : w1.heap.size ≠ w7.heap.size := Nat.ne_of_lt oX1.lt
  have dX1_w7' := Ne.symm dX1_w7
  have dX2_w7 : w2.heap.size ≠ w7.heap.size := Nat.ne_of_lt oX2.lt
  have dX2_w7' := Ne.symm dX2_w7
  have dX3_w7 : w3.heap.size ≠ w7.heap.size := Nat.ne_of_lt oX3.lt
  have dX3_w7' := Ne.symm dX3_w7
  have dX4_w7 : w4.heap.size ≠ w7.heap.size := Nat.ne_of_lt oX4.lt
  have dX4_w7' := Ne.symm dX4_w7
  have dX5_w7 : w5.heap.size ≠ w7.heap.size := Nat.ne_of_lt oX5.lt
  have dX5_w7' := Ne.symm dX5_w7
  have dX6_w7 : w6.heap.size ≠ w7.heap.size := Nat.ne_of_lt oX6.lt
  have dX6_w7' := Ne.symm dX6_w7
  have s_w7 : w.heap.size ≤ w7.heap.size := Below.size B
  go_wp2_with fail
  refine (rdiv a b c d _).mono ?_
  rintro e w8 ⟨rfl, hb8⟩
  have st : Steps _ w8 := hb8
  have Bn : Below w.heap.size w w8 := below_steps (by (repeat' first | with_reducible assumption | with_reducible exact Below.refl _ _ | with_reducible refine Below.alloc ?_ ?_ _ | with_reducible refine Below.drew ?_ | with_reducible refine belowN ?_ _ | with_reducible refine Below.setCell ?_ ?_ _ | go_size)) (Nat.le_refl _) st
  have nA : Blk w8 (w.heap.size) 23 #[.int .i64 (a), .int .i64 (b)] := Blk.steps (by (repeat' first | with_reducible assumption | (with_reducible refine Blk.new' ?_; first | with_reducible rfl | (simp only [World.size_alloc, World.size_setCell, World.size_drew]; done)) | with_reducible refine Blk.alloc ?_ _ | with_reducible refine Blk.drew ?_ | with_reducible refine Blk.drewN ?_ _ | with_reducible apply Blk.both | with_reducible refine Blk.far' ?_ ?_ | (show _ ≠ _; omega))) st
  have nB : Blk w8 (w.heap.size + 1) 23 #[.int .i64 (c), .int .i64 (d)] := Blk.steps (by (repeat' first | with_reducible assumption | (with_reducible refine Blk.new' ?_; first | with_reducible rfl | (simp only [World.size_alloc, World.size_setCell, World.size_drew]; done)) | with_reducible refine Blk.alloc ?_ _ | with_reducible refine Blk.drew ?_ | with_reducible refine Blk.drewN ?_ _ | with_reducible apply Blk.both | with_reducible refine Blk.far' ?_ ?_ | (show _ ≠ _; omega))) st
  have nX1 : Blk w8 (w1.heap.size) 23 #[.int .i64 ((addS a b c d).1), .int .i64 ((addS a b c d).2.1)] := Blk.steps (by (repeat' first | with_reducible assumption | (with_reducible refine Blk.new' ?_; first | with_reducible rfl | (simp only [World.size_alloc, World.size_setCell, World.size_drew]; done)) | with_reducible refine Blk.alloc ?_ _ | with_reducible refine Blk.drew ?_ | with_reducible refine Blk.drewN ?_ _ | with_reducible apply Blk.both | with_reducible refine Blk.far' ?_ ?_ | (show _ ≠ _; omega))) st
  have nX2 : Blk w8 (w2.heap.size) 23 #[.int .i64 ((addS a b c d).1), .int .i64 ((addS a b c d).2.1)] := Blk.steps (by (repeat' first | with_reducible assumption | (with_reducible refine Blk.new' ?_; first | with_reducible rfl | (simp only [World.size_alloc, World.size_setCell, World.size_drew]; done)) | with_reducible refine Blk.alloc ?_ _ | with_reducible refine Blk.drew ?_ | with_reducible refine Blk.drewN ?_ _ | with_reducible apply Blk.both | with_reducible refine Blk.far' ?_ ?_ | (show _ ≠ _; omega))) st
  have nX3 : Blk w8 (w3.heap.size) 23 #[.int .i64 ((subS a b c d).1), .int .i64 ((subS a b c d).2.1)] := Blk.steps (by (repeat' first | with_reducible assumption | (with_reducible refine Blk.new' ?_; first | with_reducible rfl | (simp only [World.size_alloc, World.size_setCell, World.size_drew]; done)) | with_reducible refine Blk.alloc ?_ _ | with_reducible refine Blk.drew ?_ | with_reducible refine Blk.drewN ?_ _ | with_reducible apply Blk.both | with_reducible refine Blk.far' ?_ ?_ | (show _ ≠ _; omega))) st
  have nX4 : Blk w8 (w4.heap.size) 23 #[.int .i64 ((subS a b c d).1), .int .i64 ((subS a b c d).2.1)] := Blk.steps (by (repeat' first | with_reducible assumption | (with_reducible refine Blk.new' ?_; first | with_reducible rfl | (simp only [World.size_alloc, World.size_setCell, World.size_drew]; done)) | with_reducible refine Blk.alloc ?_ _ | with_reducible refine Blk.drew ?_ | with_reducible refine Blk.drewN ?_ _ | with_reducible apply Blk.both | with_reducible refine Blk.far' ?_ ?_ | (show _ ≠ _; omega))) st
  have nX5 : Blk w8 (w5.heap.size) 23 #[.int .i64 ((mulS a b c d).1), .int .i64 ((mulS a b c d).2.1)] := Blk.steps (by (repeat' first | with_reducible assumption | (with_reducible refine Blk.new' ?_; first | with_reducible rfl | (simp only [World.size_alloc, World.size_setCell, World.size_drew]; done)) | with_reducible refine Blk.alloc ?_ _ | with_reducible refine Blk.drew ?_ | with_reducible refine Blk.drewN ?_ _ | with_reducible apply Blk.both | with_reducible refine Blk.far' ?_ ?_ | (show _ ≠ _; omega))) st
  have nX6 : Blk w8 (w6.heap.size) 23 #[.int .i64 ((mulS a b c d).1), .int .i64 ((mulS a b c d).2.1)] := Blk.steps (by (repeat' first | with_reducible assumption | (with_reducible refine Blk.new' ?_; first | with_reducible rfl | (simp only [World.size_alloc, World.size_setCell, World.size_drew]; done)) | with_reducible refine Blk.alloc ?_ _ | with_reducible refine Blk.drew ?_ | with_reducible refine Blk.drewN ?_ _ | with_reducible apply Blk.both | with_reducible refine Blk.far' ?_ ?_ | (show _ ≠ _; omega))) st
  have nX7 : Blk w8 (w7.heap.size) 23 #[.int .i64 ((divS a b c d).1), .int .i64 ((divS a b c d).2.1)] := Blk.steps (by (repeat' first | with_reducible assumption | (with_reducible refine Blk.new' ?_; first | with_reducible rfl | (simp only [World.size_alloc, World.size_setCell, World.size_drew]; done)) | with_reducible refine Blk.alloc ?_ _ | with_reducible refine Blk.drew ?_ | with_reducible refine Blk.drewN ?_ _ | with_reducible apply Blk.both | with_reducible refine Blk.far' ?_ ?_ | (show _ ≠ _; omega))) st
  clear B oA oB oX1 oX2 oX3 oX4 oX5 oX6 cA0 cA1 lA cB0 cB1 lB st hb8
  have B := Bn
  clear Bn
  have oA := nA
  clear nA
  have oB := nB
  clear nB
  have oX1 := nX1
  clear nX1
  have oX2 := nX2
  clear nX2
  have oX3 := nX3
  clear nX3
  have oX4 := nX4
  clear nX4
  have oX5 := nX5
  clear nX5
  have oX6 := nX6
  clear nX6
  have oX7 := nX7
  clear nX7
  have cA0 : World.cell? w8 ⟨w.heap.size, 0, none⟩ = some (.int .i64 (a)) := oA.c 0 rfl
  have cA1 : World.cell? w8 ⟨w.heap.size, 1, none⟩ = some (.int .i64 (b)) := oA.c 1 rfl
  have lA := oA.lt
  have cB0 : World.cell? w8 ⟨w.heap.size + 1, 0, none⟩ = some (.int .i64 (c)) := oB.c 0 rfl
  have cB1 : World.cell? w8 ⟨w.heap.size + 1, 1, none⟩ = some (.int .i64 (d)) := oB.c 1 rfl
  have lB := oB.lt
  have dA_w8 : w.heap.size ≠ w8.heap.size := Nat.ne_of_lt oA.lt
  have dA_w8' := Ne.symm dA_w8
  have dB_w8 : w.heap.size + 1 ≠ w8.heap.size := Nat.ne_of_lt oB.lt
  have dB_w8' := Ne.symm dB_w8
  have dX1_w8 : w1.heap.size ≠ w8.heap.size := Nat.ne_of_lt oX1.lt
  have dX1_w8' := Ne.symm dX1_w8
  have dX2_w8 : w2.heap.size ≠ w8.heap.size := Nat.ne_of_lt oX2.lt
  have dX2_w8' := Ne.symm dX2_w8
  have dX3_w8 : w3.heap.size ≠ w8.heap.size := Nat.ne_of_lt oX3.lt
  have dX3_w8' := Ne.symm dX3_w8
  have dX4_w8 : w4.heap.size ≠ w8.heap.size := Nat.ne_of_lt oX4.lt
  have dX4_w8' := Ne.symm dX4_w8
  have dX5_w8 : w5.heap.size ≠ w8.heap.size := Nat.ne_of_lt oX5.lt
  have dX5_w8' := Ne.symm dX5_w8
  have dX6_w8 : w6.heap.size ≠ w8.heap.size := Nat.ne_of_lt oX6.lt
  have dX6_w8' := Ne.symm dX6_w8
  have dX7_w8 : w7.heap.size ≠ w8.heap.size := Nat.ne_of_lt oX7.lt
  have dX7_w8' := Ne.symm dX7_w8
  have s_w8 : w.heap.size ≤ w8.heap.size := Below.size B
  go_upto_region 9 with fail
  refine Reg.wp_chain_plain (fun D v W => Below w.heap.size w W ∧ Blk W (w.heap.size) 23 #[.int .i64 (a), .int .i64 (b)] ∧ Blk W (w.heap.size + 1) 23 #[.int .i64 (c), .int .i64 (d)] ∧ Blk W (w1.heap.size) 23 #[.int .i64 ((addS a b c d).1), .int .i64 ((addS a b c d).2.1)] ∧ Blk W (w2.heap.size) 23 #[.int .i64 ((addS a b c d).1), .int .i64 ((addS a b c d).2.1)] ∧ Blk W (w3.heap.size) 23 #[.int .i64 ((subS a b c d).1), .int .i64 ((subS a b c d).2.1)] ∧ Blk W (w4.heap.size) 23 #[.int .i64 ((subS a b c d).1), .int .i64 ((subS a b c d).2.1)] ∧ Blk W (w5.heap.size) 23 #[.int .i64 ((mulS a b c d).1), .int .i64 ((mulS a b c d).2.1)] ∧ Blk W (w6.heap.size) 23 #[.int .i64 ((mulS a b c d).1), .int .i64 ((mulS a b c d).2.1)] ∧ Blk W (w7.heap.size) 23 #[.int .i64 ((divS a b c d).1), .int .i64 ((divS a b c d).2.1)] ∧ Blk W (w8.heap.size) 23 #[.int .i64 ((divS a b c d).1), .int .i64 ((divS a b c d).2.1)])
    (Reg.inl []) (Reg.ge []) Reg.None_ (fun _ => Reg.Any) (fun _ _ => False) (Reg.pl []) (Reg.pl [])
    (by kernel_rfl) (by kernel_rfl) (Reg.ge_some _) (fun v => ?_) (fun _ _ _ _ _ h => h) (fun _ _ _ _ _ _ _ _ _ _ _ _ _ => Reg.none_) (fun _ _ _ _ h => h.elim) (fun ops' Q' hops hQ => ?_)
  · exact ⟨(by (repeat' first | with_reducible assumption | with_reducible exact Below.refl _ _ | with_reducible refine Below.alloc ?_ ?_ _ | with_reducible refine Below.drew ?_ | with_reducible refine belowN ?_ _ | with_reducible refine Below.setCell ?_ ?_ _ | go_size)), (show Blk _ _ _ #[.int .i64 (a), .int .i64 (b)] from (by first | with_reducible exact oA | (repeat' first | with_reducible assumption | (with_reducible refine Blk.new' ?_; first | with_reducible rfl | (simp only [World.size_alloc, World.size_setCell, World.size_drew]; done)) | with_reducible refine Blk.alloc ?_ _ | with_reducible refine Blk.drew ?_ | with_reducible refine Blk.drewN ?_ _ | with_reducible apply Blk.both | with_reducible refine Blk.far' ?_ ?_ | (show _ ≠ _; omega)))), (show Blk _ _ _ #[.int .i64 (c), .int .i64 (d)] from (by first | with_reducible exact oB | (repeat' first | with_reducible assumption | (with_reducible refine Blk.new' ?_; first | with_reducible rfl | (simp only [World.size_alloc, World.size_setCell, World.size_drew]; done)) | with_reducible refine Blk.alloc ?_ _ | with_reducible refine Blk.drew ?_ | with_reducible refine Blk.drewN ?_ _ | with_reducible apply Blk.both | with_reducible refine Blk.far' ?_ ?_ | (show _ ≠ _; omega)))), (show Blk _ _ _ #[.int .i64 ((addS a b c d).1), .int .i64 ((addS a b c d).2.1)] from (by first | with_reducible exact oX1 | (repeat' first | with_reducible assumption | (with_reducible refine Blk.new' ?_; first | with_reducible rfl | (simp only [World.size_alloc, World.size_setCell, World.size_drew]; done)) | with_reducible refine Blk.alloc ?_ _ | with_reducible refine Blk.drew ?_ | with_reducible refine Blk.drewN ?_ _ | with_reducible apply Blk.both | with_reducible refine Blk.far' ?_ ?_ | (show _ ≠ _; omega)))), (show Blk _ _ _ #[.int .i64 ((addS a b c d).1), .int .i64 ((addS a b c d).2.1)] from (by first | with_reducible exact oX2 | (repeat' first | with_reducible assumption | (with_reducible refine Blk.new' ?_; first | with_reducible rfl | (simp only [World.size_alloc, World.size_setCell, World.size_drew]; done)) | with_reducible refine Blk.alloc ?_ _ | with_reducible refine Blk.drew ?_ | with_reducible refine Blk.drewN ?_ _ | with_reducible apply Blk.both | with_reducible refine Blk.far' ?_ ?_ | (show _ ≠ _; omega)))), (show Blk _ _ _ #[.int .i64 ((subS a b c d).1), .int .i64 ((subS a b c d).2.1)] from (by first | with_reducible exact oX3 | (repeat' first | with_reducible assumption | (with_reducible refine Blk.new' ?_; first | with_reducible rfl | (simp only [World.size_alloc, World.size_setCell, World.size_drew]; done)) | with_reducible refine Blk.alloc ?_ _ | with_reducible refine Blk.drew ?_ | with_reducible refine Blk.drewN ?_ _ | with_reducible apply Blk.both | with_reducible refine Blk.far' ?_ ?_ | (show _ ≠ _; omega)))), (show Blk _ _ _ #[.int .i64 ((subS a b c d).1), .int .i64 ((subS a b c d).2.1)] from (by first | with_reducible exact oX4 | (repeat' first | with_reducible assumption | (with_reducible refine Blk.new' ?_; first | with_reducible rfl | (simp only [World.size_alloc, World.size_setCell, World.size_drew]; done)) | with_reducible refine Blk.alloc ?_ _ | with_reducible refine Blk.drew ?_ | with_reducible refine Blk.drewN ?_ _ | with_reducible apply Blk.both | with_reducible refine Blk.far' ?_ ?_ | (show _ ≠ _; omega)))), (show Blk _ _ _ #[.int .i64 ((mulS a b c d).1), .int .i64 ((mulS a b c d).2.1)] from (by first | with_reducible exact oX5 | (repeat' first | with_reducible assumption | (with_reducible refine Blk.new' ?_; first | with_reducible rfl | (simp only [World.size_alloc, World.size_setCell, World.size_drew]; done)) | with_reducible refine Blk.alloc ?_ _ | with_reducible refine Blk.drew ?_ | with_reducible refine Blk.drewN ?_ _ | with_reducible apply Blk.both | with_reducible refine Blk.far' ?_ ?_ | (show _ ≠ _; omega)))), (show Blk _ _ _ #[.int .i64 ((mulS a b c d).1), .int .i64 ((mulS a b c d).2.1)] from (by first | with_reducible exact oX6 | (repeat' first | with_reducible assumption | (with_reducible refine Blk.new' ?_; first | with_reducible rfl | (simp only [World.size_alloc, World.size_setCell, World.size_drew]; done)) | with_reducible refine Blk.alloc ?_ _ | with_reducible refine Blk.drew ?_ | with_reducible refine Blk.drewN ?_ _ | with_reducible apply Blk.both | with_reducible refine Blk.far' ?_ ?_ | (show _ ≠ _; omega)))), (show Blk _ _ _ #[.int .i64 ((divS a b c d).1), .int .i64 ((divS a b c d).2.1)] from (by first | with_reducible exact oX7 | (repeat' first | with_reducible assumption | (with_reducible refine Blk.new' ?_; first | with_reducible rfl | (simp only [World.size_alloc, World.size_setCell, World.size_drew]; done)) | with_reducible refine Blk.alloc ?_ _ | with_reducible refine Blk.drew ?_ | with_reducible refine Blk.drewN ?_ _ | with_reducible apply Blk.both | with_reducible refine Blk.far' ?_ ?_ | (show _ ≠ _; omega)))), (show Blk _ _ _ #[.int .i64 ((divS a b c d).1), .int .i64 ((divS a b c d).2.1)] from (by first | with_reducible exact oX8 | (repeat' first | with_reducible assumption | (with_reducible refine Blk.new' ?_; first | with_reducible rfl | (simp only [World.size_alloc, World.size_setCell, World.size_drew]; done)) | with_reducible refine Blk.alloc ?_ _ | with_reducible refine Blk.drew ?_ | with_reducible refine Blk.drewN ?_ _ | with_reducible apply Blk.both | with_reducible refine Blk.far' ?_ ?_ | (show _ ≠ _; omega))))⟩
  clear B oA oB oX1 oX2 oX3 oX4 oX5 oX6 oX7
  apply Reg.RC_pure (hc := rfl) (hst := rfl) (hw := rfl) (t := 78) (hd := rfl) (ht := Nat.le_of_ble_eq_true rfl)
  · intro D v W hc hj hf K hK
    obtain ⟨B, oA, oB, oX1, oX2, oX3, oX4, oX5, oX6, oX7, oX8⟩ := hj
    have cX10 : World.cell? W ⟨w1.heap.size, 0, none⟩ = some (.int .i64 ((addS a b c d).1)) := oX1.c 0 rfl
    have cX11 : World.cell? W ⟨w1.heap.size, 1, none⟩ = some (.int .i64 ((addS a b c d).2.1)) := oX1.c 1 rfl
    go_step
    exact hK.out
  · rfl
  apply Reg.RC_pure (hc := rfl) (hst := rfl) (hw := rfl) (t := 79) (hd := rfl) (ht := Nat.le_of_ble_eq_true rfl)
  · intro D v W hc hj hf K hK
    obtain ⟨B, oA, oB, oX1, oX2, oX3, oX4, oX5, oX6, oX7, oX8⟩ := hj
    have cX20 : World.cell? W ⟨w2.heap.size, 0, none⟩ = some (.int .i64 ((addS a b c d).1)) := oX2.c 0 rfl
    have cX21 : World.cell? W ⟨w2.heap.size, 1, none⟩ = some (.int .i64 ((addS a b c d).2.1)) := oX2.c 1 rfl
    go_step
    exact hK.out
  · rfl
  apply Reg.RC_pure (hc := rfl) (hst := rfl) (hw := rfl) (t := 80) (hd := rfl) (ht := Nat.le_of_ble_eq_true rfl)
  · intro D v W hc hj hf K hK
    go_step
    exact hK.out
  · rfl
  apply Reg.RC_pure (hc := rfl) (hst := rfl) (hw := rfl) (t := 81) (hd := rfl) (ht := Nat.le_of_ble_eq_true rfl)
  · intro D v W hc hj hf K hK
    go_step
    exact hK.out
  · rfl
  apply Reg.RC_pure (hc := rfl) (hst := rfl) (hw := by rw [hops]; rfl) (t := 82) (hd := rfl) (ht := Nat.le_of_ble_eq_true rfl)
  · intro D v W hc hj hf K hK
    go_step
    exact hK.out
  · rfl
  apply Reg.RC_pure (hc := rfl) (hst := rfl) (hw := by rw [hops]; rfl) (t := 83) (hd := rfl) (ht := Nat.le_of_ble_eq_true rfl)
  · intro D v W hc hj hf K hK
    go_step
    exact hK.out
  · rfl
  apply Reg.RC_pure (hc := rfl) (hst := rfl) (hw := by rw [hops]; rfl) (t := 84) (hd := rfl) (ht := Nat.le_of_ble_eq_true rfl)
  · intro D v W hc hj hf K hK
    go_step
    exact hK.out
  · rfl
  apply Reg.RC_pure (hc := rfl) (hst := rfl) (hw := rfl) (t := 85) (hd := rfl) (ht := Nat.le_of_ble_eq_true rfl)
  · intro D v W hc hj hf K hK
    go_step
    exact hK.out
  · rfl
  apply Reg.RC_pure (hc := rfl) (hst := rfl) (hw := rfl) (t := 86) (hd := rfl) (ht := Nat.le_of_ble_eq_true rfl)
  · intro D v W hc hj hf K hK
    go_step
    exact hK.out
  · rfl
  apply Reg.RC_pure (hc := rfl) (hst := rfl) (hw := by rw [hops]; rfl) (t := 87) (hd := rfl) (ht := Nat.le_of_ble_eq_true rfl)
  · intro D v W hc hj hf K hK
    obtain ⟨B, oA, oB, oX1, oX2, oX3, oX4, oX5, oX6, oX7, oX8⟩ := hj
    have cX30 : World.cell? W ⟨w3.heap.size, 0, none⟩ = some (.int .i64 ((subS a b c d).1)) := oX3.c 0 rfl
    have cX31 : World.cell? W ⟨w3.heap.size, 1, none⟩ = some (.int .i64 ((subS a b c d).2.1)) := oX3.c 1 rfl
    go_step
    exact hK.out
  · rfl
  apply Reg.RC_pure (hc := rfl) (hst := rfl) (hw := by rw [hops]; rfl) (t := 88) (hd := rfl) (ht := Nat.le_of_ble_eq_true rfl)
  · intro D v W hc hj hf K hK
    obtain ⟨B, oA, oB, oX1, oX2, oX3, oX4, oX5, oX6, oX7, oX8⟩ := hj
    have cX40 : World.cell? W ⟨w4.heap.size, 0, none⟩ = some (.int .i64 ((subS a b c d).1)) := oX4.c 0 rfl
    have cX41 : World.cell? W ⟨w4.heap.size, 1, none⟩ = some (.int .i64 ((subS a b c d).2.1)) := oX4.c 1 rfl
    go_step
    exact hK.out
  · rfl
  apply Reg.RC_pure (hc := rfl) (hst := rfl) (hw := by rw [hops]; rfl) (t := 89) (hd := rfl) (ht := Nat.le_of_ble_eq_true rfl)
  · intro D v W hc hj hf K hK
    go_step
    exact hK.out
  · rfl
  apply Reg.RC_pure (hc := rfl) (hst := rfl) (hw := rfl) (t := 90) (hd := rfl) (ht := Nat.le_of_ble_eq_true rfl)
  · intro D v W hc hj hf K hK
    go_step
    exact hK.out
  · rfl
  apply Reg.RC_pure (hc := rfl) (hst := rfl) (hw := rfl) (t := 91) (hd := rfl) (ht := Nat.le_of_ble_eq_true rfl)
  · intro D v W hc hj hf K hK
    go_step
    exact hK.out
  · rfl
  apply Reg.RC_pure (hc := rfl) (hst := rfl) (hw := by rw [hops]; rfl) (t := 92) (hd := rfl) (ht := Nat.le_of_ble_eq_true rfl)
  · intro D v W hc hj hf K hK
    go_step
    exact hK.out
  · rfl
  apply Reg.RC_pure (hc := rfl) (hst := rfl) (hw := by rw [hops]; rfl) (t := 93) (hd := rfl) (ht := Nat.le_of_ble_eq_true rfl)
  · intro D v W hc hj hf K hK
    go_step
    exact hK.out
  · rfl
  apply Reg.RC_pure (hc := rfl) (hst := rfl) (hw := by rw [hops]; rfl) (t := 94) (hd := rfl) (ht := Nat.le_of_ble_eq_true rfl)
  · intro D v W hc hj hf K hK
    go_step
    exact hK.out
  · rfl
  apply Reg.RC_pure (hc := rfl) (hst := rfl) (hw := rfl) (t := 95) (hd := rfl) (ht := Nat.le_of_ble_eq_true rfl)
  · intro D v W hc hj hf K hK
    go_step
    exact hK.out
  · rfl
  apply Reg.RC_pure (hc := rfl) (hst := rfl) (hw := rfl) (t := 96) (hd := rfl) (ht := Nat.le_of_ble_eq_true rfl)
  · intro D v W hc hj hf K hK
    go_step
    exact hK.out
  · rfl
  apply Reg.RC_pure (hc := rfl) (hst := rfl) (hw := by rw [hops]; rfl) (t := 97) (hd := rfl) (ht := Nat.le_of_ble_eq_true rfl)
  · intro D v W hc hj hf K hK
    obtain ⟨B, oA, oB, oX1, oX2, oX3, oX4, oX5, oX6, oX7, oX8⟩ := hj
    have cX50 : World.cell? W ⟨w5.heap.size, 0, none⟩ = some (.int .i64 ((mulS a b c d).1)) := oX5.c 0 rfl
    have cX51 : World.cell? W ⟨w5.heap.size, 1, none⟩ = some (.int .i64 ((mulS a b c d).2.1)) := oX5.c 1 rfl
    go_step
    exact hK.out
  · rfl
  apply Reg.RC_pure (hc := rfl) (hst := rfl) (hw := by rw [hops]; rfl) (t := 98) (hd := rfl) (ht := Nat.le_of_ble_eq_true rfl)
  · intro D v W hc hj hf K hK
    obtain ⟨B, oA, oB, oX1, oX2, oX3, oX4, oX5, oX6, oX7, oX8⟩ := hj
    have cX60 : World.cell? W ⟨w6.heap.size, 0, none⟩ = some (.int .i64 ((mulS a b c d).1)) := oX6.c 0 rfl
    have cX61 : World.cell? W ⟨w6.heap.size, 1, none⟩ = some (.int .i64 ((mulS a b c d).2.1)) := oX6.c 1 rfl
    go_step
    exact hK.out
  · rfl
  apply Reg.RC_pure (hc := rfl) (hst := rfl) (hw := by rw [hops]; rfl) (t := 99) (hd := rfl) (ht := Nat.le_of_ble_eq_true rfl)
  · intro D v W hc hj hf K hK
    go_step
    exact hK.out
  · rfl
  apply Reg.RC_pure (hc := rfl) (hst := rfl) (hw := rfl) (t := 100) (hd := rfl) (ht := Nat.le_of_ble_eq_true rfl)
  · intro D v W hc hj hf K hK
    go_step
    exact hK.out
  · rfl
  apply Reg.RC_pure (hc := rfl) (hst := rfl) (hw := rfl) (t := 101) (hd := rfl) (ht := Nat.le_of_ble_eq_true rfl)
  · intro D v W hc hj hf K hK
    go_step
    exact hK.out
  · rfl
  apply Reg.RC_pure (hc := rfl) (hst := rfl) (hw := by rw [hops]; rfl) (t := 102) (hd := rfl) (ht := Nat.le_of_ble_eq_true rfl)
  · intro D v W hc hj hf K hK
    go_step
    exact hK.out
  · rfl
  apply Reg.RC_pure (hc := rfl) (hst := rfl) (hw := by rw [hops]; rfl) (t := 103) (hd := rfl) (ht := Nat.le_of_ble_eq_true rfl)
  · intro D v W hc hj hf K hK
    go_step
    exact hK.out
  · rfl
  apply Reg.RC_pure (hc := rfl) (hst := rfl) (hw := by rw [hops]; rfl) (t := 104) (hd := rfl) (ht := Nat.le_of_ble_eq_true rfl)
  · intro D v W hc hj hf K hK
    go_step
    exact hK.out
  · rfl
  apply Reg.RC_pure (hc := rfl) (hst := rfl) (hw := rfl) (t := 105) (hd := rfl) (ht := Nat.le_of_ble_eq_true rfl)
  · intro D v W hc hj hf K hK
    go_step
    exact hK.out
  · rfl
  apply Reg.RC_pure (hc := rfl) (hst := rfl) (hw := rfl) (t := 106) (hd := rfl) (ht := Nat.le_of_ble_eq_true rfl)
  · intro D v W hc hj hf K hK
    go_step
    exact hK.out
  · rfl
  apply Reg.RC_pure (hc := rfl) (hst := rfl) (hw := by rw [hops]; rfl) (t := 107) (hd := rfl) (ht := Nat.le_of_ble_eq_true rfl)
  · intro D v W hc hj hf K hK
    obtain ⟨B, oA, oB, oX1, oX2, oX3, oX4, oX5, oX6, oX7, oX8⟩ := hj
    have cX70 : World.cell? W ⟨w7.heap.size, 0, none⟩ = some (.int .i64 ((divS a b c d).1)) := oX7.c 0 rfl
    have cX71 : World.cell? W ⟨w7.heap.size, 1, none⟩ = some (.int .i64 ((divS a b c d).2.1)) := oX7.c 1 rfl
    go_step
    exact hK.out
  · rfl
  apply Reg.RC_pure (hc := rfl) (hst := rfl) (hw := by rw [hops]; rfl) (t := 108) (hd := rfl) (ht := Nat.le_of_ble_eq_true rfl)
  · intro D v W hc hj hf K hK
    obtain ⟨B, oA, oB, oX1, oX2, oX3, oX4, oX5, oX6, oX7, oX8⟩ := hj
    have cX80 : World.cell? W ⟨w8.heap.size, 0, none⟩ = some (.int .i64 ((divS a b c d).1)) := oX8.c 0 rfl
    have cX81 : World.cell? W ⟨w8.heap.size, 1, none⟩ = some (.int .i64 ((divS a b c d).2.1)) := oX8.c 1 rfl
    go_step
    exact hK.out
  · rfl
  apply Reg.RC_pure (hc := rfl) (hst := rfl) (hw := by rw [hops]; rfl) (t := 109) (hd := rfl) (ht := Nat.le_of_ble_eq_true rfl)
  · intro D v W hc hj hf K hK
    go_step
    exact hK.out
  · rfl
  apply Reg.RC_pure (hc := rfl) (hst := rfl) (hw := rfl) (t := 110) (hd := rfl) (ht := Nat.le_of_ble_eq_true rfl)
  · intro D v W hc hj hf K hK
    go_step
    exact hK.out
  · rfl
  apply Reg.RC_pure (hc := rfl) (hst := rfl) (hw := rfl) (t := 111) (hd := rfl) (ht := Nat.le_of_ble_eq_true rfl)
  · intro D v W hc hj hf K hK
    go_step
    exact hK.out
  · rfl
  apply Reg.RC_pure (hc := rfl) (hst := rfl) (hw := by rw [hops]; rfl) (t := 112) (hd := rfl) (ht := Nat.le_of_ble_eq_true rfl)
  · intro D v W hc hj hf K hK
    go_step
    exact hK.out
  · rfl
  apply Reg.RC_pure (hc := rfl) (hst := rfl) (hw := by rw [hops]; rfl) (t := 113) (hd := rfl) (ht := Nat.le_of_ble_eq_true rfl)
  · intro D v W hc hj hf K hK
    go_step
    exact hK.out
  · rfl
  apply Reg.RC_pure (hc := rfl) (hst := rfl) (hw := by rw [hops]; rfl) (t := 114) (hd := rfl) (ht := Nat.le_of_ble_eq_true rfl)
  · intro D v W hc hj hf K hK
    go_step
    exact hK.out
  · rfl
  apply Reg.RC_pure (hc := rfl) (hst := rfl) (hw := rfl) (t := 115) (hd := rfl) (ht := Nat.le_of_ble_eq_true rfl)
  · intro D v W hc hj hf K hK
    go_step
    exact hK.out
  · rfl
  refine Reg.RC_end (fun D v W hd hj hf => ?_)
  obtain ⟨B, oA, oB, oX1, oX2, oX3, oX4, oX5, oX6, oX7, oX8⟩ := hj
  clear hd hf
  refine hQ _ _ ?_
  clear hQ hops Q' ops'
  go_upto_region 11 with fail
  refine Reg.wp_chain_plain (fun D v W => Below w.heap.size w W ∧ Blk W (w.heap.size) 23 #[.int .i64 (a), .int .i64 (b)] ∧ Blk W (w.heap.size + 1) 23 #[.int .i64 (c), .int .i64 (d)] ∧ Blk W (w1.heap.size) 23 #[Reg.sel (D 6) (.int .i64 ((addS a b c d).1)) (.int .i64 ((minS a b c d).1)), Reg.sel (D 6) (.int .i64 ((addS a b c d).2.1)) (.int .i64 ((minS a b c d).2.1))] ∧ Blk W (w2.heap.size) 23 #[.int .i64 ((addS a b c d).1), .int .i64 ((addS a b c d).2.1)] ∧ Blk W (w3.heap.size) 23 #[.int .i64 ((subS a b c d).1), .int .i64 ((subS a b c d).2.1)] ∧ Blk W (w4.heap.size) 23 #[.int .i64 ((subS a b c d).1), .int .i64 ((subS a b c d).2.1)] ∧ Blk W (w5.heap.size) 23 #[.int .i64 ((mulS a b c d).1), .int .i64 ((mulS a b c d).2.1)] ∧ Blk W (w6.heap.size) 23 #[.int .i64 ((mulS a b c d).1), .int .i64 ((mulS a b c d).2.1)] ∧ Blk W (w7.heap.size) 23 #[.int .i64 ((divS a b c d).1), .int .i64 ((divS a b c d).2.1)] ∧ Blk W (w8.heap.size) 23 #[.int .i64 ((divS a b c d).1), .int .i64 ((divS a b c d).2.1)])
    (Reg.inl [2, 6]) (Reg.ge [(2, .tuple #[.agg #[.int .i64 ((minS a b c d).1), .int .i64 ((minS a b c d).2.1)], .int .i64 ((minS a b c d).2.2)])]) Reg.None_ (fun _ => Reg.Any) (fun _ _ => False) (Reg.pl []) (Reg.pl [])
    (by kernel_rfl) (by kernel_rfl) (Reg.ge_some _) (fun v => ?_) (fun _ _ _ _ _ h => h) (fun _ _ _ _ _ _ _ _ _ _ _ _ _ => Reg.none_) (fun _ _ _ _ h => h.elim) (fun ops' Q' hops hQ => ?_)
  · exact ⟨(by (repeat' first | with_reducible assumption | with_reducible exact Below.refl _ _ | with_reducible refine Below.alloc ?_ ?_ _ | with_reducible refine Below.drew ?_ | with_reducible refine belowN ?_ _ | with_reducible refine Below.setCell ?_ ?_ _ | go_size)), (show Blk _ _ _ #[.int .i64 (a), .int .i64 (b)] from (by first | with_reducible exact oA | (repeat' first | with_reducible assumption | (with_reducible refine Blk.new' ?_; first | with_reducible rfl | (simp only [World.size_alloc, World.size_setCell, World.size_drew]; done)) | with_reducible refine Blk.alloc ?_ _ | with_reducible refine Blk.drew ?_ | with_reducible refine Blk.drewN ?_ _ | with_reducible apply Blk.both | with_reducible refine Blk.far' ?_ ?_ | (show _ ≠ _; omega)))), (show Blk _ _ _ #[.int .i64 (c), .int .i64 (d)] from (by first | with_reducible exact oB | (repeat' first | with_reducible assumption | (with_reducible refine Blk.new' ?_; first | with_reducible rfl | (simp only [World.size_alloc, World.size_setCell, World.size_drew]; done)) | with_reducible refine Blk.alloc ?_ _ | with_reducible refine Blk.drew ?_ | with_reducible refine Blk.drewN ?_ _ | with_reducible apply Blk.both | with_reducible refine Blk.far' ?_ ?_ | (show _ ≠ _; omega)))), (show Blk _ _ _ #[.int .i64 ((addS a b c d).1), .int .i64 ((addS a b c d).2.1)] from (by first | with_reducible exact oX1 | (repeat' first | with_reducible assumption | (with_reducible refine Blk.new' ?_; first | with_reducible rfl | (simp only [World.size_alloc, World.size_setCell, World.size_drew]; done)) | with_reducible refine Blk.alloc ?_ _ | with_reducible refine Blk.drew ?_ | with_reducible refine Blk.drewN ?_ _ | with_reducible apply Blk.both | with_reducible refine Blk.far' ?_ ?_ | (show _ ≠ _; omega)))), (show Blk _ _ _ #[.int .i64 ((addS a b c d).1), .int .i64 ((addS a b c d).2.1)] from (by first | with_reducible exact oX2 | (repeat' first | with_reducible assumption | (with_reducible refine Blk.new' ?_; first | with_reducible rfl | (simp only [World.size_alloc, World.size_setCell, World.size_drew]; done)) | with_reducible refine Blk.alloc ?_ _ | with_reducible refine Blk.drew ?_ | with_reducible refine Blk.drewN ?_ _ | with_reducible apply Blk.both | with_reducible refine Blk.far' ?_ ?_ | (show _ ≠ _; omega)))), (show Blk _ _ _ #[.int .i64 ((subS a b c d).1), .int .i64 ((subS a b c d).2.1)] from (by first | with_reducible exact oX3 | (repeat' first | with_reducible assumption | (with_reducible refine Blk.new' ?_; first | with_reducible rfl | (simp only [World.size_alloc, World.size_setCell, World.size_drew]; done)) | with_reducible refine Blk.alloc ?_ _ | with_reducible refine Blk.drew ?_ | with_reducible refine Blk.drewN ?_ _ | with_reducible apply Blk.both | with_reducible refine Blk.far' ?_ ?_ | (show _ ≠ _; omega)))), (show Blk _ _ _ #[.int .i64 ((subS a b c d).1), .int .i64 ((subS a b c d).2.1)] from (by first | with_reducible exact oX4 | (repeat' first | with_reducible assumption | (with_reducible refine Blk.new' ?_; first | with_reducible rfl | (simp only [World.size_alloc, World.size_setCell, World.size_drew]; done)) | with_reducible refine Blk.alloc ?_ _ | with_reducible refine Blk.drew ?_ | with_reducible refine Blk.drewN ?_ _ | with_reducible apply Blk.both | with_reducible refine Blk.far' ?_ ?_ | (show _ ≠ _; omega)))), (show Blk _ _ _ #[.int .i64 ((mulS a b c d).1), .int .i64 ((mulS a b c d).2.1)] from (by first | with_reducible exact oX5 | (repeat' first | with_reducible assumption | (with_reducible refine Blk.new' ?_; first | with_reducible rfl | (simp only [World.size_alloc, World.size_setCell, World.size_drew]; done)) | with_reducible refine Blk.alloc ?_ _ | with_reducible refine Blk.drew ?_ | with_reducible refine Blk.drewN ?_ _ | with_reducible apply Blk.both | with_reducible refine Blk.far' ?_ ?_ | (show _ ≠ _; omega)))), (show Blk _ _ _ #[.int .i64 ((mulS a b c d).1), .int .i64 ((mulS a b c d).2.1)] from (by first | with_reducible exact oX6 | (repeat' first | with_reducible assumption | (with_reducible refine Blk.new' ?_; first | with_reducible rfl | (simp only [World.size_alloc, World.size_setCell, World.size_drew]; done)) | with_reducible refine Blk.alloc ?_ _ | with_reducible refine Blk.drew ?_ | with_reducible refine Blk.drewN ?_ _ | with_reducible apply Blk.both | with_reducible refine Blk.far' ?_ ?_ | (show _ ≠ _; omega)))), (show Blk _ _ _ #[.int .i64 ((divS a b c d).1), .int .i64 ((divS a b c d).2.1)] from (by first | with_reducible exact oX7 | (repeat' first | with_reducible assumption | (with_reducible refine Blk.new' ?_; first | with_reducible rfl | (simp only [World.size_alloc, World.size_setCell, World.size_drew]; done)) | with_reducible refine Blk.alloc ?_ _ | with_reducible refine Blk.drew ?_ | with_reducible refine Blk.drewN ?_ _ | with_reducible apply Blk.both | with_reducible refine Blk.far' ?_ ?_ | (show _ ≠ _; omega)))), (show Blk _ _ _ #[.int .i64 ((divS a b c d).1), .int .i64 ((divS a b c d).2.1)] from (by first | with_reducible exact oX8 | (repeat' first | with_reducible assumption | (with_reducible refine Blk.new' ?_; first | with_reducible rfl | (simp only [World.size_alloc, World.size_setCell, World.size_drew]; done)) | with_reducible refine Blk.alloc ?_ _ | with_reducible refine Blk.drew ?_ | with_reducible refine Blk.drewN ?_ _ | with_reducible apply Blk.both | with_reducible refine Blk.far' ?_ ?_ | (show _ ≠ _; omega))))⟩
  clear B oA oB oX1 oX2 oX3 oX4 oX5 oX6 oX7 oX8
  apply Reg.RC_pure (hc := rfl) (hst := rfl) (hw := rfl) (t := 117) (hd := rfl) (ht := Nat.le_of_ble_eq_true rfl)
  · intro D v W hc hj hf K hK
    obtain ⟨B, oA, oB, oX1, oX2, oX3, oX4, oX5, oX6, oX7, oX8⟩ := hj
    have cA0 : World.cell? W ⟨w.heap.size, 0, none⟩ = some (.int .i64 (a)) := oA.c 0 rfl
    have cA1 : World.cell? W ⟨w.heap.size, 1, none⟩ = some (.int .i64 (b)) := oA.c 1 rfl
    go_step
    exact hK.out
  · rfl
  apply Reg.RC_pure (hc := rfl) (hst := rfl) (hw := rfl) (t := 118) (hd := rfl) (ht := Nat.le_of_ble_eq_true rfl)
  · intro D v W hc hj hf K hK
    obtain ⟨B, oA, oB, oX1, oX2, oX3, oX4, oX5, oX6, oX7, oX8⟩ := hj
    have cB0 : World.cell? W ⟨w.heap.size + 1, 0, none⟩ = some (.int .i64 (c)) := oB.c 0 rfl
    have cB1 : World.cell? W ⟨w.heap.size + 1, 1, none⟩ = some (.int .i64 (d)) := oB.c 1 rfl
    go_step
    exact hK.out
  · rfl
  refine Reg.RC_exact _ (fun _ h => h) rfl (by intro t ht; cases ht; exact Nat.le_of_ble_eq_true rfl) rfl (fun D v W hc hj hf K hK => ?_) (Reg.RC_at (b := ⟨#[_, _, _, _, _, _, _, _, _, _, _, _, _, _, _, _, _, _, _, _, _, _, _, _, _, _, _, _, _, _, _, _, _, _, _, _, _, _, _, _, _, _, _, _, _, _, _, _, _, _, _, _, _, _, _, _, _, _, _, _, _, _, _, _, _, _, _, _, _, _, _, _, _, _, _, _, _, _, _, _, _, _, _, _, _, _, _, _, _, _, _, _, _, _, _, _, _, _, _, _, _, _, _, _, _, _, _, _, _, _, _, _, _, _, _, _, _, _, _, _, _, _, _, _, _, _, _, _, _, _, _, _, _, _, _, _, _, _, _, _, _, _, _, _, _, _, _, _, _, _, _, _, _, _, _, _, _, _, _, _, _, _, _, _, _, _, _, _, _, _, _, _, _, _, _, _, _, _, _, _, _, _, _, _, _, _, _, _, _, _, _, _, _, _, _, _, _, _, _, _, _, _, _, _, _, _, _, _, _, _, _, _, _, _, _, _, _, _, _, _, _, _, _, _, _, _, _, _, _, _, _, _, _, _, _, _, _, _, _, _, _, _, _, _, _, _, _], []⟩) rfl ?_)
  · obtain ⟨B, oA, oB, oX1, oX2, oX3, oX4, oX5, oX6, oX7, oX8⟩ := hj
    go_step
    refine (min_p a b c d _).mono ?_
    rintro e W' ⟨rfl, hb⟩
    have st : Steps W W' := hb
    exact hK.out _ _ Reg.any ⟨below_steps B (Nat.le_refl _) st, oA.steps st, oB.steps st, oX1.steps st, oX2.steps st, oX3.steps st, oX4.steps st, oX5.steps st, oX6.steps st, oX7.steps st, oX8.steps st⟩ Reg.none_ rfl
  apply Reg.RC_pure (hc := rfl) (hst := rfl) (hw := rfl) (t := 116) (hd := rfl) (ht := Nat.le_of_ble_eq_true rfl)
  · intro D v W hc hj hf K hK
    go_step
    exact hK.out
  · rfl
  apply Reg.RC_pure (hc := rfl) (hst := rfl) (hw := rfl) (t := 120) (hd := rfl) (ht := Nat.le_of_ble_eq_true rfl)
  · intro D v W hc hj hf K hK
    go_step
    exact hK.out
  · rfl
  apply Reg.RC_pure (hc := rfl) (hst := rfl) (hw := rfl) (t := 121) (hd := rfl) (ht := Nat.le_of_ble_eq_true rfl)
  · intro D v W hc hj hf K hK
    go_step
    exact hK.out
  · rfl
  refine Reg.RC_call rfl (by intro t ht; cases ht) rfl (fun D v W hc hj hf K hK => ?_) (fun _ _ => Reg.RC_at (b := ⟨_, []⟩) rfl ?_)
  · obtain ⟨B, oA, oB, oX1, oX2, oX3, oX4, oX5, oX6, oX7, oX8⟩ := hj
    have hs : D 6 = false := hc.1
    have oX1 : Blk W (w1.heap.size) 23 #[.int .i64 ((addS a b c d).1), .int .i64 ((addS a b c d).2.1)] := by have o := oX1; simp only [hs, Reg.sel_false] at o; exact o
    have lX1 := oX1.lt
    have fX1 := oX1.fr
    have cX10 : World.cell? W ⟨w1.heap.size, 0, none⟩ = some (.int .i64 ((addS a b c d).1)) := oX1.c 0 rfl
    have cX11 : World.cell? W ⟨w1.heap.size, 1, none⟩ = some (.int .i64 ((addS a b c d).2.1)) := oX1.c 1 rfl
    go_step
    exact hK.out undef _ Reg.any ⟨(by (repeat' first | with_reducible assumption | with_reducible exact Below.refl _ _ | with_reducible refine Below.alloc ?_ ?_ _ | with_reducible refine Below.drew ?_ | with_reducible refine belowN ?_ _ | with_reducible refine Below.setCell ?_ ?_ _ | go_size)), (show Blk _ _ _ #[.int .i64 (a), .int .i64 (b)] from (by (repeat' first | with_reducible assumption | (with_reducible refine Blk.new' ?_; first | with_reducible rfl | (simp only [World.size_alloc, World.size_setCell, World.size_drew]; done)) | with_reducible refine Blk.alloc ?_ _ | with_reducible refine Blk.drew ?_ | with_reducible refine Blk.drewN ?_ _ | with_reducible apply Blk.both | with_reducible refine Blk.far' ?_ ?_ | (show _ ≠ _; omega)))), (show Blk _ _ _ #[.int .i64 (c), .int .i64 (d)] from (by (repeat' first | with_reducible assumption | (with_reducible refine Blk.new' ?_; first | with_reducible rfl | (simp only [World.size_alloc, World.size_setCell, World.size_drew]; done)) | with_reducible refine Blk.alloc ?_ _ | with_reducible refine Blk.drew ?_ | with_reducible refine Blk.drewN ?_ _ | with_reducible apply Blk.both | with_reducible refine Blk.far' ?_ ?_ | (show _ ≠ _; omega)))), (show Blk _ _ _ #[.int .i64 ((minS a b c d).1), .int .i64 ((minS a b c d).2.1)] from (Blk.set2 (cs' := #[.int .i64 ((minS a b c d).1), .int .i64 ((minS a b c d).2.1)]) (Blk.set2 (cs' := #[.int .i64 ((minS a b c d).1), .int .i64 ((addS a b c d).2.1)]) oX1 (i := 0) rfl) (i := 1) rfl)), (show Blk _ _ _ #[.int .i64 ((addS a b c d).1), .int .i64 ((addS a b c d).2.1)] from (by (repeat' first | with_reducible assumption | (with_reducible refine Blk.new' ?_; first | with_reducible rfl | (simp only [World.size_alloc, World.size_setCell, World.size_drew]; done)) | with_reducible refine Blk.alloc ?_ _ | with_reducible refine Blk.drew ?_ | with_reducible refine Blk.drewN ?_ _ | with_reducible apply Blk.both | with_reducible refine Blk.far' ?_ ?_ | (show _ ≠ _; omega)))), (show Blk _ _ _ #[.int .i64 ((subS a b c d).1), .int .i64 ((subS a b c d).2.1)] from (by (repeat' first | with_reducible assumption | (with_reducible refine Blk.new' ?_; first | with_reducible rfl | (simp only [World.size_alloc, World.size_setCell, World.size_drew]; done)) | with_reducible refine Blk.alloc ?_ _ | with_reducible refine Blk.drew ?_ | with_reducible refine Blk.drewN ?_ _ | with_reducible apply Blk.both | with_reducible refine Blk.far' ?_ ?_ | (show _ ≠ _; omega)))), (show Blk _ _ _ #[.int .i64 ((subS a b c d).1), .int .i64 ((subS a b c d).2.1)] from (by (repeat' first | with_reducible assumption | (with_reducible refine Blk.new' ?_; first | with_reducible rfl | (simp only [World.size_alloc, World.size_setCell, World.size_drew]; done)) | with_reducible refine Blk.alloc ?_ _ | with_reducible refine Blk.drew ?_ | with_reducible refine Blk.drewN ?_ _ | with_reducible apply Blk.both | with_reducible refine Blk.far' ?_ ?_ | (show _ ≠ _; omega)))), (show Blk _ _ _ #[.int .i64 ((mulS a b c d).1), .int .i64 ((mulS a b c d).2.1)] from (by (repeat' first | with_reducible assumption | (with_reducible refine Blk.new' ?_; first | with_reducible rfl | (simp only [World.size_alloc, World.size_setCell, World.size_drew]; done)) | with_reducible refine Blk.alloc ?_ _ | with_reducible refine Blk.drew ?_ | with_reducible refine Blk.drewN ?_ _ | with_reducible apply Blk.both | with_reducible refine Blk.far' ?_ ?_ | (show _ ≠ _; omega)))), (show Blk _ _ _ #[.int .i64 ((mulS a b c d).1), .int .i64 ((mulS a b c d).2.1)] from (by (repeat' first | with_reducible assumption | (with_reducible refine Blk.new' ?_; first | with_reducible rfl | (simp only [World.size_alloc, World.size_setCell, World.size_drew]; done)) | with_reducible refine Blk.alloc ?_ _ | with_reducible refine Blk.drew ?_ | with_reducible refine Blk.drewN ?_ _ | with_reducible apply Blk.both | with_reducible refine Blk.far' ?_ ?_ | (show _ ≠ _; omega)))), (show Blk _ _ _ #[.int .i64 ((divS a b c d).1), .int .i64 ((divS a b c d).2.1)] from (by (repeat' first | with_reducible assumption | (with_reducible refine Blk.new' ?_; first | with_reducible rfl | (simp only [World.size_alloc, World.size_setCell, World.size_drew]; done)) | with_reducible refine Blk.alloc ?_ _ | with_reducible refine Blk.drew ?_ | with_reducible refine Blk.drewN ?_ _ | with_reducible apply Blk.both | with_reducible refine Blk.far' ?_ ?_ | (show _ ≠ _; omega)))), (show Blk _ _ _ #[.int .i64 ((divS a b c d).1), .int .i64 ((divS a b c d).2.1)] from (by (repeat' first | with_reducible assumption | (with_reducible refine Blk.new' ?_; first | with_reducible rfl | (simp only [World.size_alloc, World.size_setCell, World.size_drew]; done)) | with_reducible refine Blk.alloc ?_ _ | with_reducible refine Blk.drew ?_ | with_reducible refine Blk.drewN ?_ _ | with_reducible apply Blk.both | with_reducible refine Blk.far' ?_ ?_ | (show _ ≠ _; omega))))⟩ Reg.none_ trivial
  apply Reg.RC_pure (hc := rfl) (hst := rfl) (hw := rfl) (t := 6) (hd := rfl) (ht := Nat.le_of_ble_eq_true rfl)
  · intro D v W hc hj hf K hK
    go_step
    exact hK.out
  · rfl
  refine Reg.RC_end (fun D v W hd hj hf => ?_)
  obtain ⟨B, oA, oB, oX1, oX2, oX3, oX4, oX5, oX6, oX7, oX8⟩ := hj
  have e6 : D 6 = true := hd 6 (by decide)
  have oX1 : Blk W (w1.heap.size) 23 #[.int .i64 ((minS a b c d).1), .int .i64 ((minS a b c d).2.1)] := by have o := oX1; simp only [e6, Reg.sel_true] at o; exact o
  clear e6
  clear hd hf
  refine hQ _ _ ?_
  clear hQ hops Q' ops'
  go_upto_region 12 with fail
  refine Reg.wp_chain_plain (fun D v W => Below w.heap.size w W ∧ Blk W (w.heap.size) 23 #[.int .i64 (a), .int .i64 (b)] ∧ Blk W (w.heap.size + 1) 23 #[.int .i64 (c), .int .i64 (d)] ∧ Blk W (w1.heap.size) 23 #[.int .i64 ((minS a b c d).1), .int .i64 ((minS a b c d).2.1)] ∧ Blk W (w2.heap.size) 23 #[Reg.sel (D 6) (.int .i64 ((addS a b c d).1)) (.int .i64 ((minS a b c d).1)), Reg.sel (D 6) (.int .i64 ((addS a b c d).2.1)) (.int .i64 ((minS a b c d).2.1))] ∧ Blk W (w3.heap.size) 23 #[.int .i64 ((subS a b c d).1), .int .i64 ((subS a b c d).2.1)] ∧ Blk W (w4.heap.size) 23 #[.int .i64 ((subS a b c d).1), .int .i64 ((subS a b c d).2.1)] ∧ Blk W (w5.heap.size) 23 #[.int .i64 ((mulS a b c d).1), .int .i64 ((mulS a b c d).2.1)] ∧ Blk W (w6.heap.size) 23 #[.int .i64 ((mulS a b c d).1), .int .i64 ((mulS a b c d).2.1)] ∧ Blk W (w7.heap.size) 23 #[.int .i64 ((divS a b c d).1), .int .i64 ((divS a b c d).2.1)] ∧ Blk W (w8.heap.size) 23 #[.int .i64 ((divS a b c d).1), .int .i64 ((divS a b c d).2.1)])
    (Reg.inl [2, 6]) (Reg.ge [(2, .tuple #[.agg #[.int .i64 ((minS a b c d).1), .int .i64 ((minS a b c d).2.1)], .int .i64 ((minS a b c d).2.2)])]) Reg.None_ (fun _ => Reg.Any) (fun _ _ => False) (Reg.pl []) (Reg.pl [])
    (by kernel_rfl) (by kernel_rfl) (Reg.ge_some _) (fun v => ?_) (fun _ _ _ _ _ h => h) (fun _ _ _ _ _ _ _ _ _ _ _ _ _ => Reg.none_) (fun _ _ _ _ h => h.elim) (fun ops' Q' hops hQ => ?_)
  · exact ⟨(by (repeat' first | with_reducible assumption | with_reducible exact Below.refl _ _ | with_reducible refine Below.alloc ?_ ?_ _ | with_reducible refine Below.drew ?_ | with_reducible refine belowN ?_ _ | with_reducible refine Below.setCell ?_ ?_ _ | go_size)), (show Blk _ _ _ #[.int .i64 (a), .int .i64 (b)] from (by first | with_reducible exact oA | (repeat' first | with_reducible assumption | (with_reducible refine Blk.new' ?_; first | with_reducible rfl | (simp only [World.size_alloc, World.size_setCell, World.size_drew]; done)) | with_reducible refine Blk.alloc ?_ _ | with_reducible refine Blk.drew ?_ | with_reducible refine Blk.drewN ?_ _ | with_reducible apply Blk.both | with_reducible refine Blk.far' ?_ ?_ | (show _ ≠ _; omega)))), (show Blk _ _ _ #[.int .i64 (c), .int .i64 (d)] from (by first | with_reducible exact oB | (repeat' first | with_reducible assumption | (with_reducible refine Blk.new' ?_; first | with_reducible rfl | (simp only [World.size_alloc, World.size_setCell, World.size_drew]; done)) | with_reducible refine Blk.alloc ?_ _ | with_reducible refine Blk.drew ?_ | with_reducible refine Blk.drewN ?_ _ | with_reducible apply Blk.both | with_reducible refine Blk.far' ?_ ?_ | (show _ ≠ _; omega)))), (show Blk _ _ _ #[.int .i64 ((minS a b c d).1), .int .i64 ((minS a b c d).2.1)] from (by first | with_reducible exact oX1 | (repeat' first | with_reducible assumption | (with_reducible refine Blk.new' ?_; first | with_reducible rfl | (simp only [World.size_alloc, World.size_setCell, World.size_drew]; done)) | with_reducible refine Blk.alloc ?_ _ | with_reducible refine Blk.drew ?_ | with_reducible refine Blk.drewN ?_ _ | with_reducible apply Blk.both | with_reducible refine Blk.far' ?_ ?_ | (show _ ≠ _; omega)))), (show Blk _ _ _ #[.int .i64 ((addS a b c d).1), .int .i64 ((addS a b c d).2.1)] from (by first | with_reducible exact oX2 | (repeat' first | with_reducible assumption | (with_reducible refine Blk.new' ?_; first | with_reducible rfl | (simp only [World.size_alloc, World.size_setCell, World.size_drew]; done)) | with_reducible refine Blk.alloc ?_ _ | with_reducible refine Blk.drew ?_ | with_reducible refine Blk.drewN ?_ _ | with_reducible apply Blk.both | with_reducible refine Blk.far' ?_ ?_ | (show _ ≠ _; omega)))), (show Blk _ _ _ #[.int .i64 ((subS a b c d).1), .int .i64 ((subS a b c d).2.1)] from (by first | with_reducible exact oX3 | (repeat' first | with_reducible assumption | (with_reducible refine Blk.new' ?_; first | with_reducible rfl | (simp only [World.size_alloc, World.size_setCell, World.size_drew]; done)) | with_reducible refine Blk.alloc ?_ _ | with_reducible refine Blk.drew ?_ | with_reducible refine Blk.drewN ?_ _ | with_reducible apply Blk.both | with_reducible refine Blk.far' ?_ ?_ | (show _ ≠ _; omega)))), (show Blk _ _ _ #[.int .i64 ((subS a b c d).1), .int .i64 ((subS a b c d).2.1)] from (by first | with_reducible exact oX4 | (repeat' first | with_reducible assumption | (with_reducible refine Blk.new' ?_; first | with_reducible rfl | (simp only [World.size_alloc, World.size_setCell, World.size_drew]; done)) | with_reducible refine Blk.alloc ?_ _ | with_reducible refine Blk.drew ?_ | with_reducible refine Blk.drewN ?_ _ | with_reducible apply Blk.both | with_reducible refine Blk.far' ?_ ?_ | (show _ ≠ _; omega)))), (show Blk _ _ _ #[.int .i64 ((mulS a b c d).1), .int .i64 ((mulS a b c d).2.1)] from (by first | with_reducible exact oX5 | (repeat' first | with_reducible assumption | (with_reducible refine Blk.new' ?_; first | with_reducible rfl | (simp only [World.size_alloc, World.size_setCell, World.size_drew]; done)) | with_reducible refine Blk.alloc ?_ _ | with_reducible refine Blk.drew ?_ | with_reducible refine Blk.drewN ?_ _ | with_reducible apply Blk.both | with_reducible refine Blk.far' ?_ ?_ | (show _ ≠ _; omega)))), (show Blk _ _ _ #[.int .i64 ((mulS a b c d).1), .int .i64 ((mulS a b c d).2.1)] from (by first | with_reducible exact oX6 | (repeat' first | with_reducible assumption | (with_reducible refine Blk.new' ?_; first | with_reducible rfl | (simp only [World.size_alloc, World.size_setCell, World.size_drew]; done)) | with_reducible refine Blk.alloc ?_ _ | with_reducible refine Blk.drew ?_ | with_reducible refine Blk.drewN ?_ _ | with_reducible apply Blk.both | with_reducible refine Blk.far' ?_ ?_ | (show _ ≠ _; omega)))), (show Blk _ _ _ #[.int .i64 ((divS a b c d).1), .int .i64 ((divS a b c d).2.1)] from (by first | with_reducible exact oX7 | (repeat' first | with_reducible assumption | (with_reducible refine Blk.new' ?_; first | with_reducible rfl | (simp only [World.size_alloc, World.size_setCell, World.size_drew]; done)) | with_reducible refine Blk.alloc ?_ _ | with_reducible refine Blk.drew ?_ | with_reducible refine Blk.drewN ?_ _ | with_reducible apply Blk.both | with_reducible refine Blk.far' ?_ ?_ | (show _ ≠ _; omega)))), (show Blk _ _ _ #[.int .i64 ((divS a b c d).1), .int .i64 ((divS a b c d).2.1)] from (by first | with_reducible exact oX8 | (repeat' first | with_reducible assumption | (with_reducible refine Blk.new' ?_; first | with_reducible rfl | (simp only [World.size_alloc, World.size_setCell, World.size_drew]; done)) | with_reducible refine Blk.alloc ?_ _ | with_reducible refine Blk.drew ?_ | with_reducible refine Blk.drewN ?_ _ | with_reducible apply Blk.both | with_reducible refine Blk.far' ?_ ?_ | (show _ ≠ _; omega))))⟩
  clear B oA oB oX1 oX2 oX3 oX4 oX5 oX6 oX7 oX8
  apply Reg.RC_pure (hc := rfl) (hst := rfl) (hw := rfl) (t := 123) (hd := rfl) (ht := Nat.le_of_ble_eq_true rfl)
  · intro D v W hc hj hf K hK
    obtain ⟨B, oA, oB, oX1, oX2, oX3, oX4, oX5, oX6, oX7, oX8⟩ := hj
    have cA0 : World.cell? W ⟨w.heap.size, 0, none⟩ = some (.int .i64 (a)) := oA.c 0 rfl
    have cA1 : World.cell? W ⟨w.heap.size, 1, none⟩ = some (.int .i64 (b)) := oA.c 1 rfl
    go_step
    exact hK.out
  · rfl
  apply Reg.RC_pure (hc := rfl) (hst := rfl) (hw := rfl) (t := 124) (hd := rfl) (ht := Nat.le_of_ble_eq_true rfl)
  · intro D v W hc hj hf K hK
    obtain ⟨B, oA, oB, oX1, oX2, oX3, oX4, oX5, oX6, oX7, oX8⟩ := hj
    have cB0 : World.cell? W ⟨w.heap.size + 1, 0, none⟩ = some (.int .i64 (c)) := oB.c 0 rfl
    have cB1 : World.cell? W ⟨w.heap.size + 1, 1, none⟩ = some (.int .i64 (d)) := oB.c 1 rfl
    go_step
    exact hK.out
  · rfl
  refine Reg.RC_exact _ (fun _ h => h) rfl (by intro t ht; cases ht; exact Nat.le_of_ble_eq_true rfl) rfl (fun D v W hc hj hf K hK => ?_) (Reg.RC_at (b := ⟨#[_, _, _, _, _, _, _, _, _, _, _, _, _, _, _, _, _, _, _, _, _, _, _, _, _, _, _, _, _, _, _, _, _, _, _, _, _, _, _, _, _, _, _, _, _, _, _, _, _, _, _, _, _, _, _, _, _, _, _, _, _, _, _, _, _, _, _, _, _, _, _, _, _, _, _, _, _, _, _, _, _, _, _, _, _, _, _, _, _, _, _, _, _, _, _, _, _, _, _, _, _, _, _, _, _, _, _, _, _, _, _, _, _, _, _, _, _, _, _, _, _, _, _, _, _, _, _, _, _, _, _, _, _, _, _, _, _, _, _, _, _, _, _, _, _, _, _, _, _, _, _, _, _, _, _, _, _, _, _, _, _, _, _, _, _, _, _, _, _, _, _, _, _, _, _, _, _, _, _, _, _, _, _, _, _, _, _, _, _, _, _, _, _, _, _, _, _, _, _, _, _, _, _, _, _, _, _, _, _, _, _, _, _, _, _, _, _, _, _, _, _, _, _, _, _, _, _, _, _, _, _, _, _, _, _, _, _, _, _, _, _, _, _, _, _, _, _], []⟩) rfl ?_)
  · obtain ⟨B, oA, oB, oX1, oX2, oX3, oX4, oX5, oX6, oX7, oX8⟩ := hj
    go_step
    refine (rmin a b c d _).mono ?_
    rintro e W' ⟨rfl, hb⟩
    have st : Steps W W' := hb
    exact hK.out _ _ Reg.any ⟨below_steps B (Nat.le_refl _) st, oA.steps st, oB.steps st, oX1.steps st, oX2.steps st, oX3.steps st, oX4.steps st, oX5.steps st, oX6.steps st, oX7.steps st, oX8.steps st⟩ Reg.none_ rfl
  apply Reg.RC_pure (hc := rfl) (hst := rfl) (hw := rfl) (t := 122) (hd := rfl) (ht := Nat.le_of_ble_eq_true rfl)
  · intro D v W hc hj hf K hK
    go_step
    exact hK.out
  · rfl
  apply Reg.RC_pure (hc := rfl) (hst := rfl) (hw := rfl) (t := 126) (hd := rfl) (ht := Nat.le_of_ble_eq_true rfl)
  · intro D v W hc hj hf K hK
    go_step
    exact hK.out
  · rfl
  apply Reg.RC_pure (hc := rfl) (hst := rfl) (hw := rfl) (t := 127) (hd := rfl) (ht := Nat.le_of_ble_eq_true rfl)
  · intro D v W hc hj hf K hK
    go_step
    exact hK.out
  · rfl
  refine Reg.RC_call rfl (by intro t ht; cases ht) rfl (fun D v W hc hj hf K hK => ?_) (fun _ _ => Reg.RC_at (b := ⟨_, []⟩) rfl ?_)
  · obtain ⟨B, oA, oB, oX1, oX2, oX3, oX4, oX5, oX6, oX7, oX8⟩ := hj
    have hs : D 6 = false := hc.1
    have oX2 : Blk W (w2.heap.size) 23 #[.int .i64 ((addS a b c d).1), .int .i64 ((addS a b c d).2.1)] := by have o := oX2; simp only [hs, Reg.sel_false] at o; exact o
    have lX2 := oX2.lt
    have fX2 := oX2.fr
    have cX20 : World.cell? W ⟨w2.heap.size, 0, none⟩ = some (.int .i64 ((addS a b c d).1)) := oX2.c 0 rfl
    have cX21 : World.cell? W ⟨w2.heap.size, 1, none⟩ = some (.int .i64 ((addS a b c d).2.1)) := oX2.c 1 rfl
    go_step
    exact hK.out undef _ Reg.any ⟨(by (repeat' first | with_reducible assumption | with_reducible exact Below.refl _ _ | with_reducible refine Below.alloc ?_ ?_ _ | with_reducible refine Below.drew ?_ | with_reducible refine belowN ?_ _ | with_reducible refine Below.setCell ?_ ?_ _ | go_size)), (show Blk _ _ _ #[.int .i64 (a), .int .i64 (b)] from (by (repeat' first | with_reducible assumption | (with_reducible refine Blk.new' ?_; first | with_reducible rfl | (simp only [World.size_alloc, World.size_setCell, World.size_drew]; done)) | with_reducible refine Blk.alloc ?_ _ | with_reducible refine Blk.drew ?_ | with_reducible refine Blk.drewN ?_ _ | with_reducible apply Blk.both | with_reducible refine Blk.far' ?_ ?_ | (show _ ≠ _; omega)))), (show Blk _ _ _ #[.int .i64 (c), .int .i64 (d)] from (by (repeat' first | with_reducible assumption | (with_reducible refine Blk.new' ?_; first | with_reducible rfl | (simp only [World.size_alloc, World.size_setCell, World.size_drew]; done)) | with_reducible refine Blk.alloc ?_ _ | with_reducible refine Blk.drew ?_ | with_reducible refine Blk.drewN ?_ _ | with_reducible apply Blk.both | with_reducible refine Blk.far' ?_ ?_ | (show _ ≠ _; omega)))), (show Blk _ _ _ #[.int .i64 ((minS a b c d).1), .int .i64 ((minS a b c d).2.1)] from (by (repeat' first | with_reducible assumption | (with_reducible refine Blk.new' ?_; first | with_reducible rfl | (simp only [World.size_alloc, World.size_setCell, World.size_drew]; done)) | with_reducible refine Blk.alloc ?_ _ | with_reducible refine Blk.drew ?_ | with_reducible refine Blk.drewN ?_ _ | with_reducible apply Blk.both | with_reducible refine Blk.far' ?_ ?_ | (show _ ≠ _; omega)))), (show Blk _ _ _ #[.int .i64 ((minS a b c d).1), .int .i64 ((minS a b c d).2.1)] from (Blk.set2 (cs' := #[.int .i64 ((minS a b c d).1), .int .i64 ((minS a b c d).2.1)]) (Blk.set2 (cs' := #[.int .i64 ((minS a b c d).1), .int .i64 ((addS a b c d).2.1)]) oX2 (i := 0) rfl) (i := 1) rfl)), (show Blk _ _ _ #[.int .i64 ((subS a b c d).1), .int .i64 ((subS a b c d).2.1)] from (by (repeat' first | with_reducible assumption | (with_reducible refine Blk.new' ?_; first | with_reducible rfl | (simp only [World.size_alloc, World.size_setCell, World.size_drew]; done)) | with_reducible refine Blk.alloc ?_ _ | with_reducible refine Blk.drew ?_ | with_reducible refine Blk.drewN ?_ _ | with_reducible apply Blk.both | with_reducible refine Blk.far' ?_ ?_ | (show _ ≠ _; omega)))), (show Blk _ _ _ #[.int .i64 ((subS a b c d).1), .int .i64 ((subS a b c d).2.1)] from (by (repeat' first | with_reducible assumption | (with_reducible refine Blk.new' ?_; first | with_reducible rfl | (simp only [World.size_alloc, World.size_setCell, World.size_drew]; done)) | with_reducible refine Blk.alloc ?_ _ | with_reducible refine Blk.drew ?_ | with_reducible refine Blk.drewN ?_ _ | with_reducible apply Blk.both | with_reducible refine Blk.far' ?_ ?_ | (show _ ≠ _; omega)))), (show Blk _ _ _ #[.int .i64 ((mulS a b c d).1), .int .i64 ((mulS a b c d).2.1)] from (by (repeat' first | with_reducible assumption | (with_reducible refine Blk.new' ?_; first | with_reducible rfl | (simp only [World.size_alloc, World.size_setCell, World.size_drew]; done)) | with_reducible refine Blk.alloc ?_ _ | with_reducible refine Blk.drew ?_ | with_reducible refine Blk.drewN ?_ _ | with_reducible apply Blk.both | with_reducible refine Blk.far' ?_ ?_ | (show _ ≠ _; omega)))), (show Blk _ _ _ #[.int .i64 ((mulS a b c d).1), .int .i64 ((mulS a b c d).2.1)] from (by (repeat' first | with_reducible assumption | (with_reducible refine Blk.new' ?_; first | with_reducible rfl | (simp only [World.size_alloc, World.size_setCell, World.size_drew]; done)) | with_reducible refine Blk.alloc ?_ _ | with_reducible refine Blk.drew ?_ | with_reducible refine Blk.drewN ?_ _ | with_reducible apply Blk.both | with_reducible refine Blk.far' ?_ ?_ | (show _ ≠ _; omega)))), (show Blk _ _ _ #[.int .i64 ((divS a b c d).1), .int .i64 ((divS a b c d).2.1)] from (by (repeat' first | with_reducible assumption | (with_reducible refine Blk.new' ?_; first | with_reducible rfl | (simp only [World.size_alloc, World.size_setCell, World.size_drew]; done)) | with_reducible refine Blk.alloc ?_ _ | with_reducible refine Blk.drew ?_ | with_reducible refine Blk.drewN ?_ _ | with_reducible apply Blk.both | with_reducible refine Blk.far' ?_ ?_ | (show _ ≠ _; omega)))), (show Blk _ _ _ #[.int .i64 ((divS a b c d).1), .int .i64 ((divS a b c d).2.1)] from (by (repeat' first | with_reducible assumption | (with_reducible refine Blk.new' ?_; first | with_reducible rfl | (simp only [World.size_alloc, World.size_setCell, World.size_drew]; done)) | with_reducible refine Blk.alloc ?_ _ | with_reducible refine Blk.drew ?_ | with_reducible refine Blk.drewN ?_ _ | with_reducible apply Blk.both | with_reducible refine Blk.far' ?_ ?_ | (show _ ≠ _; omega))))⟩ Reg.none_ trivial
  apply Reg.RC_pure (hc := rfl) (hst := rfl) (hw := rfl) (t := 8) (hd := rfl) (ht := Nat.le_of_ble_eq_true rfl)
  · intro D v W hc hj hf K hK
    go_step
    exact hK.out
  · rfl
  refine Reg.RC_end (fun D v W hd hj hf => ?_)
  obtain ⟨B, oA, oB, oX1, oX2, oX3, oX4, oX5, oX6, oX7, oX8⟩ := hj
  have e6 : D 6 = true := hd 6 (by decide)
  have oX2 : Blk W (w2.heap.size) 23 #[.int .i64 ((minS a b c d).1), .int .i64 ((minS a b c d).2.1)] := by have o := oX2; simp only [e6, Reg.sel_true] at o; exact o
  clear e6
  clear hd hf
  refine hQ _ _ ?_
  clear hQ hops Q' ops'
  go_upto_region 13 with fail
  refine Reg.wp_chain_plain (fun D v W => Below w.heap.size w W ∧ Blk W (w.heap.size) 23 #[.int .i64 (a), .int .i64 (b)] ∧ Blk W (w.heap.size + 1) 23 #[.int .i64 (c), .int .i64 (d)] ∧ Blk W (w1.heap.size) 23 #[.int .i64 ((minS a b c d).1), .int .i64 ((minS a b c d).2.1)] ∧ Blk W (w2.heap.size) 23 #[.int .i64 ((minS a b c d).1), .int .i64 ((minS a b c d).2.1)] ∧ Blk W (w3.heap.size) 23 #[Reg.sel (D 6) (.int .i64 ((subS a b c d).1)) (.int .i64 ((maxS a b c d).1)), Reg.sel (D 6) (.int .i64 ((subS a b c d).2.1)) (.int .i64 ((maxS a b c d).2.1))] ∧ Blk W (w4.heap.size) 23 #[.int .i64 ((subS a b c d).1), .int .i64 ((subS a b c d).2.1)] ∧ Blk W (w5.heap.size) 23 #[.int .i64 ((mulS a b c d).1), .int .i64 ((mulS a b c d).2.1)] ∧ Blk W (w6.heap.size) 23 #[.int .i64 ((mulS a b c d).1), .int .i64 ((mulS a b c d).2.1)] ∧ Blk W (w7.heap.size) 23 #[.int .i64 ((divS a b c d).1), .int .i64 ((divS a b c d).2.1)] ∧ Blk W (w8.heap.size) 23 #[.int .i64 ((divS a b c d).1), .int .i64 ((divS a b c d).2.1)])
    (Reg.inl [2, 6]) (Reg.ge [(2, .tuple #[.agg #[.int .i64 ((maxS a b c d).1), .int .i64 ((maxS a b c d).2.1)], .int .i64 ((maxS a b c d).2.2)])]) Reg.None_ (fun _ => Reg.Any) (fun _ _ => False) (Reg.pl []) (Reg.pl [])
    (by kernel_rfl) (by kernel_rfl) (Reg.ge_some _) (fun v => ?_) (fun _ _ _ _ _ h => h) (fun _ _ _ _ _ _ _ _ _ _ _ _ _ => Reg.none_) (fun _ _ _ _ h => h.elim) (fun ops' Q' hops hQ => ?_)
  · exact ⟨(by (repeat' first | with_reducible assumption | with_reducible exact Below.refl _ _ | with_reducible refine Below.alloc ?_ ?_ _ | with_reducible refine Below.drew ?_ | with_reducible refine belowN ?_ _ | with_reducible refine Below.setCell ?_ ?_ _ | go_size)), (show Blk _ _ _ #[.int .i64 (a), .int .i64 (b)] from (by first | with_reducible exact oA | (repeat' first | with_reducible assumption | (with_reducible refine Blk.new' ?_; first | with_reducible rfl | (simp only [World.size_alloc, World.size_setCell, World.size_drew]; done)) | with_reducible refine Blk.alloc ?_ _ | with_reducible refine Blk.drew ?_ | with_reducible refine Blk.drewN ?_ _ | with_reducible apply Blk.both | with_reducible refine Blk.far' ?_ ?_ | (show _ ≠ _; omega)))), (show Blk _ _ _ #[.int .i64 (c), .int .i64 (d)] from (by first | with_reducible exact oB | (repeat' first | with_reducible assumption | (with_reducible refine Blk.new' ?_; first | with_reducible rfl | (simp only [World.size_alloc, World.size_setCell, World.size_drew]; done)) | with_reducible refine Blk.alloc ?_ _ | with_reducible refine Blk.drew ?_ | with_reducible refine Blk.drewN ?_ _ | with_reducible apply Blk.both | with_reducible refine Blk.far' ?_ ?_ | (show _ ≠ _; omega)))), (show Blk _ _ _ #[.int .i64 ((minS a b c d).1), .int .i64 ((minS a b c d).2.1)] from (by first | with_reducible exact oX1 | (repeat' first | with_reducible assumption | (with_reducible refine Blk.new' ?_; first | with_reducible rfl | (simp only [World.size_alloc, World.size_setCell, World.size_drew]; done)) | with_reducible refine Blk.alloc ?_ _ | with_reducible refine Blk.drew ?_ | with_reducible refine Blk.drewN ?_ _ | with_reducible apply Blk.both | with_reducible refine Blk.far' ?_ ?_ | (show _ ≠ _; omega)))), (show Blk _ _ _ #[.int .i64 ((minS a b c d).1), .int .i64 ((minS a b c d).2.1)] from (by first | with_reducible exact oX2 | (repeat' first | with_reducible assumption | (with_reducible refine Blk.new' ?_; first | with_reducible rfl | (simp only [World.size_alloc, World.size_setCell, World.size_drew]; done)) | with_reducible refine Blk.alloc ?_ _ | with_reducible refine Blk.drew ?_ | with_reducible refine Blk.drewN ?_ _ | with_reducible apply Blk.both | with_reducible refine Blk.far' ?_ ?_ | (show _ ≠ _; omega)))), (show Blk _ _ _ #[.int .i64 ((subS a b c d).1), .int .i64 ((subS a b c d).2.1)] from (by first | with_reducible exact oX3 | (repeat' first | with_reducible assumption | (with_reducible refine Blk.new' ?_; first | with_reducible rfl | (simp only [World.size_alloc, World.size_setCell, World.size_drew]; done)) | with_reducible refine Blk.alloc ?_ _ | with_reducible refine Blk.drew ?_ | with_reducible refine Blk.drewN ?_ _ | with_reducible apply Blk.both | with_reducible refine Blk.far' ?_ ?_ | (show _ ≠ _; omega)))), (show Blk _ _ _ #[.int .i64 ((subS a b c d).1), .int .i64 ((subS a b c d).2.1)] from (by first | with_reducible exact oX4 | (repeat' first | with_reducible assumption | (with_reducible refine Blk.new' ?_; first | with_reducible rfl | (simp only [World.size_alloc, World.size_setCell, World.size_drew]; done)) | with_reducible refine Blk.alloc ?_ _ | with_reducible refine Blk.drew ?_ | with_reducible refine Blk.drewN ?_ _ | with_reducible apply Blk.both | with_reducible refine Blk.far' ?_ ?_ | (show _ ≠ _; omega)))), (show Blk _ _ _ #[.int .i64 ((mulS a b c d).1), .int .i64 ((mulS a b c d).2.1)] from (by first | with_reducible exact oX5 | (repeat' first | with_reducible assumption | (with_reducible refine Blk.new' ?_; first | with_reducible rfl | (simp only [World.size_alloc, World.size_setCell, World.size_drew]; done)) | with_reducible refine Blk.alloc ?_ _ | with_reducible refine Blk.drew ?_ | with_reducible refine Blk.drewN ?_ _ | with_reducible apply Blk.both | with_reducible refine Blk.far' ?_ ?_ | (show _ ≠ _; omega)))), (show Blk _ _ _ #[.int .i64 ((mulS a b c d).1), .int .i64 ((mulS a b c d).2.1)] from (by first | with_reducible exact oX6 | (repeat' first | with_reducible assumption | (with_reducible refine Blk.new' ?_; first | with_reducible rfl | (simp only [World.size_alloc, World.size_setCell, World.size_drew]; done)) | with_reducible refine Blk.alloc ?_ _ | with_reducible refine Blk.drew ?_ | with_reducible refine Blk.drewN ?_ _ | with_reducible apply Blk.both | with_reducible refine Blk.far' ?_ ?_ | (show _ ≠ _; omega)))), (show Blk _ _ _ #[.int .i64 ((divS a b c d).1), .int .i64 ((divS a b c d).2.1)] from (by first | with_reducible exact oX7 | (repeat' first | with_reducible assumption | (with_reducible refine Blk.new' ?_; first | with_reducible rfl | (simp only [World.size_alloc, World.size_setCell, World.size_drew]; done)) | with_reducible refine Blk.alloc ?_ _ | with_reducible refine Blk.drew ?_ | with_reducible refine Blk.drewN ?_ _ | with_reducible apply Blk.both | with_reducible refine Blk.far' ?_ ?_ | (show _ ≠ _; omega)))), (show Blk _ _ _ #[.int .i64 ((divS a b c d).1), .int .i64 ((divS a b c d).2.1)] from (by first | with_reducible exact oX8 | (repeat' first | with_reducible assumption | (with_reducible refine Blk.new' ?_; first | with_reducible rfl | (simp only [World.size_alloc, World.size_setCell, World.size_drew]; done)) | with_reducible refine Blk.alloc ?_ _ | with_reducible refine Blk.drew ?_ | with_reducible refine Blk.drewN ?_ _ | with_reducible apply Blk.both | with_reducible refine Blk.far' ?_ ?_ | (show _ ≠ _; omega))))⟩
  clear B oA oB oX1 oX2 oX3 oX4 oX5 oX6 oX7 oX8
  apply Reg.RC_pure (hc := rfl) (hst := rfl) (hw := rfl) (t := 129) (hd := rfl) (ht := Nat.le_of_ble_eq_true rfl)
  · intro D v W hc hj hf K hK
    obtain ⟨B, oA, oB, oX1, oX2, oX3, oX4, oX5, oX6, oX7, oX8⟩ := hj
    have cA0 : World.cell? W ⟨w.heap.size, 0, none⟩ = some (.int .i64 (a)) := oA.c 0 rfl
    have cA1 : World.cell? W ⟨w.heap.size, 1, none⟩ = some (.int .i64 (b)) := oA.c 1 rfl
    go_step
    exact hK.out
  · rfl
  apply Reg.RC_pure (hc := rfl) (hst := rfl) (hw := rfl) (t := 130) (hd := rfl) (ht := Nat.le_of_ble_eq_true rfl)
  · intro D v W hc hj hf K hK
    obtain ⟨B, oA, oB, oX1, oX2, oX3, oX4, oX5, oX6, oX7, oX8⟩ := hj
    have cB0 : World.cell? W ⟨w.heap.size + 1, 0, none⟩ = some (.int .i64 (c)) := oB.c 0 rfl
    have cB1 : World.cell? W ⟨w.heap.size + 1, 1, none⟩ = some (.int .i64 (d)) := oB.c 1 rfl
    go_step
    exact hK.out
  · rfl
  refine Reg.RC_exact _ (fun _ h => h) rfl (by intro t ht; cases ht; exact Nat.le_of_ble_eq_true rfl) rfl (fun D v W hc hj hf K hK => ?_) (Reg.RC_at (b := ⟨#[_, _, _, _, _, _, _, _, _, _, _, _, _, _, _, _, _, _, _, _, _, _, _, _, _, _, _, _, _, _, _, _, _, _, _, _, _, _, _, _, _, _, _, _, _, _, _, _, _, _, _, _, _, _, _, _, _, _, _, _, _, _, _, _, _, _, _, _, _, _, _, _, _, _, _, _, _, _, _, _, _, _, _, _, _, _, _, _, _, _, _, _, _, _, _, _, _, _, _, _, _, _, _, _, _, _, _, _, _, _, _, _, _, _, _, _, _, _, _, _, _, _, _, _, _, _, _, _, _, _, _, _, _, _, _, _, _, _, _, _, _, _, _, _, _, _, _, _, _, _, _, _, _, _, _, _, _, _, _, _, _, _, _, _, _, _, _, _, _, _, _, _, _, _, _, _, _, _, _, _, _, _, _, _, _, _, _, _, _, _, _, _, _, _, _, _, _, _, _, _, _, _, _, _, _, _, _, _, _, _, _, _, _, _, _, _, _, _, _, _, _, _, _, _, _, _, _, _, _, _, _, _, _, _, _, _, _, _, _, _, _, _, _, _, _, _, _], []⟩) rfl ?_)
  · obtain ⟨B, oA, oB, oX1, oX2, oX3, oX4, oX5, oX6, oX7, oX8⟩ := hj
    go_step
    refine (max_p a b c d _).mono ?_
    rintro e W' ⟨rfl, hb⟩
    have st : Steps W W' := hb
    exact hK.out _ _ Reg.any ⟨below_steps B (Nat.le_refl _) st, oA.steps st, oB.steps st, oX1.steps st, oX2.steps st, oX3.steps st, oX4.steps st, oX5.steps st, oX6.steps st, oX7.steps st, oX8.steps st⟩ Reg.none_ rfl
  apply Reg.RC_pure (hc := rfl) (hst := rfl) (hw := rfl) (t := 128) (hd := rfl) (ht := Nat.le_of_ble_eq_true rfl)
  · intro D v W hc hj hf K hK
    go_step
    exact hK.out
  · rfl
  apply Reg.RC_pure (hc := rfl) (hst := rfl) (hw := rfl) (t := 132) (hd := rfl) (ht := Nat.le_of_ble_eq_true rfl)
  · intro D v W hc hj hf K hK
    go_step
    exact hK.out
  · rfl
  apply Reg.RC_pure (hc := rfl) (hst := rfl) (hw := rfl) (t := 133) (hd := rfl) (ht := Nat.le_of_ble_eq_true rfl)
  · intro D v W hc hj hf K hK
    go_step
    exact hK.out
  · rfl
  refine Reg.RC_call rfl (by intro t ht; cases ht) rfl (fun D v W hc hj hf K hK => ?_) (fun _ _ => Reg.RC_at (b := ⟨_, []⟩) rfl ?_)
  · obtain ⟨B, oA, oB, oX1, oX2, oX3, oX4, oX5, oX6, oX7, oX8⟩ := hj
    have hs : D 6 = false := hc.1
    have oX3 : Blk W (w3.heap.size) 23 #[.int .i64 ((subS a b c d).1), .int .i64 ((subS a b c d).2.1)] := by have o := oX3; simp only [hs, Reg.sel_false] at o; exact o
    have lX3 := oX3.lt
    have fX3 := oX3.fr
    have cX30 : World.cell? W ⟨w3.heap.size, 0, none⟩ = some (.int .i64 ((subS a b c d).1)) := oX3.c 0 rfl
    have cX31 : World.cell? W ⟨w3.heap.size, 1, none⟩ = some (.int .i64 ((subS a b c d).2.1)) := oX3.c 1 rfl
    go_step
    exact hK.out undef _ Reg.any ⟨(by (repeat' first | with_reducible assumption | with_reducible exact Below.refl _ _ | with_reducible refine Below.alloc ?_ ?_ _ | with_reducible refine Below.drew ?_ | with_reducible refine belowN ?_ _ | with_reducible refine Below.setCell ?_ ?_ _ | go_size)), (show Blk _ _ _ #[.int .i64 (a), .int .i64 (b)] from (by (repeat' first | with_reducible assumption | (with_reducible refine Blk.new' ?_; first | with_reducible rfl | (simp only [World.size_alloc, World.size_setCell, World.size_drew]; done)) | with_reducible refine Blk.alloc ?_ _ | with_reducible refine Blk.drew ?_ | with_reducible refine Blk.drewN ?_ _ | with_reducible apply Blk.both | with_reducible refine Blk.far' ?_ ?_ | (show _ ≠ _; omega)))), (show Blk _ _ _ #[.int .i64 (c), .int .i64 (d)] from (by (repeat' first | with_reducible assumption | (with_reducible refine Blk.new' ?_; first | with_reducible rfl | (simp only [World.size_alloc, World.size_setCell, World.size_drew]; done)) | with_reducible refine Blk.alloc ?_ _ | with_reducible refine Blk.drew ?_ | with_reducible refine Blk.drewN ?_ _ | with_reducible apply Blk.both | with_reducible refine Blk.far' ?_ ?_ | (show _ ≠ _; omega)))), (show Blk _ _ _ #[.int .i64 ((minS a b c d).1), .int .i64 ((minS a b c d).2.1)] from (by (repeat' first | with_reducible assumption | (with_reducible refine Blk.new' ?_; first | with_reducible rfl | (simp only [World.size_alloc, World.size_setCell, World.size_drew]; done)) | with_reducible refine Blk.alloc ?_ _ | with_reducible refine Blk.drew ?_ | with_reducible refine Blk.drewN ?_ _ | with_reducible apply Blk.both | with_reducible refine Blk.far' ?_ ?_ | (show _ ≠ _; omega)))), (show Blk _ _ _ #[.int .i64 ((minS a b c d).1), .int .i64 ((minS a b c d).2.1)] from (by (repeat' first | with_reducible assumption | (with_reducible refine Blk.new' ?_; first | with_reducible rfl | (simp only [World.size_alloc, World.size_setCell, World.size_drew]; done)) | with_reducible refine Blk.alloc ?_ _ | with_reducible refine Blk.drew ?_ | with_reducible refine Blk.drewN ?_ _ | with_reducible apply Blk.both | with_reducible refine Blk.far' ?_ ?_ | (show _ ≠ _; omega)))), (show Blk _ _ _ #[.int .i64 ((maxS a b c d).1), .int .i64 ((maxS a b c d).2.1)] from (Blk.set2 (cs' := #[.int .i64 ((maxS a b c d).1), .int .i64 ((maxS a b c d).2.1)]) (Blk.set2 (cs' := #[.int .i64 ((maxS a b c d).1), .int .i64 ((subS a b c d).2.1)]) oX3 (i := 0) rfl) (i := 1) rfl)), (show Blk _ _ _ #[.int .i64 ((subS a b c d).1), .int .i64 ((subS a b c d).2.1)] from (by (repeat' first | with_reducible assumption | (with_reducible refine Blk.new' ?_; first | with_reducible rfl | (simp only [World.size_alloc, World.size_setCell, World.size_drew]; done)) | with_reducible refine Blk.alloc ?_ _ | with_reducible refine Blk.drew ?_ | with_reducible refine Blk.drewN ?_ _ | with_reducible apply Blk.both | with_reducible refine Blk.far' ?_ ?_ | (show _ ≠ _; omega)))), (show Blk _ _ _ #[.int .i64 ((mulS a b c d).1), .int .i64 ((mulS a b c d).2.1)] from (by (repeat' first | with_reducible assumption | (with_reducible refine Blk.new' ?_; first | with_reducible rfl | (simp only [World.size_alloc, World.size_setCell, World.size_drew]; done)) | with_reducible refine Blk.alloc ?_ _ | with_reducible refine Blk.drew ?_ | with_reducible refine Blk.drewN ?_ _ | with_reducible apply Blk.both | with_reducible refine Blk.far' ?_ ?_ | (show _ ≠ _; omega)))), (show Blk _ _ _ #[.int .i64 ((mulS a b c d).1), .int .i64 ((mulS a b c d).2.1)] from (by (repeat' first | with_reducible assumption | (with_reducible refine Blk.new' ?_; first | with_reducible rfl | (simp only [World.size_alloc, World.size_setCell, World.size_drew]; done)) | with_reducible refine Blk.alloc ?_ _ | with_reducible refine Blk.drew ?_ | with_reducible refine Blk.drewN ?_ _ | with_reducible apply Blk.both | with_reducible refine Blk.far' ?_ ?_ | (show _ ≠ _; omega)))), (show Blk _ _ _ #[.int .i64 ((divS a b c d).1), .int .i64 ((divS a b c d).2.1)] from (by (repeat' first | with_reducible assumption | (with_reducible refine Blk.new' ?_; first | with_reducible rfl | (simp only [World.size_alloc, World.size_setCell, World.size_drew]; done)) | with_reducible refine Blk.alloc ?_ _ | with_reducible refine Blk.drew ?_ | with_reducible refine Blk.drewN ?_ _ | with_reducible apply Blk.both | with_reducible refine Blk.far' ?_ ?_ | (show _ ≠ _; omega)))), (show Blk _ _ _ #[.int .i64 ((divS a b c d).1), .int .i64 ((divS a b c d).2.1)] from (by (repeat' first | with_reducible assumption | (with_reducible refine Blk.new' ?_; first | with_reducible rfl | (simp only [World.size_alloc, World.size_setCell, World.size_drew]; done)) | with_reducible refine Blk.alloc ?_ _ | with_reducible refine Blk.drew ?_ | with_reducible refine Blk.drewN ?_ _ | with_reducible apply Blk.both | with_reducible refine Blk.far' ?_ ?_ | (show _ ≠ _; omega))))⟩ Reg.none_ trivial
  apply Reg.RC_pure (hc := rfl) (hst := rfl) (hw := rfl) (t := 10) (hd := rfl) (ht := Nat.le_of_ble_eq_true rfl)
  · intro D v W hc hj hf K hK
    go_step
    exact hK.out
  · rfl
  refine Reg.RC_end (fun D v W hd hj hf => ?_)
  obtain ⟨B, oA, oB, oX1, oX2, oX3, oX4, oX5, oX6, oX7, oX8⟩ := hj
  have e6 : D 6 = true := hd 6 (by decide)
  have oX3 : Blk W (w3.heap.size) 23 #[.int .i64 ((maxS a b c d).1), .int .i64 ((maxS a b c d).2.1)] := by have o := oX3; simp only [e6, Reg.sel_true] at o; exact o
  clear e6
  clear hd hf
  refine hQ _ _ ?_
  clear hQ hops Q' ops'
  go_upto_region 14 with fail
  refine Reg.wp_chain_plain (fun D v W => Below w.heap.size w W ∧ Blk W (w.heap.size) 23 #[.int .i64 (a), .int .i64 (b)] ∧ Blk W (w.heap.size + 1) 23 #[.int .i64 (c), .int .i64 (d)] ∧ Blk W (w1.heap.size) 23 #[.int .i64 ((minS a b c d).1), .int .i64 ((minS a b c d).2.1)] ∧ Blk W (w2.heap.size) 23 #[.int .i64 ((minS a b c d).1), .int .i64 ((minS a b c d).2.1)] ∧ Blk W (w3.heap.size) 23 #[.int .i64 ((maxS a b c d).1), .int .i64 ((maxS a b c d).2.1)] ∧ Blk W (w4.heap.size) 23 #[Reg.sel (D 6) (.int .i64 ((subS a b c d).1)) (.int .i64 ((maxS a b c d).1)), Reg.sel (D 6) (.int .i64 ((subS a b c d).2.1)) (.int .i64 ((maxS a b c d).2.1))] ∧ Blk W (w5.heap.size) 23 #[.int .i64 ((mulS a b c d).1), .int .i64 ((mulS a b c d).2.1)] ∧ Blk W (w6.heap.size) 23 #[.int .i64 ((mulS a b c d).1), .int .i64 ((mulS a b c d).2.1)] ∧ Blk W (w7.heap.size) 23 #[.int .i64 ((divS a b c d).1), .int .i64 ((divS a b c d).2.1)] ∧ Blk W (w8.heap.size) 23 #[.int .i64 ((divS a b c d).1), .int .i64 ((divS a b c d).2.1)])
    (Reg.inl [2, 6]) (Reg.ge [(2, .tuple #[.agg #[.int .i64 ((maxS a b c d).1), .int .i64 ((maxS a b c d).2.1)], .int .i64 ((maxS a b c d).2.2)])]) Reg.None_ (fun _ => Reg.Any) (fun _ _ => False) (Reg.pl []) (Reg.pl [])
    (by kernel_rfl) (by kernel_rfl) (Reg.ge_some _) (fun v => ?_) (fun _ _ _ _ _ h => h) (fun _ _ _ _ _ _ _ _ _ _ _ _ _ => Reg.none_) (fun _ _ _ _ h => h.elim) (fun ops' Q' hops hQ => ?_)
  · exact ⟨(by (repeat' first | with_reducible assumption | with_reducible exact Below.refl _ _ | with_reducible refine Below.alloc ?_ ?_ _ | with_reducible refine Below.drew ?_ | with_reducible refine belowN ?_ _ | with_reducible refine Below.setCell ?_ ?_ _ | go_size)), (show Blk _ _ _ #[.int .i64 (a), .int .i64 (b)] from (by first | with_reducible exact oA | (repeat' first | with_reducible assumption | (with_reducible refine Blk.new' ?_; first | with_reducible rfl | (simp only [World.size_alloc, World.size_setCell, World.size_drew]; done)) | with_reducible refine Blk.alloc ?_ _ | with_reducible refine Blk.drew ?_ | with_reducible refine Blk.drewN ?_ _ | with_reducible apply Blk.both | with_reducible refine Blk.far' ?_ ?_ | (show _ ≠ _; omega)))), (show Blk _ _ _ #[.int .i64 (c), .int .i64 (d)] from (by first | with_reducible exact oB | (repeat' first | with_reducible assumption | (with_reducible refine Blk.new' ?_; first | with_reducible rfl | (simp only [World.size_alloc, World.size_setCell, World.size_drew]; done)) | with_reducible refine Blk.alloc ?_ _ | with_reducible refine Blk.drew ?_ | with_reducible refine Blk.drewN ?_ _ | with_reducible apply Blk.both | with_reducible refine Blk.far' ?_ ?_ | (show _ ≠ _; omega)))), (show Blk _ _ _ #[.int .i64 ((minS a b c d).1), .int .i64 ((minS a b c d).2.1)] from (by first | with_reducible exact oX1 | (repeat' first | with_reducible assumption | (with_reducible refine Blk.new' ?_; first | with_reducible rfl | (simp only [World.size_alloc, World.size_setCell, World.size_drew]; done)) | with_reducible refine Blk.alloc ?_ _ | with_reducible refine Blk.drew ?_ | with_reducible refine Blk.drewN ?_ _ | with_reducible apply Blk.both | with_reducible refine Blk.far' ?_ ?_ | (show _ ≠ _; omega)))), (show Blk _ _ _ #[.int .i64 ((minS a b c d).1), .int .i64 ((minS a b c d).2.1)] from (by first | with_reducible exact oX2 | (repeat' first | with_reducible assumption | (with_reducible refine Blk.new' ?_; first | with_reducible rfl | (simp only [World.size_alloc, World.size_setCell, World.size_drew]; done)) | with_reducible refine Blk.alloc ?_ _ | with_reducible refine Blk.drew ?_ | with_reducible refine Blk.drewN ?_ _ | with_reducible apply Blk.both | with_reducible refine Blk.far' ?_ ?_ | (show _ ≠ _; omega)))), (show Blk _ _ _ #[.int .i64 ((maxS a b c d).1), .int .i64 ((maxS a b c d).2.1)] from (by first | with_reducible exact oX3 | (repeat' first | with_reducible assumption | (with_reducible refine Blk.new' ?_; first | with_reducible rfl | (simp only [World.size_alloc, World.size_setCell, World.size_drew]; done)) | with_reducible refine Blk.alloc ?_ _ | with_reducible refine Blk.drew ?_ | with_reducible refine Blk.drewN ?_ _ | with_reducible apply Blk.both | with_reducible refine Blk.far' ?_ ?_ | (show _ ≠ _; omega)))), (show Blk _ _ _ #[.int .i64 ((subS a b c d).1), .int .i64 ((subS a b c d).2.1)] from (by first | with_reducible exact oX4 | (repeat' first | with_reducible assumption | (with_reducible refine Blk.new' ?_; first | with_reducible rfl | (simp only [World.size_alloc, World.size_setCell, World.size_drew]; done)) | with_reducible refine Blk.alloc ?_ _ | with_reducible refine Blk.drew ?_ | with_reducible refine Blk.drewN ?_ _ | with_reducible apply Blk.both | with_reducible refine Blk.far' ?_ ?_ | (show _ ≠ _; omega)))), (show Blk _ _ _ #[.int .i64 ((mulS a b c d).1), .int .i64 ((mulS a b c d).2.1)] from (by first | with_reducible exact oX5 | (repeat' first | with_reducible assumption | (with_reducible refine Blk.new' ?_; first | with_reducible rfl | (simp only [World.size_alloc, World.size_setCell, World.size_drew]; done)) | with_reducible refine Blk.alloc ?_ _ | with_reducible refine Blk.drew ?_ | with_reducible refine Blk.drewN ?_ _ | with_reducible apply Blk.both | with_reducible refine Blk.far' ?_ ?_ | (show _ ≠ _; omega)))), (show Blk _ _ _ #[.int .i64 ((mulS a b c d).1), .int .i64 ((mulS a b c d).2.1)] from (by first | with_reducible exact oX6 | (repeat' first | with_reducible assumption | (with_reducible refine Blk.new' ?_; first | with_reducible rfl | (simp only [World.size_alloc, World.size_setCell, World.size_drew]; done)) | with_reducible refine Blk.alloc ?_ _ | with_reducible refine Blk.drew ?_ | with_reducible refine Blk.drewN ?_ _ | with_reducible apply Blk.both | with_reducible refine Blk.far' ?_ ?_ | (show _ ≠ _; omega)))), (show Blk _ _ _ #[.int .i64 ((divS a b c d).1), .int .i64 ((divS a b c d).2.1)] from (by first | with_reducible exact oX7 | (repeat' first | with_reducible assumption | (with_reducible refine Blk.new' ?_; first | with_reducible rfl | (simp only [World.size_alloc, World.size_setCell, World.size_drew]; done)) | with_reducible refine Blk.alloc ?_ _ | with_reducible refine Blk.drew ?_ | with_reducible refine Blk.drewN ?_ _ | with_reducible apply Blk.both | with_reducible refine Blk.far' ?_ ?_ | (show _ ≠ _; omega)))), (show Blk _ _ _ #[.int .i64 ((divS a b c d).1), .int .i64 ((divS a b c d).2.1)] from (by first | with_reducible exact oX8 | (repeat' first | with_reducible assumption | (with_reducible refine Blk.new' ?_; first | with_reducible rfl | (simp only [World.size_alloc, World.size_setCell, World.size_drew]; done)) | with_reducible refine Blk.alloc ?_ _ | with_reducible refine Blk.drew ?_ | with_reducible refine Blk.drewN ?_ _ | with_reducible apply Blk.both | with_reducible refine Blk.far' ?_ ?_ | (show _ ≠ _; omega))))⟩
  clear B oA oB oX1 oX2 oX3 oX4 oX5 oX6 oX7 oX8
  apply Reg.RC_pure (hc := rfl) (hst := rfl) (hw := rfl) (t := 135) (hd := rfl) (ht := Nat.le_of_ble_eq_true rfl)
  · intro D v W hc hj hf K hK
    obtain ⟨B, oA, oB, oX1, oX2, oX3, oX4, oX5, oX6, oX7, oX8⟩ := hj
    have cA0 : World.cell? W ⟨w.heap.size, 0, none⟩ = some (.int .i64 (a)) := oA.c 0 rfl
    have cA1 : World.cell? W ⟨w.heap.size, 1, none⟩ = some (.int .i64 (b)) := oA.c 1 rfl
    go_step
    exact hK.out
  · rfl
  apply Reg.RC_pure (hc := rfl) (hst := rfl) (hw := rfl) (t := 136) (hd := rfl) (ht := Nat.le_of_ble_eq_true rfl)
  · intro D v W hc hj hf K hK
    obtain ⟨B, oA, oB, oX1, oX2, oX3, oX4, oX5, oX6, oX7, oX8⟩ := hj
    have cB0 : World.cell? W ⟨w.heap.size + 1, 0, none⟩ = some (.int .i64 (c)) := oB.c 0 rfl
    have cB1 : World.cell? W ⟨w.heap.size + 1, 1, none⟩ = some (.int .i64 (d)) := oB.c 1 rfl
    go_step
    exact hK.out
  · rfl
  refine Reg.RC_exact _ (fun _ h => h) rfl (by intro t ht; cases ht; exact Nat.le_of_ble_eq_true rfl) rfl (fun D v W hc hj hf K hK => ?_) (Reg.RC_at (b := ⟨#[_, _, _, _, _, _, _, _, _, _, _, _, _, _, _, _, _, _, _, _, _, _, _, _, _, _, _, _, _, _, _, _, _, _, _, _, _, _, _, _, _, _, _, _, _, _, _, _, _, _, _, _, _, _, _, _, _, _, _, _, _, _, _, _, _, _, _, _, _, _, _, _, _, _, _, _, _, _, _, _, _, _, _, _, _, _, _, _, _, _, _, _, _, _, _, _, _, _, _, _, _, _, _, _, _, _, _, _, _, _, _, _, _, _, _, _, _, _, _, _, _, _, _, _, _, _, _, _, _, _, _, _, _, _, _, _, _, _, _, _, _, _, _, _, _, _, _, _, _, _, _, _, _, _, _, _, _, _, _, _, _, _, _, _, _, _, _, _, _, _, _, _, _, _, _, _, _, _, _, _, _, _, _, _, _, _, _, _, _, _, _, _, _, _, _, _, _, _, _, _, _, _, _, _, _, _, _, _, _, _, _, _, _, _, _, _, _, _, _, _, _, _, _, _, _, _, _, _, _, _, _, _, _, _, _, _, _, _, _, _, _, _, _, _, _, _, _], []⟩) rfl ?_)
  · obtain ⟨B, oA, oB, oX1, oX2, oX3, oX4, oX5, oX6, oX7, oX8⟩ := hj
    go_step
    refine (rmax a b c d _).mono ?_
    rintro e W' ⟨rfl, hb⟩
    have st : Steps W W' := hb
    exact hK.out _ _ Reg.any ⟨below_steps B (Nat.le_refl _) st, oA.steps st, oB.steps st, oX1.steps st, oX2.steps st, oX3.steps st, oX4.steps st, oX5.steps st, oX6.steps st, oX7.steps st, oX8.steps st⟩ Reg.none_ rfl
  apply Reg.RC_pure (hc := rfl) (hst := rfl) (hw := rfl) (t := 134) (hd := rfl) (ht := Nat.le_of_ble_eq_true rfl)
  · intro D v W hc hj hf K hK
    go_step
    exact hK.out
  · rfl
  apply Reg.RC_pure (hc := rfl) (hst := rfl) (hw := rfl) (t := 138) (hd := rfl) (ht := Nat.le_of_ble_eq_true rfl)
  · intro D v W hc hj hf K hK
    go_step
    exact hK.out
  · rfl
  apply Reg.RC_pure (hc := rfl) (hst := rfl) (hw := rfl) (t := 139) (hd := rfl) (ht := Nat.le_of_ble_eq_true rfl)
  · intro D v W hc hj hf K hK
    go_step
    exact hK.out
  · rfl
  refine Reg.RC_call rfl (by intro t ht; cases ht) rfl (fun D v W hc hj hf K hK => ?_) (fun _ _ => Reg.RC_at (b := ⟨_, []⟩) rfl ?_)
  · obtain ⟨B, oA, oB, oX1, oX2, oX3, oX4, oX5, oX6, oX7, oX8⟩ := hj
    have hs : D 6 = false := hc.1
    have oX4 : Blk W (w4.heap.size) 23 #[.int .i64 ((subS a b c d).1), .int .i64 ((subS a b c d).2.1)] := by have o := oX4; simp only [hs, Reg.sel_false] at o; exact o
    have lX4 := oX4.lt
    have fX4 := oX4.fr
    have cX40 : World.cell? W ⟨w4.heap.size, 0, none⟩ = some (.int .i64 ((subS a b c d).1)) := oX4.c 0 rfl
    have cX41 : World.cell? W ⟨w4.heap.size, 1, none⟩ = some (.int .i64 ((subS a b c d).2.1)) := oX4.c 1 rfl
    go_step
    exact hK.out undef _ Reg.any ⟨(by (repeat' first | with_reducible assumption | with_reducible exact Below.refl _ _ | with_reducible refine Below.alloc ?_ ?_ _ | with_reducible refine Below.drew ?_ | with_reducible refine belowN ?_ _ | with_reducible refine Below.setCell ?_ ?_ _ | go_size)), (show Blk _ _ _ #[.int .i64 (a), .int .i64 (b)] from (by (repeat' first | with_reducible assumption | (with_reducible refine Blk.new' ?_; first | with_reducible rfl | (simp only [World.size_alloc, World.size_setCell, World.size_drew]; done)) | with_reducible refine Blk.alloc ?_ _ | with_reducible refine Blk.drew ?_ | with_reducible refine Blk.drewN ?_ _ | with_reducible apply Blk.both | with_reducible refine Blk.far' ?_ ?_ | (show _ ≠ _; omega)))), (show Blk _ _ _ #[.int .i64 (c), .int .i64 (d)] from (by (repeat' first | with_reducible assumption | (with_reducible refine Blk.new' ?_; first | with_reducible rfl | (simp only [World.size_alloc, World.size_setCell, World.size_drew]; done)) | with_reducible refine Blk.alloc ?_ _ | with_reducible refine Blk.drew ?_ | with_reducible refine Blk.drewN ?_ _ | with_reducible apply Blk.both | with_reducible refine Blk.far' ?_ ?_ | (show _ ≠ _; omega)))), (show Blk _ _ _ #[.int .i64 ((minS a b c d).1), .int .i64 ((minS a b c d).2.1)] from (by (repeat' first | with_reducible assumption | (with_reducible refine Blk.new' ?_; first | with_reducible rfl | (simp only [World.size_alloc, World.size_setCell, World.size_drew]; done)) | with_reducible refine Blk.alloc ?_ _ | with_reducible refine Blk.drew ?_ | with_reducible refine Blk.drewN ?_ _ | with_reducible apply Blk.both | with_reducible refine Blk.far' ?_ ?_ | (show _ ≠ _; omega)))), (show Blk _ _ _ #[.int .i64 ((minS a b c d).1), .int .i64 ((minS a b c d).2.1)] from (by (repeat' first | with_reducible assumption | (with_reducible refine Blk.new' ?_; first | with_reducible rfl | (simp only [World.size_alloc, World.size_setCell, World.size_drew]; done)) | with_reducible refine Blk.alloc ?_ _ | with_reducible refine Blk.drew ?_ | with_reducible refine Blk.drewN ?_ _ | with_reducible apply Blk.both | with_reducible refine Blk.far' ?_ ?_ | (show _ ≠ _; omega)))), (show Blk _ _ _ #[.int .i64 ((maxS a b c d).1), .int .i64 ((maxS a b c d).2.1)] from (by (repeat' first | with_reducible assumption | (with_reducible refine Blk.new' ?_; first | with_reducible rfl | (simp only [World.size_alloc, World.size_setCell, World.size_drew]; done)) | with_reducible refine Blk.alloc ?_ _ | with_reducible refine Blk.drew ?_ | with_reducible refine Blk.drewN ?_ _ | with_reducible apply Blk.both | with_reducible refine Blk.far' ?_ ?_ | (show _ ≠ _; omega)))), (show Blk _ _ _ #[.int .i64 ((maxS a b c d).1), .int .i64 ((maxS a b c d).2.1)] from (Blk.set2 (cs' := #[.int .i64 ((maxS a b c d).1), .int .i64 ((maxS a b c d).2.1)]) (Blk.set2 (cs' := #[.int .i64 ((maxS a b c d).1), .int .i64 ((subS a b c d).2.1)]) oX4 (i := 0) rfl) (i := 1) rfl)), (show Blk _ _ _ #[.int .i64 ((mulS a b c d).1), .int .i64 ((mulS a b c d).2.1)] from (by (repeat' first | with_reducible assumption | (with_reducible refine Blk.new' ?_; first | with_reducible rfl | (simp only [World.size_alloc, World.size_setCell, World.size_drew]; done)) | with_reducible refine Blk.alloc ?_ _ | with_reducible refine Blk.drew ?_ | with_reducible refine Blk.drewN ?_ _ | with_reducible apply Blk.both | with_reducible refine Blk.far' ?_ ?_ | (show _ ≠ _; omega)))), (show Blk _ _ _ #[.int .i64 ((mulS a b c d).1), .int .i64 ((mulS a b c d).2.1)] from (by (repeat' first | with_reducible assumption | (with_reducible refine Blk.new' ?_; first | with_reducible rfl | (simp only [World.size_alloc, World.size_setCell, World.size_drew]; done)) | with_reducible refine Blk.alloc ?_ _ | with_reducible refine Blk.drew ?_ | with_reducible refine Blk.drewN ?_ _ | with_reducible apply Blk.both | with_reducible refine Blk.far' ?_ ?_ | (show _ ≠ _; omega)))), (show Blk _ _ _ #[.int .i64 ((divS a b c d).1), .int .i64 ((divS a b c d).2.1)] from (by (repeat' first | with_reducible assumption | (with_reducible refine Blk.new' ?_; first | with_reducible rfl | (simp only [World.size_alloc, World.size_setCell, World.size_drew]; done)) | with_reducible refine Blk.alloc ?_ _ | with_reducible refine Blk.drew ?_ | with_reducible refine Blk.drewN ?_ _ | with_reducible apply Blk.both | with_reducible refine Blk.far' ?_ ?_ | (show _ ≠ _; omega)))), (show Blk _ _ _ #[.int .i64 ((divS a b c d).1), .int .i64 ((divS a b c d).2.1)] from (by (repeat' first | with_reducible assumption | (with_reducible refine Blk.new' ?_; first | with_reducible rfl | (simp only [World.size_alloc, World.size_setCell, World.size_drew]; done)) | with_reducible refine Blk.alloc ?_ _ | with_reducible refine Blk.drew ?_ | with_reducible refine Blk.drewN ?_ _ | with_reducible apply Blk.both | with_reducible refine Blk.far' ?_ ?_ | (show _ ≠ _; omega))))⟩ Reg.none_ trivial
  apply Reg.RC_pure (hc := rfl) (hst := rfl) (hw := rfl) (t := 12) (hd := rfl) (ht := Nat.le_of_ble_eq_true rfl)
  · intro D v W hc hj hf K hK
    go_step
    exact hK.out
  · rfl
  refine Reg.RC_end (fun D v W hd hj hf => ?_)
  obtain ⟨B, oA, oB, oX1, oX2, oX3, oX4, oX5, oX6, oX7, oX8⟩ := hj
  have e6 : D 6 = true := hd 6 (by decide)
  have oX4 : Blk W (w4.heap.size) 23 #[.int .i64 ((maxS a b c d).1), .int .i64 ((maxS a b c d).2.1)] := by have o := oX4; simp only [e6, Reg.sel_true] at o; exact o
  clear e6
  clear hd hf
  refine hQ _ _ ?_
  clear hQ hops Q' ops'
  go_upto_region 15 with fail
  refine Reg.wp_chain_plain (fun D v W => Below w.heap.size w W ∧ Blk W (w.heap.size) 23 #[.int .i64 (a), .int .i64 (b)] ∧ Blk W (w.heap.size + 1) 23 #[.int .i64 (c), .int .i64 (d)] ∧ Blk W (w1.heap.size) 23 #[.int .i64 ((minS a b c d).1), .int .i64 ((minS a b c d).2.1)] ∧ Blk W (w2.heap.size) 23 #[.int .i64 ((minS a b c d).1), .int .i64 ((minS a b c d).2.1)] ∧ Blk W (w3.heap.size) 23 #[.int .i64 ((maxS a b c d).1), .int .i64 ((maxS a b c d).2.1)] ∧ Blk W (w4.heap.size) 23 #[.int .i64 ((maxS a b c d).1), .int .i64 ((maxS a b c d).2.1)] ∧ Blk W (w5.heap.size) 23 #[Reg.sel (D 6) (.int .i64 ((mulS a b c d).1)) (.int .i64 ((hullS a b c d).1)), Reg.sel (D 6) (.int .i64 ((mulS a b c d).2.1)) (.int .i64 ((hullS a b c d).2.1))] ∧ Blk W (w6.heap.size) 23 #[.int .i64 ((mulS a b c d).1), .int .i64 ((mulS a b c d).2.1)] ∧ Blk W (w7.heap.size) 23 #[.int .i64 ((divS a b c d).1), .int .i64 ((divS a b c d).2.1)] ∧ Blk W (w8.heap.size) 23 #[.int .i64 ((divS a b c d).1), .int .i64 ((divS a b c d).2.1)])
    (Reg.inl [2, 6]) (Reg.ge [(2, .tuple #[.agg #[.int .i64 ((hullS a b c d).1), .int .i64 ((hullS a b c d).2.1)], .int .i64 ((hullS a b c d).2.2)])]) Reg.None_ (fun _ => Reg.Any) (fun _ _ => False) (Reg.pl []) (Reg.pl [])
    (by kernel_rfl) (by kernel_rfl) (Reg.ge_some _) (fun v => ?_) (fun _ _ _ _ _ h => h) (fun _ _ _ _ _ _ _ _ _ _ _ _ _ => Reg.none_) (fun _ _ _ _ h => h.elim) (fun ops' Q' hops hQ => ?_)
  · exact ⟨(by (repeat' first | with_reducible assumption | with_reducible exact Below.refl _ _ | with_reducible refine Below.alloc ?_ ?_ _ | with_reducible refine Below.drew ?_ | with_reducible refine belowN ?_ _ | with_reducible refine Below.setCell ?_ ?_ _ | go_size)), (show Blk _ _ _ #[.int .i64 (a), .int .i64 (b)] from (by first | with_reducible exact oA | (repeat' first | with_reducible assumption | (with_reducible refine Blk.new' ?_; first | with_reducible rfl | (simp only [World.size_alloc, World.size_setCell, World.size_drew]; done)) | with_reducible refine Blk.alloc ?_ _ | with_reducible refine Blk.drew ?_ | with_reducible refine Blk.drewN ?_ _ | with_reducible apply Blk.both | with_reducible refine Blk.far' ?_ ?_ | (show _ ≠ _; omega)))), (show Blk _ _ _ #[.int .i64 (c), .int .i64 (d)] from (by first | with_reducible exact oB | (repeat' first | with_reducible assumption | (with_reducible refine Blk.new' ?_; first | with_reducible rfl | (simp only [World.size_alloc, World.size_setCell, World.size_drew]; done)) | with_reducible refine Blk.alloc ?_ _ | with_reducible refine Blk.drew ?_ | with_reducible refine Blk.drewN ?_ _ | with_reducible apply Blk.both | with_reducible refine Blk.far' ?_ ?_ | (show _ ≠ _; omega)))), (show Blk _ _ _ #[.int .i64 ((minS a b c d).1), .int .i64 ((minS a b c d).2.1)] from (by first | with_reducible exact oX1 | (repeat' first | with_reducible assumption | (with_reducible refine Blk.new' ?_; first | with_reducible rfl | (simp only [World.size_alloc, World.size_setCell, World.size_drew]; done)) | with_reducible refine Blk.alloc ?_ _ | with_reducible refine Blk.drew ?_ | with_reducible refine Blk.drewN ?_ _ | with_reducible apply Blk.both | with_reducible refine Blk.far' ?_ ?_ | (show _ ≠ _; omega)))), (show Blk _ _ _ #[.int .i64 ((minS a b c d).1), .int .i64 ((minS a b c d).2.1)] from (by first | with_reducible exact oX2 | (repeat' first | with_reducible assumption | (with_reducible refine Blk.new' ?_; first | with_reducible rfl | (simp only [World.size_alloc, World.size_setCell, World.size_drew]; done)) | with_reducible refine Blk.alloc ?_ _ | with_reducible refine Blk.drew ?_ | with_reducible refine Blk.drewN ?_ _ | with_reducible apply Blk.both | with_reducible refine Blk.far' ?_ ?_ | (show _ ≠ _; omega)))), (show Blk _ _ _ #[.int .i64 ((maxS a b c d).1), .int .i64 ((maxS a b c d).2.1)] from (by first | with_reducible exact oX3 | (repeat' first | with_reducible assumption | (with_reducible refine Blk.new' ?_; first | with_reducible rfl | (simp only [World.size_alloc, World.size_setCell, World.size_drew]; done)) | with_reducible refine Blk.alloc ?_ _ | with_reducible refine Blk.drew ?_ | with_reducible refine Blk.drewN ?_ _ | with_reducible apply Blk.both | with_reducible refine Blk.far' ?_ ?_ | (show _ ≠ _; omega)))), (show Blk _ _ _ #[.int .i64 ((maxS a b c d).1), .int .i64 ((maxS a b c d).2.1)] from (by first | with_reducible exact oX4 | (repeat' first | with_reducible assumption | (with_reducible refine Blk.new' ?_; first | with_reducible rfl | (simp only [World.size_alloc, World.size_setCell, World.size_drew]; done)) | with_reducible refine Blk.alloc ?_ _ | with_reducible refine Blk.drew ?_ | with_reducible refine Blk.drewN ?_ _ | with_reducible apply Blk.both | with_reducible refine Blk.far' ?_ ?_ | (show _ ≠ _; omega)))), (show Blk _ _ _ #[.int .i64 ((mulS a b c d).1), .int .i64 ((mulS a b c d).2.1)] from (by first | with_reducible exact oX5 | (repeat' first | with_reducible assumption | (with_reducible refine Blk.new' ?_; first | with_reducible rfl | (simp only [World.size_alloc, World.size_setCell, World.size_drew]; done)) | with_reducible refine Blk.alloc ?_ _ | with_reducible refine Blk.drew ?_ | with_reducible refine Blk.drewN ?_ _ | with_reducible apply Blk.both | with_reducible refine Blk.far' ?_ ?_ | (show _ ≠ _; omega)))), (show Blk _ _ _ #[.int .i64 ((mulS a b c d).1), .int .i64 ((mulS a b c d).2.1)] from (by first | with_reducible exact oX6 | (repeat' first | with_reducible assumption | (with_reducible refine Blk.new' ?_; first | with_reducible rfl | (simp only [World.size_alloc, World.size_setCell, World.size_drew]; done)) | with_reducible refine Blk.alloc ?_ _ | with_reducible refine Blk.drew ?_ | with_reducible refine Blk.drewN ?_ _ | with_reducible apply Blk.both | with_reducible refine Blk.far' ?_ ?_ | (show _ ≠ _; omega)))), (show Blk _ _ _ #[.int .i64 ((divS a b c d).1), .int .i64 ((divS a b c d).2.1)] from (by first | with_reducible exact oX7 | (repeat' first | with_reducible assumption | (with_reducible refine Blk.new' ?_; first | with_reducible rfl | (simp only [World.size_alloc, World.size_setCell, World.size_drew]; done)) | with_reducible refine Blk.alloc ?_ _ | with_reducible refine Blk.drew ?_ | with_reducible refine Blk.drewN ?_ _ | with_reducible apply Blk.both | with_reducible refine Blk.far' ?_ ?_ | (show _ ≠ _; omega)))), (show Blk _ _ _ #[.int .i64 ((divS a b c d).1), .int .i64 ((divS a b c d).2.1)] from (by first | with_reducible exact oX8 | (repeat' first | with_reducible assumption | (with_reducible refine Blk.new' ?_; first | with_reducible rfl | (simp only [World.size_alloc, World.size_setCell, World.size_drew]; done)) | with_reducible refine Blk.alloc ?_ _ | with_reducible refine Blk.drew ?_ | with_reducible refine Blk.drewN ?_ _ | with_reducible apply Blk.both | with_reducible refine Blk.far' ?_ ?_ | (show _ ≠ _; omega))))⟩
  clear B oA oB oX1 oX2 oX3 oX4 oX5 oX6 oX7 oX8
  apply Reg.RC_pure (hc := rfl) (hst := rfl) (hw := rfl) (t := 141) (hd := rfl) (ht := Nat.le_of_ble_eq_true rfl)
  · intro D v W hc hj hf K hK
    obtain ⟨B, oA, oB, oX1, oX2, oX3, oX4, oX5, oX6, oX7, oX8⟩ := hj
    have cA0 : World.cell? W ⟨w.heap.size, 0, none⟩ = some (.int .i64 (a)) := oA.c 0 rfl
    have cA1 : World.cell? W ⟨w.heap.size, 1, none⟩ = some (.int .i64 (b)) := oA.c 1 rfl
    go_step
    exact hK.out
  · rfl
  apply Reg.RC_pure (hc := rfl) (hst := rfl) (hw := rfl) (t := 142) (hd := rfl) (ht := Nat.le_of_ble_eq_true rfl)
  · intro D v W hc hj hf K hK
    obtain ⟨B, oA, oB, oX1, oX2, oX3, oX4, oX5, oX6, oX7, oX8⟩ := hj
    have cB0 : World.cell? W ⟨w.heap.size + 1, 0, none⟩ = some (.int .i64 (c)) := oB.c 0 rfl
    have cB1 : World.cell? W ⟨w.heap.size + 1, 1, none⟩ = some (.int .i64 (d)) := oB.c 1 rfl
    go_step
    exact hK.out
  · rfl
  refine Reg.RC_exact _ (fun _ h => h) rfl (by intro t ht; cases ht; exact Nat.le_of_ble_eq_true rfl) rfl (fun D v W hc hj hf K hK => ?_) (Reg.RC_at (b := ⟨#[_, _, _, _, _, _, _, _, _, _, _, _, _, _, _, _, _, _, _, _, _, _, _, _, _, _, _, _, _, _, _, _, _, _, _, _, _, _, _, _, _, _, _, _, _, _, _, _, _, _, _, _, _, _, _, _, _, _, _, _, _, _, _, _, _, _, _, _, _, _, _, _, _, _, _, _, _, _, _, _, _, _, _, _, _, _, _, _, _, _, _, _, _, _, _, _, _, _, _, _, _, _, _, _, _, _, _, _, _, _, _, _, _, _, _, _, _, _, _, _, _, _, _, _, _, _, _, _, _, _, _, _, _, _, _, _, _, _, _, _, _, _, _, _, _, _, _, _, _, _, _, _, _, _, _, _, _, _, _, _, _, _, _, _, _, _, _, _, _, _, _, _, _, _, _, _, _, _, _, _, _, _, _, _, _, _, _, _, _, _, _, _, _, _, _, _, _, _, _, _, _, _, _, _, _, _, _, _, _, _, _, _, _, _, _, _, _, _, _, _, _, _, _, _, _, _, _, _, _, _, _, _, _, _, _, _, _, _, _, _, _, _, _, _, _, _, _], []⟩) rfl ?_)
  · obtain ⟨B, oA, oB, oX1, oX2, oX3, oX4, oX5, oX6, oX7, oX8⟩ := hj
    go_step
    refine (hull_p a b c d _).mono ?_
    rintro e W' ⟨rfl, hb⟩
    have st : Steps W W' := hb
    exact hK.out _ _ Reg.any ⟨below_steps B (Nat.le_refl _) st, oA.steps st, oB.steps st, oX1.steps st, oX2.steps st, oX3.steps st, oX4.steps st, oX5.steps st, oX6.steps st, oX7.steps st, oX8.steps st⟩ Reg.none_ rfl
  apply Reg.RC_pure (hc := rfl) (hst := rfl) (hw := rfl) (t := 140) (hd := rfl) (ht := Nat.le_of_ble_eq_true rfl)
  · intro D v W hc hj hf K hK
    go_step
    exact hK.out
  · rfl
  apply Reg.RC_pure (hc := rfl) (hst := rfl) (hw := rfl) (t := 144) (hd := rfl) (ht := Nat.le_of_ble_eq_true rfl)
  · intro D v W hc hj hf K hK
    go_step
    exact hK.out
  · rfl
  apply Reg.RC_pure (hc := rfl) (hst := rfl) (hw := rfl) (t := 145) (hd := rfl) (ht := Nat.le_of_ble_eq_true rfl)
  · intro D v W hc hj hf K hK
    go_step
    exact hK.out
  · rfl
  refine Reg.RC_call rfl (by intro t ht; cases ht) rfl (fun D v W hc hj hf K hK => ?_) (fun _ _ => Reg.RC_at (b := ⟨_, []⟩) rfl ?_)
  · obtain ⟨B, oA, oB, oX1, oX2, oX3, oX4, oX5, oX6, oX7, oX8⟩ := hj
    have hs : D 6 = false := hc.1
    have oX5 : Blk W (w5.heap.size) 23 #[.int .i64 ((mulS a b c d).1), .int .i64 ((mulS a b c d).2.1)] := by have o := oX5; simp only [hs, Reg.sel_false] at o; exact o
    have lX5 := oX5.lt
    have fX5 := oX5.fr
    have cX50 : World.cell? W ⟨w5.heap.size, 0, none⟩ = some (.int .i64 ((mulS a b c d).1)) := oX5.c 0 rfl
    have cX51 : World.cell? W ⟨w5.heap.size, 1, none⟩ = some (.int .i64 ((mulS a b c d).2.1)) := oX5.c 1 rfl
    go_step
    exact hK.out undef _ Reg.any ⟨(by (repeat' first | with_reducible assumption | with_reducible exact Below.refl _ _ | with_reducible refine Below.alloc ?_ ?_ _ | with_reducible refine Below.drew ?_ | with_reducible refine belowN ?_ _ | with_reducible refine Below.setCell ?_ ?_ _ | go_size)), (show Blk _ _ _ #[.int .i64 (a), .int .i64 (b)] from (by (repeat' first | with_reducible assumption | (with_reducible refine Blk.new' ?_; first | with_reducible rfl | (simp only [World.size_alloc, World.size_setCell, World.size_drew]; done)) | with_reducible refine Blk.alloc ?_ _ | with_reducible refine Blk.drew ?_ | with_reducible refine Blk.drewN ?_ _ | with_reducible apply Blk.both | with_reducible refine Blk.far' ?_ ?_ | (show _ ≠ _; omega)))), (show Blk _ _ _ #[.int .i64 (c), .int .i64 (d)] from (by (repeat' first | with_reducible assumption | (with_reducible refine Blk.new' ?_; first | with_reducible rfl | (simp only [World.size_alloc, World.size_setCell, World.size_drew]; done)) | with_reducible refine Blk.alloc ?_ _ | with_reducible refine Blk.drew ?_ | with_reducible refine Blk.drewN ?_ _ | with_reducible apply Blk.both | with_reducible refine Blk.far' ?_ ?_ | (show _ ≠ _; omega)))), (show Blk _ _ _ #[.int .i64 ((minS a b c d).1), .int .i64 ((minS a b c d).2.1)] from (by (repeat' first | with_reducible assumption | (with_reducible refine Blk.new' ?_; first | with_reducible rfl | (simp only [World.size_alloc, World.size_setCell, World.size_drew]; done)) | with_reducible refine Blk.alloc ?_ _ | with_reducible refine Blk.drew ?_ | with_reducible refine Blk.drewN ?_ _ | with_reducible apply Blk.both | with_reducible refine Blk.far' ?_ ?_ | (show _ ≠ _; omega)))), (show Blk _ _ _ #[.int .i64 ((minS a b c d).1), .int .i64 ((minS a b c d).2.1)] from (by (repeat' first | with_reducible assumption | (with_reducible refine Blk.new' ?_; first | with_reducible rfl | (simp only [World.size_alloc, World.size_setCell, World.size_drew]; done)) | with_reducible refine Blk.alloc ?_ _ | with_reducible refine Blk.drew ?_ | with_reducible refine Blk.drewN ?_ _ | with_reducible apply Blk.both | with_reducible refine Blk.far' ?_ ?_ | (show _ ≠ _; omega)))), (show Blk _ _ _ #[.int .i64 ((maxS a b c d).1), .int .i64 ((maxS a b c d).2.1)] from (by (repeat' first | with_reducible assumption | (with_reducible refine Blk.new' ?_; first | with_reducible rfl | (simp only [World.size_alloc, World.size_setCell, World.size_drew]; done)) | with_reducible refine Blk.alloc ?_ _ | with_reducible refine Blk.drew ?_ | with_reducible refine Blk.drewN ?_ _ | with_reducible apply Blk.both | with_reducible refine Blk.far' ?_ ?_ | (show _ ≠ _; omega)))), (show Blk _ _ _ #[.int .i64 ((maxS a b c d).1), .int .i64 ((maxS a b c d).2.1)] from (by (repeat' first | with_reducible assumption | (with_reducible refine Blk.new' ?_; first | with_reducible rfl | (simp only [World.size_alloc, World.size_setCell, World.size_drew]; done)) | with_reducible refine Blk.alloc ?_ _ | with_reducible refine Blk.drew ?_ | with_reducible refine Blk.drewN ?_ _ | with_reducible apply Blk.both | with_reducible refine Blk.far' ?_ ?_ | (show _ ≠ _; omega)))), (show Blk _ _ _ #[.int .i64 ((hullS a b c d).1), .int .i64 ((hullS a b c d).2.1)] from (Blk.set2 (cs' := #[.int .i64 ((hullS a b c d).1), .int .i64 ((hullS a b c d).2.1)]) (Blk.set2 (cs' := #[.int .i64 ((hullS a b c d).1), .int .i64 ((mulS a b c d).2.1)]) oX5 (i := 0) rfl) (i := 1) rfl)), (show Blk _ _ _ #[.int .i64 ((mulS a b c d).1), .int .i64 ((mulS a b c d).2.1)] from (by (repeat' first | with_reducible assumption | (with_reducible refine Blk.new' ?_; first | with_reducible rfl | (simp only [World.size_alloc, World.size_setCell, World.size_drew]; done)) | with_reducible refine Blk.alloc ?_ _ | with_reducible refine Blk.drew ?_ | with_reducible refine Blk.drewN ?_ _ | with_reducible apply Blk.both | with_reducible refine Blk.far' ?_ ?_ | (show _ ≠ _; omega)))), (show Blk _ _ _ #[.int .i64 ((divS a b c d).1), .int .i64 ((divS a b c d).2.1)] from (by (repeat' first | with_reducible assumption | (with_reducible refine Blk.new' ?_; first | with_reducible rfl | (simp only [World.size_alloc, World.size_setCell, World.size_drew]; done)) | with_reducible refine Blk.alloc ?_ _ | with_reducible refine Blk.drew ?_ | with_reducible refine Blk.drewN ?_ _ | with_reducible apply Blk.both | with_reducible refine Blk.far' ?_ ?_ | (show _ ≠ _; omega)))), (show Blk _ _ _ #[.int .i64 ((divS a b c d).1), .int .i64 ((divS a b c d).2.1)] from (by (repeat' first | with_reducible assumption | (with_reducible refine Blk.new' ?_; first | with_reducible rfl | (simp only [World.size_alloc, World.size_setCell, World.size_drew]; done)) | with_reducible refine Blk.alloc ?_ _ | with_reducible refine Blk.drew ?_ | with_reducible refine Blk.drewN ?_ _ | with_reducible apply Blk.both | with_reducible refine Blk.far' ?_ ?_ | (show _ ≠ _; omega))))⟩ Reg.none_ trivial
  apply Reg.RC_pure (hc := rfl) (hst := rfl) (hw := rfl) (t := 14) (hd := rfl) (ht := Nat.le_of_ble_eq_true rfl)
  · intro D v W hc hj hf K hK
    go_step
    exact hK.out
  · rfl
  refine Reg.RC_end (fun D v W hd hj hf => ?_)
  obtain ⟨B, oA, oB, oX1, oX2, oX3, oX4, oX5, oX6, oX7, oX8⟩ := hj
  have e6 : D 6 = true := hd 6 (by decide)
  have oX5 : Blk W (w5.heap.size) 23 #[.int .i64 ((hullS a b c d).1), .int .i64 ((hullS a b c d).2.1)] := by have o := oX5; simp only [e6, Reg.sel_true] at o; exact o
  clear e6
  clear hd hf
  refine hQ _ _ ?_
  clear hQ hops Q' ops'
  go_upto_region 16 with fail
  refine Reg.wp_chain_plain (fun D v W => Below w.heap.size w W ∧ Blk W (w.heap.size) 23 #[.int .i64 (a), .int .i64 (b)] ∧ Blk W (w.heap.size + 1) 23 #[.int .i64 (c), .int .i64 (d)] ∧ Blk W (w1.heap.size) 23 #[.int .i64 ((minS a b c d).1), .int .i64 ((minS a b c d).2.1)] ∧ Blk W (w2.heap.size) 23 #[.int .i64 ((minS a b c d).1), .int .i64 ((minS a b c d).2.1)] ∧ Blk W (w3.heap.size) 23 #[.int .i64 ((maxS a b c d).1), .int .i64 ((maxS a b c d).2.1)] ∧ Blk W (w4.heap.size) 23 #[.int .i64 ((maxS a b c d).1), .int .i64 ((maxS a b c d).2.1)] ∧ Blk W (w5.heap.size) 23 #[.int .i64 ((hullS a b c d).1), .int .i64 ((hullS a b c d).2.1)] ∧ Blk W (w6.heap.size) 23 #[Reg.sel (D 6) (.int .i64 ((mulS a b c d).1)) (.int .i64 ((hullS a b c d).1)), Reg.sel (D 6) (.int .i64 ((mulS a b c d).2.1)) (.int .i64 ((hullS a b c d).2.1))] ∧ Blk W (w7.heap.size) 23 #[.int .i64 ((divS a b c d).1), .int .i64 ((divS a b c d).2.1)] ∧ Blk W (w8.heap.size) 23 #[.int .i64 ((divS a b c d).1), .int .i64 ((divS a b c d).2.1)])
    (Reg.inl [2, 6]) (Reg.ge [(2, .tuple #[.agg #[.int .i64 ((hullS a b c d).1), .int .i64 ((hullS a b c d).2.1)], .int .i64 ((hullS a b c d).2.2)])]) Reg.None_ (fun _ => Reg.Any) (fun _ _ => False) (Reg.pl []) (Reg.pl [])
    (by kernel_rfl) (by kernel_rfl) (Reg.ge_some _) (fun v => ?_) (fun _ _ _ _ _ h => h) (fun _ _ _ _ _ _ _ _ _ _ _ _ _ => Reg.none_) (fun _ _ _ _ h => h.elim) (fun ops' Q' hops hQ => ?_)
  · exact ⟨(by (repeat' first | with_reducible assumption | with_reducible exact Below.refl _ _ | with_reducible refine Below.alloc ?_ ?_ _ | with_reducible refine Below.drew ?_ | with_reducible refine belowN ?_ _ | with_reducible refine Below.setCell ?_ ?_ _ | go_size)), (show Blk _ _ _ #[.int .i64 (a), .int .i64 (b)] from (by first | with_reducible exact oA | (repeat' first | with_reducible assumption | (with_reducible refine Blk.new' ?_; first | with_reducible rfl | (simp only [World.size_alloc, World.size_setCell, World.size_drew]; done)) | with_reducible refine Blk.alloc ?_ _ | with_reducible refine Blk.drew ?_ | with_reducible refine Blk.drewN ?_ _ | with_reducible apply Blk.both | with_reducible refine Blk.far' ?_ ?_ | (show _ ≠ _; omega)))), (show Blk _ _ _ #[.int .i64 (c), .int .i64 (d)] from (by first | with_reducible exact oB | (repeat' first | with_reducible assumption | (with_reducible refine Blk.new' ?_; first | with_reducible rfl | (simp only [World.size_alloc, World.size_setCell, World.size_drew]; done)) | with_reducible refine Blk.alloc ?_ _ | with_reducible refine Blk.drew ?_ | with_reducible refine Blk.drewN ?_ _ | with_reducible apply Blk.both | with_reducible refine Blk.far' ?_ ?_ | (show _ ≠ _; omega)))), (show Blk _ _ _ #[.int .i64 ((minS a b c d).1), .int .i64 ((minS a b c d).2.1)] from (by first | with_reducible exact oX1 | (repeat' first | with_reducible assumption | (with_reducible refine Blk.new' ?_; first | with_reducible rfl | (simp only [World.size_alloc, World.size_setCell, World.size_drew]; done)) | with_reducible refine Blk.alloc ?_ _ | with_reducible refine Blk.drew ?_ | with_reducible refine Blk.drewN ?_ _ | with_reducible apply Blk.both | with_reducible refine Blk.far' ?_ ?_ | (show _ ≠ _; omega)))), (show Blk _ _ _ #[.int .i64 ((minS a b c d).1), .int .i64 ((minS a b c d).2.1)] from (by first | with_reducible exact oX2 | (repeat' first | with_reducible assumption | (with_reducible refine Blk.new' ?_; first | with_reducible rfl | (simp only [World.size_alloc, World.size_setCell, World.size_drew]; done)) | with_reducible refine Blk.alloc ?_ _ | with_reducible refine Blk.drew ?_ | with_reducible refine Blk.drewN ?_ _ | with_reducible apply Blk.both | with_reducible refine Blk.far' ?_ ?_ | (show _ ≠ _; omega)))), (show Blk _ _ _ #[.int .i64 ((maxS a b c d).1), .int .i64 ((maxS a b c d).2.1)] from (by first | with_reducible exact oX3 | (repeat' first | with_reducible assumption | (with_reducible refine Blk.new' ?_; first | with_reducible rfl | (simp only [World.size_alloc, World.size_setCell, World.size_drew]; done)) | with_reducible refine Blk.alloc ?_ _ | with_reducible refine Blk.drew ?_ | with_reducible refine Blk.drewN ?_ _ | with_reducible apply Blk.both | with_reducible refine Blk.far' ?_ ?_ | (show _ ≠ _; omega)))), (show Blk _ _ _ #[.int .i64 ((maxS a b c d).1), .int .i64 ((maxS a b c d).2.1)] from (by first | with_reducible exact oX4 | (repeat' first | with_reducible assumption | (with_reducible refine Blk.new' ?_; first | with_reducible rfl | (simp only [World.size_alloc, World.size_setCell, World.size_drew]; done)) | with_reducible refine Blk.alloc ?_ _ | with_reducible refine Blk.drew ?_ | with_reducible refine Blk.drewN ?_ _ | with_reducible apply Blk.both | with_reducible refine Blk.far' ?_ ?_ | (show _ ≠ _; omega)))), (show Blk _ _ _ #[.int .i64 ((hullS a b c d).1), .int .i64 ((hullS a b c d).2.1)] from (by first | with_reducible exact oX5 | (repeat' first | with_reducible assumption | (with_reducible refine Blk.new' ?_; first | with_reducible rfl | (simp only [World.size_alloc, World.size_setCell, World.size_drew]; done)) | with_reducible refine Blk.alloc ?_ _ | with_reducible refine Blk.drew ?_ | with_reducible refine Blk.drewN ?_ _ | with_reducible apply Blk.both | with_reducible refine Blk.far' ?_ ?_ | (show _ ≠ _; omega)))), (show Blk _ _ _ #[.int .i64 ((mulS a b c d).1), .int .i64 ((mulS a b c d).2.1)] from (by first | with_reducible exact oX6 | (repeat' first | with_reducible assumption | (with_reducible refine Blk.new' ?_; first | with_reducible rfl | (simp only [World.size_alloc, World.size_setCell, World.size_drew]; done)) | with_reducible refine Blk.alloc ?_ _ | with_reducible refine Blk.drew ?_ | with_reducible refine Blk.drewN ?_ _ | with_reducible apply Blk.both | with_reducible refine Blk.far' ?_ ?_ | (show _ ≠ _; omega)))), (show Blk _ _ _ #[.int .i64 ((divS a b c d).1), .int .i64 ((divS a b c d).2.1)] from (by first | with_reducible exact oX7 | (repeat' first | with_reducible assumption | (with_reducible refine Blk.new' ?_; first | with_reducible rfl | (simp only [World.size_alloc, World.size_setCell, World.size_drew]; done)) | with_reducible refine Blk.alloc ?_ _ | with_reducible refine Blk.drew ?_ | with_reducible refine Blk.drewN ?_ _ | with_reducible apply Blk.both | with_reducible refine Blk.far' ?_ ?_ | (show _ ≠ _; omega)))), (show Blk _ _ _ #[.int .i64 ((divS a b c d).1), .int .i64 ((divS a b c d).2.1)] from (by first | with_reducible exact oX8 | (repeat' first | with_reducible assumption | (with_reducible refine Blk.new' ?_; first | with_reducible rfl | (simp only [World.size_alloc, World.size_setCell, World.size_drew]; done)) | with_reducible refine Blk.alloc ?_ _ | with_reducible refine Blk.drew ?_ | with_reducible refine Blk.drewN ?_ _ | with_reducible apply Blk.both | with_reducible refine Blk.far' ?_ ?_ | (show _ ≠ _; omega))))⟩
  clear B oA oB oX1 oX2 oX3 oX4 oX5 oX6 oX7 oX8
  apply Reg.RC_pure (hc := rfl) (hst := rfl) (hw := rfl) (t := 147) (hd := rfl) (ht := Nat.le_of_ble_eq_true rfl)
  · intro D v W hc hj hf K hK
    obtain ⟨B, oA, oB, oX1, oX2, oX3, oX4, oX5, oX6, oX7, oX8⟩ := hj
    have cA0 : World.cell? W ⟨w.heap.size, 0, none⟩ = some (.int .i64 (a)) := oA.c 0 rfl
    have cA1 : World.cell? W ⟨w.heap.size, 1, none⟩ = some (.int .i64 (b)) := oA.c 1 rfl
    go_step
    exact hK.out
  · rfl
  apply Reg.RC_pure (hc := rfl) (hst := rfl) (hw := rfl) (t := 148) (hd := rfl) (ht := Nat.le_of_ble_eq_true rfl)
  · intro D v W hc hj hf K hK
    obtain ⟨B, oA, oB, oX1, oX2, oX3, oX4, oX5, oX6, oX7, oX8⟩ := hj
    have cB0 : World.cell? W ⟨w.heap.size + 1, 0, none⟩ = some (.int .i64 (c)) := oB.c 0 rfl
    have cB1 : World.cell? W ⟨w.heap.size + 1, 1, none⟩ = some (.int .i64 (d)) := oB.c 1 rfl
    go_step
    exact hK.out
  · rfl
  refine Reg.RC_exact _ (fun _ h => h) rfl (by intro t ht; cases ht; exact Nat.le_of_ble_eq_true rfl) rfl (fun D v W hc hj hf K hK => ?_) (Reg.RC_at (b := ⟨#[_, _, _, _, _, _, _, _, _, _, _, _, _, _, _, _, _, _, _, _, _, _, _, _, _, _, _, _, _, _, _, _, _, _, _, _, _, _, _, _, _, _, _, _, _, _, _, _, _, _, _, _, _, _, _, _, _, _, _, _, _, _, _, _, _, _, _, _, _, _, _, _, _, _, _, _, _, _, _, _, _, _, _, _, _, _, _, _, _, _, _, _, _, _, _, _, _, _, _, _, _, _, _, _, _, _, _, _, _, _, _, _, _, _, _, _, _, _, _, _, _, _, _, _, _, _, _, _, _, _, _, _, _, _, _, _, _, _, _, _, _, _, _, _, _, _, _, _, _, _, _, _, _, _, _, _, _, _, _, _, _, _, _, _, _, _, _, _, _, _, _, _, _, _, _, _, _, _, _, _, _, _, _, _, _, _, _, _, _, _, _, _, _, _, _, _, _, _, _, _, _, _, _, _, _, _, _, _, _, _, _, _, _, _, _, _, _, _, _, _, _, _, _, _, _, _, _, _, _, _, _, _, _, _, _, _, _, _, _, _, _, _, _, _, _, _, _], []⟩) rfl ?_)
  · obtain ⟨B, oA, oB, oX1, oX2, oX3, oX4, oX5, oX6, oX7, oX8⟩ := hj
    go_step
    refine (rhull a b c d _).mono ?_
    rintro e W' ⟨rfl, hb⟩
    have st : Steps W W' := hb
    exact hK.out _ _ Reg.any ⟨below_steps B (Nat.le_refl _) st, oA.steps st, oB.steps st, oX1.steps st, oX2.steps st, oX3.steps st, oX4.steps st, oX5.steps st, oX6.steps st, oX7.steps st, oX8.steps st⟩ Reg.none_ rfl
  apply Reg.RC_pure (hc := rfl) (hst := rfl) (hw := rfl) (t := 146) (hd := rfl) (ht := Nat.le_of_ble_eq_true rfl)
  · intro D v W hc hj hf K hK
    go_step
    exact hK.out
  · rfl
  apply Reg.RC_pure (hc := rfl) (hst := rfl) (hw := rfl) (t := 150) (hd := rfl) (ht := Nat.le_of_ble_eq_true rfl)
  · intro D v W hc hj hf K hK
    go_step
    exact hK.out
  · rfl
  apply Reg.RC_pure (hc := rfl) (hst := rfl) (hw := rfl) (t := 151) (hd := rfl) (ht := Nat.le_of_ble_eq_true rfl)
  · intro D v W hc hj hf K hK
    go_step
    exact hK.out
  · rfl
  refine Reg.RC_call rfl (by intro t ht; cases ht) rfl (fun D v W hc hj hf K hK => ?_) (fun _ _ => Reg.RC_at (b := ⟨_, []⟩) rfl ?_)
  · obtain ⟨B, oA, oB, oX1, oX2, oX3, oX4, oX5, oX6, oX7, oX8⟩ := hj
    have hs : D 6 = false := hc.1
    have oX6 : Blk W (w6.heap.size) 23 #[.int .i64 ((mulS a b c d).1), .int .i64 ((mulS a b c d).2.1)] := by have o := oX6; simp only [hs, Reg.sel_false] at o; exact o
    have lX6 := oX6.lt
    have fX6 := oX6.fr
    have cX60 : World.cell? W ⟨w6.heap.size, 0, none⟩ = some (.int .i64 ((mulS a b c d).1)) := oX6.c 0 rfl
    have cX61 : World.cell? W ⟨w6.heap.size, 1, none⟩ = some (.int .i64 ((mulS a b c d).2.1)) := oX6.c 1 rfl
    go_step
    exact hK.out undef _ Reg.any ⟨(by (repeat' first | with_reducible assumption | with_reducible exact Below.refl _ _ | with_reducible refine Below.alloc ?_ ?_ _ | with_reducible refine Below.drew ?_ | with_reducible refine belowN ?_ _ | with_reducible refine Below.setCell ?_ ?_ _ | go_size)), (show Blk _ _ _ #[.int .i64 (a), .int .i64 (b)] from (by (repeat' first | with_reducible assumption | (with_reducible refine Blk.new' ?_; first | with_reducible rfl | (simp only [World.size_alloc, World.size_setCell, World.size_drew]; done)) | with_reducible refine Blk.alloc ?_ _ | with_reducible refine Blk.drew ?_ | with_reducible refine Blk.drewN ?_ _ | with_reducible apply Blk.both | with_reducible refine Blk.far' ?_ ?_ | (show _ ≠ _; omega)))), (show Blk _ _ _ #[.int .i64 (c), .int .i64 (d)] from (by (repeat' first | with_reducible assumption | (with_reducible refine Blk.new' ?_; first | with_reducible rfl | (simp only [World.size_alloc, World.size_setCell, World.size_drew]; done)) | with_reducible refine Blk.alloc ?_ _ | with_reducible refine Blk.drew ?_ | with_reducible refine Blk.drewN ?_ _ | with_reducible apply Blk.both | with_reducible refine Blk.far' ?_ ?_ | (show _ ≠ _; omega)))), (show Blk _ _ _ #[.int .i64 ((minS a b c d).1), .int .i64 ((minS a b c d).2.1)] from (by (repeat' first | with_reducible assumption | (with_reducible refine Blk.new' ?_; first | with_reducible rfl | (simp only [World.size_alloc, World.size_setCell, World.size_drew]; done)) | with_reducible refine Blk.alloc ?_ _ | with_reducible refine Blk.drew ?_ | with_reducible refine Blk.drewN ?_ _ | with_reducible apply Blk.both | with_reducible refine Blk.far' ?_ ?_ | (show _ ≠ _; omega)))), (show Blk _ _ _ #[.int .i64 ((minS a b c d).1), .int .i64 ((minS a b c d).2.1)] from (by (repeat' first | with_reducible assumption | (with_reducible refine Blk.new' ?_; first | with_reducible rfl | (simp only [World.size_alloc, World.size_setCell, World.size_drew]; done)) | with_reducible refine Blk.alloc ?_ _ | with_reducible refine Blk.drew ?_ | with_reducible refine Blk.drewN ?_ _ | with_reducible apply Blk.both | with_reducible refine Blk.far' ?_ ?_ | (show _ ≠ _; omega)))), (show Blk _ _ _ #[.int .i64 ((maxS a b c d).1), .int .i64 ((maxS a b c d).2.1)] from (by (repeat' first | with_reducible assumption | (with_reducible refine Blk.new' ?_; first | with_reducible rfl | (simp only [World.size_alloc, World.size_setCell, World.size_drew]; done)) | with_reducible refine Blk.alloc ?_ _ | with_reducible refine Blk.drew ?_ | with_reducible refine Blk.drewN ?_ _ | with_reducible apply Blk.both | with_reducible refine Blk.far' ?_ ?_ | (show _ ≠ _; omega)))), (show Blk _ _ _ #[.int .i64 ((maxS a b c d).1), .int .i64 ((maxS a b c d).2.1)] from (by (repeat' first | with_reducible assumption | (with_reducible refine Blk.new' ?_; first | with_reducible rfl | (simp only [World.size_alloc, World.size_setCell, World.size_drew]; done)) | with_reducible refine Blk.alloc ?_ _ | with_reducible refine Blk.drew ?_ | with_reducible refine Blk.drewN ?_ _ | with_reducible apply Blk.both | with_reducible refine Blk.far' ?_ ?_ | (show _ ≠ _; omega)))), (show Blk _ _ _ #[.int .i64 ((hullS a b c d).1), .int .i64 ((hullS a b c d).2.1)] from (by (repeat' first | with_reducible assumption | (with_reducible refine Blk.new' ?_; first | with_reducible rfl | (simp only [World.size_alloc, World.size_setCell, World.size_drew]; done)) | with_reducible refine Blk.alloc ?_ _ | with_reducible refine Blk.drew ?_ | with_reducible refine Blk.drewN ?_ _ | with_reducible apply Blk.both | with_reducible refine Blk.far' ?_ ?_ | (show _ ≠ _; omega)))), (show Blk _ _ _ #[.int .i64 ((hullS a b c d).1), .int .i64 ((hullS a b c d).2.1)] from (Blk.set2 (cs' := #[.int .i64 ((hullS a b c d).1), .int .i64 ((hullS a b c d).2.1)]) (Blk.set2 (cs' := #[.int .i64 ((hullS a b c d).1), .int .i64 ((mulS a b c d).2.1)]) oX6 (i := 0) rfl) (i := 1) rfl)), (show Blk _ _ _ #[.int .i64 ((divS a b c d).1), .int .i64 ((divS a b c d).2.1)] from (by (repeat' first | with_reducible assumption | (with_reducible refine Blk.new' ?_; first | with_reducible rfl | (simp only [World.size_alloc, World.size_setCell, World.size_drew]; done)) | with_reducible refine Blk.alloc ?_ _ | with_reducible refine Blk.drew ?_ | with_reducible refine Blk.drewN ?_ _ | with_reducible apply Blk.both | with_reducible refine Blk.far' ?_ ?_ | (show _ ≠ _; omega)))), (show Blk _ _ _ #[.int .i64 ((divS a b c d).1), .int .i64 ((divS a b c d).2.1)] from (by (repeat' first | with_reducible assumption | (with_reducible refine Blk.new' ?_; first | with_reducible rfl | (simp only [World.size_alloc, World.size_setCell, World.size_drew]; done)) | with_reducible refine Blk.alloc ?_ _ | with_reducible refine Blk.drew ?_ | with_reducible refine Blk.drewN ?_ _ | with_reducible apply Blk.both | with_reducible refine Blk.far' ?_ ?_ | (show _ ≠ _; omega))))⟩ Reg.none_ trivial
  apply Reg.RC_pure (hc := rfl) (hst := rfl) (hw := rfl) (t := 16) (hd := rfl) (ht := Nat.le_of_ble_eq_true rfl)
  · intro D v W hc hj hf K hK
    go_step
    exact hK.out
  · rfl
  refine Reg.RC_end (fun D v W hd hj hf => ?_)
  obtain ⟨B, oA, oB, oX1, oX2, oX3, oX4, oX5, oX6, oX7, oX8⟩ := hj
  have e6 : D 6 = true := hd 6 (by decide)
  have oX6 : Blk W (w6.heap.size) 23 #[.int .i64 ((hullS a b c d).1), .int .i64 ((hullS a b c d).2.1)] := by have o := oX6; simp only [e6, Reg.sel_true] at o; exact o
  clear e6
  clear hd hf
  refine hQ _ _ ?_
  clear hQ hops Q' ops'
  go_upto_region 17 with fail
  refine Reg.wp_chain_plain (fun D v W => Below w.heap.size w W ∧ Blk W (w.heap.size) 23 #[.int .i64 (a), .int .i64 (b)] ∧ Blk W (w.heap.size + 1) 23 #[.int .i64 (c), .int .i64 (d)] ∧ Blk W (w1.heap.size) 23 #[.int .i64 ((minS a b c d).1), .int .i64 ((minS a b c d).2.1)] ∧ Blk W (w2.heap.size) 23 #[.int .i64 ((minS a b c d).1), .int .i64 ((minS a b c d).2.1)] ∧ Blk W (w3.heap.size) 23 #[.int .i64 ((maxS a b c d).1), .int .i64 ((maxS a b c d).2.1)] ∧ Blk W (w4.heap.size) 23 #[.int .i64 ((maxS a b c d).1), .int .i64 ((maxS a b c d).2.1)] ∧ Blk W (w5.heap.size) 23 #[.int .i64 ((hullS a b c d).1), .int .i64 ((hullS a b c d).2.1)] ∧ Blk W (w6.heap.size) 23 #[.int .i64 ((hullS a b c d).1), .int .i64 ((hullS a b c d).2.1)] ∧ Blk W (w7.heap.size) 23 #[Reg.sel (D 6) (.int .i64 ((divS a b c d).1)) (.int .i64 ((meetS a b c d).1)), Reg.sel (D 6) (.int .i64 ((divS a b c d).2.1)) (.int .i64 ((meetS a b c d).2.1))] ∧ Blk W (w8.heap.size) 23 #[.int .i64 ((divS a b c d).1), .int .i64 ((divS a b c d).2.1)])
    (Reg.inl [2, 6]) (Reg.ge [(2, .tuple #[.agg #[.int .i64 ((meetS a b c d).1), .int .i64 ((meetS a b c d).2.1)], .int .i64 ((meetS a b c d).2.2)])]) Reg.None_ (fun _ => Reg.Any) (fun _ _ => False) (Reg.pl []) (Reg.pl [])
    (by kernel_rfl) (by kernel_rfl) (Reg.ge_some _) (fun v => ?_) (fun _ _ _ _ _ h => h) (fun _ _ _ _ _ _ _ _ _ _ _ _ _ => Reg.none_) (fun _ _ _ _ h => h.elim) (fun ops' Q' hops hQ => ?_)
  · exact ⟨(by (repeat' first | with_reducible assumption | with_reducible exact Below.refl _ _ | with_reducible refine Below.alloc ?_ ?_ _ | with_reducible refine Below.drew ?_ | with_reducible refine belowN ?_ _ | with_reducible refine Below.setCell ?_ ?_ _ | go_size)), (show Blk _ _ _ #[.int .i64 (a), .int .i64 (b)] from (by first | with_reducible exact oA | (repeat' first | with_reducible assumption | (with_reducible refine Blk.new' ?_; first | with_reducible rfl | (simp only [World.size_alloc, World.size_setCell, World.size_drew]; done)) | with_reducible refine Blk.alloc ?_ _ | with_reducible refine Blk.drew ?_ | with_reducible refine Blk.drewN ?_ _ | with_reducible apply Blk.both | with_reducible refine Blk.far' ?_ ?_ | (show _ ≠ _; omega)))), (show Blk _ _ _ #[.int .i64 (c), .int .i64 (d)] from (by first | with_reducible exact oB | (repeat' first | with_reducible assumption | (with_reducible refine Blk.new' ?_; first | with_reducible rfl | (simp only [World.size_alloc, World.size_setCell, World.size_drew]; done)) | with_reducible refine Blk.alloc ?_ _ | with_reducible refine Blk.drew ?_ | with_reducible refine Blk.drewN ?_ _ | with_reducible apply Blk.both | with_reducible refine Blk.far' ?_ ?_ | (show _ ≠ _; omega)))), (show Blk _ _ _ #[.int .i64 ((minS a b c d).1), .int .i64 ((minS a b c d).2.1)] from (by first | with_reducible exact oX1 | (repeat' first | with_reducible assumption | (with_reducible refine Blk.new' ?_; first | with_reducible rfl | (simp only [World.size_alloc, World.size_setCell, World.size_drew]; done)) | with_reducible refine Blk.alloc ?_ _ | with_reducible refine Blk.drew ?_ | with_reducible refine Blk.drewN ?_ _ | with_reducible apply Blk.both | with_reducible refine Blk.far' ?_ ?_ | (show _ ≠ _; omega)))), (show Blk _ _ _ #[.int .i64 ((minS a b c d).1), .int .i64 ((minS a b c d).2.1)] from (by first | with_reducible exact oX2 | (repeat' first | with_reducible assumption | (with_reducible refine Blk.new' ?_; first | with_reducible rfl | (simp only [World.size_alloc, World.size_setCell, World.size_drew]; done)) | with_reducible refine Blk.alloc ?_ _ | with_reducible refine Blk.drew ?_ | with_reducible refine Blk.drewN ?_ _ | with_reducible apply Blk.both | with_reducible refine Blk.far' ?_ ?_ | (show _ ≠ _; omega)))), (show Blk _ _ _ #[.int .i64 ((maxS a b c d).1), .int .i64 ((maxS a b c d).2.1)] from (by first | with_reducible exact oX3 | (repeat' first | with_reducible assumption | (with_reducible refine Blk.new' ?_; first | with_reducible rfl | (simp only [World.size_alloc, World.size_setCell, World.size_drew]; done)) | with_reducible refine Blk.alloc ?_ _ | with_reducible refine Blk.drew ?_ | with_reducible refine Blk.drewN ?_ _ | with_reducible apply Blk.both | with_reducible refine Blk.far' ?_ ?_ | (show _ ≠ _; omega)))), (show Blk _ _ _ #[.int .i64 ((maxS a b c d).1), .int .i64 ((maxS a b c d).2.1)] from (by first | with_reducible exact oX4 | (repeat' first | with_reducible assumption | (with_reducible refine Blk.new' ?_; first | with_reducible rfl | (simp only [World.size_alloc, World.size_setCell, World.size_drew]; done)) | with_reducible refine Blk.alloc ?_ _ | with_reducible refine Blk.drew ?_ | with_reducible refine Blk.drewN ?_ _ | with_reducible apply Blk.both | with_reducible refine Blk.far' ?_ ?_ | (show _ ≠ _; omega)))), (show Blk _ _ _ #[.int .i64 ((hullS a b c d).1), .int .i64 ((hullS a b c d).2.1)] from (by first | with_reducible exact oX5 | (repeat' first | with_reducible assumption | (with_reducible refine Blk.new' ?_; first | with_reducible rfl | (simp only [World.size_alloc, World.size_setCell, World.size_drew]; done)) | with_reducible refine Blk.alloc ?_ _ | with_reducible refine Blk.drew ?_ | with_reducible refine Blk.drewN ?_ _ | with_reducible apply Blk.both | with_reducible refine Blk.far' ?_ ?_ | (show _ ≠ _; omega)))), (show Blk _ _ _ #[.int .i64 ((hullS a b c d).1), .int .i64 ((hullS a b c d).2.1)] from (by first | with_reducible exact oX6 | (repeat' first | with_reducible assumption | (with_reducible refine Blk.new' ?_; first | with_reducible rfl | (simp only [World.size_alloc, World.size_setCell, World.size_drew]; done)) | with_reducible refine Blk.alloc ?_ _ | with_reducible refine Blk.drew ?_ | with_reducible refine Blk.drewN ?_ _ | with_reducible apply Blk.both | with_reducible refine Blk.far' ?_ ?_ | (show _ ≠ _; omega)))), (show Blk _ _ _ #[.int .i64 ((divS a b c d).1), .int .i64 ((divS a b c d).2.1)] from (by first | with_reducible exact oX7 | (repeat' first | with_reducible assumption | (with_reducible refine Blk.new' ?_; first | with_reducible rfl | (simp only [World.size_alloc, World.size_setCell, World.size_drew]; done)) | with_reducible refine Blk.alloc ?_ _ | with_reducible refine Blk.drew ?_ | with_reducible refine Blk.drewN ?_ _ | with_reducible apply Blk.both | with_reducible refine Blk.far' ?_ ?_ | (show _ ≠ _; omega)))), (show Blk _ _ _ #[.int .i64 ((divS a b c d).1), .int .i64 ((divS a b c d).2.1)] from (by first | with_reducible exact oX8 | (repeat' first | with_reducible assumption | (with_reducible refine Blk.new' ?_; first | with_reducible rfl | (simp only [World.size_alloc, World.size_setCell, World.size_drew]; done)) | with_reducible refine Blk.alloc ?_ _ | with_reducible refine Blk.drew ?_ | with_reducible refine Blk.drewN ?_ _ | with_reducible apply Blk.both | with_reducible refine Blk.far' ?_ ?_ | (show _ ≠ _; omega))))⟩
  clear B oA oB oX1 oX2 oX3 oX4 oX5 oX6 oX7 oX8
  apply Reg.RC_pure (hc := rfl) (hst := rfl) (hw := rfl) (t := 153) (hd := rfl) (ht := Nat.le_of_ble_eq_true rfl)
  · intro D v W hc hj hf K hK
    obtain ⟨B, oA, oB, oX1, oX2, oX3, oX4, oX5, oX6, oX7, oX8⟩ := hj
    have cA0 : World.cell? W ⟨w.heap.size, 0, none⟩ = some (.int .i64 (a)) := oA.c 0 rfl
    have cA1 : World.cell? W ⟨w.heap.size, 1, none⟩ = some (.int .i64 (b)) := oA.c 1 rfl
    go_step
    exact hK.out
  · rfl
  apply Reg.RC_pure (hc := rfl) (hst := rfl) (hw := rfl) (t := 154) (hd := rfl) (ht := Nat.le_of_ble_eq_true rfl)
  · intro D v W hc hj hf K hK
    obtain ⟨B, oA, oB, oX1, oX2, oX3, oX4, oX5, oX6, oX7, oX8⟩ := hj
    have cB0 : World.cell? W ⟨w.heap.size + 1, 0, none⟩ = some (.int .i64 (c)) := oB.c 0 rfl
    have cB1 : World.cell? W ⟨w.heap.size + 1, 1, none⟩ = some (.int .i64 (d)) := oB.c 1 rfl
    go_step
    exact hK.out
  · rfl
  refine Reg.RC_exact _ (fun _ h => h) rfl (by intro t ht; cases ht; exact Nat.le_of_ble_eq_true rfl) rfl (fun D v W hc hj hf K hK => ?_) (Reg.RC_at (b := ⟨#[_, _, _, _, _, _, _, _, _, _, _, _, _, _, _, _, _, _, _, _, _, _, _, _, _, _, _, _, _, _, _, _, _, _, _, _, _, _, _, _, _, _, _, _, _, _, _, _, _, _, _, _, _, _, _, _, _, _, _, _, _, _, _, _, _, _, _, _, _, _, _, _, _, _, _, _, _, _, _, _, _, _, _, _, _, _, _, _, _, _, _, _, _, _, _, _, _, _, _, _, _, _, _, _, _, _, _, _, _, _, _, _, _, _, _, _, _, _, _, _, _, _, _, _, _, _, _, _, _, _, _, _, _, _, _, _, _, _, _, _, _, _, _, _, _, _, _, _, _, _, _, _, _, _, _, _, _, _, _, _, _, _, _, _, _, _, _, _, _, _, _, _, _, _, _, _, _, _, _, _, _, _, _, _, _, _, _, _, _, _, _, _, _, _, _, _, _, _, _, _, _, _, _, _, _, _, _, _, _, _, _, _, _, _, _, _, _, _, _, _, _, _, _, _, _, _, _, _, _, _, _, _, _, _, _, _, _, _, _, _, _, _, _, _, _, _, _], []⟩) rfl ?_)
  · obtain ⟨B, oA, oB, oX1, oX2, oX3, oX4, oX5, oX6, oX7, oX8⟩ := hj
    go_step
    refine (meet_p a b c d _).mono ?_
    rintro e W' ⟨rfl, hb⟩
    have st : Steps W W' := hb
    exact hK.out _ _ Reg.any ⟨below_steps B (Nat.le_refl _) st, oA.steps st, oB.steps st, oX1.steps st, oX2.steps st, oX3.steps st, oX4.steps st, oX5.steps st, oX6.steps st, oX7.steps st, oX8.steps st⟩ Reg.none_ rfl
  apply Reg.RC_pure (hc := rfl) (hst := rfl) (hw := rfl) (t := 152) (hd := rfl) (ht := Nat.le_of_ble_eq_true rfl)
  · intro D v W hc hj hf K hK
    go_step
    exact hK.out
  · rfl
  apply Reg.RC_pure (hc := rfl) (hst := rfl) (hw := rfl) (t := 156) (hd := rfl) (ht := Nat.le_of_ble_eq_true rfl)
  · intro D v W hc hj hf K hK
    go_step
    exact hK.out
  · rfl
  apply Reg.RC_pure (hc := rfl) (hst := rfl) (hw := rfl) (t := 157) (hd := rfl) (ht := Nat.le_of_ble_eq_true rfl)
  · intro D v W hc hj hf K hK
    go_step
    exact hK.out
  · rfl
  refine Reg.RC_call rfl (by intro t ht; cases ht) rfl (fun D v W hc hj hf K hK => ?_) (fun _ _ => Reg.RC_at (b := ⟨_, []⟩) rfl ?_)
  · obtain ⟨B, oA, oB, oX1, oX2, oX3, oX4, oX5, oX6, oX7, oX8⟩ := hj
    have hs : D 6 = false := hc.1
    have oX7 : Blk W (w7.heap.size) 23 #[.int .i64 ((divS a b c d).1), .int .i64 ((divS a b c d).2.1)] := by have o := oX7; simp only [hs, Reg.sel_false] at o; exact o
    have lX7 := oX7.lt
    have fX7 := oX7.fr
    have cX70 : World.cell? W ⟨w7.heap.size, 0, none⟩ = some (.int .i64 ((divS a b c d).1)) := oX7.c 0 rfl
    have cX71 : World.cell? W ⟨w7.heap.size, 1, none⟩ = some (.int .i64 ((divS a b c d).2.1)) := oX7.c 1 rfl
    go_step
    exact hK.out undef _ Reg.any ⟨(by (repeat' first | with_reducible assumption | with_reducible exact Below.refl _ _ | with_reducible refine Below.alloc ?_ ?_ _ | with_reducible refine Below.drew ?_ | with_reducible refine belowN ?_ _ | with_reducible refine Below.setCell ?_ ?_ _ | go_size)), (show Blk _ _ _ #[.int .i64 (a), .int .i64 (b)] from (by (repeat' first | with_reducible assumption | (with_reducible refine Blk.new' ?_; first | with_reducible rfl | (simp only [World.size_alloc, World.size_setCell, World.size_drew]; done)) | with_reducible refine Blk.alloc ?_ _ | with_reducible refine Blk.drew ?_ | with_reducible refine Blk.drewN ?_ _ | with_reducible apply Blk.both | with_reducible refine Blk.far' ?_ ?_ | (show _ ≠ _; omega)))), (show Blk _ _ _ #[.int .i64 (c), .int .i64 (d)] from (by (repeat' first | with_reducible assumption | (with_reducible refine Blk.new' ?_; first | with_reducible rfl | (simp only [World.size_alloc, World.size_setCell, World.size_drew]; done)) | with_reducible refine Blk.alloc ?_ _ | with_reducible refine Blk.drew ?_ | with_reducible refine Blk.drewN ?_ _ | with_reducible apply Blk.both | with_reducible refine Blk.far' ?_ ?_ | (show _ ≠ _; omega)))), (show Blk _ _ _ #[.int .i64 ((minS a b c d).1), .int .i64 ((minS a b c d).2.1)] from (by (repeat' first | with_reducible assumption | (with_reducible refine Blk.new' ?_; first | with_reducible rfl | (simp only [World.size_alloc, World.size_setCell, World.size_drew]; done)) | with_reducible refine Blk.alloc ?_ _ | with_reducible refine Blk.drew ?_ | with_reducible refine Blk.drewN ?_ _ | with_reducible apply Blk.both | with_reducible refine Blk.far' ?_ ?_ | (show _ ≠ _; omega)))), (show Blk _ _ _ #[.int .i64 ((minS a b c d).1), .int .i64 ((minS a b c d).2.1)] from (by (repeat' first | with_reducible assumption | (with_reducible refine Blk.new' ?_; first | with_reducible rfl | (simp only [World.size_alloc, World.size_setCell, World.size_drew]; done)) | with_reducible refine Blk.alloc ?_ _ | with_reducible refine Blk.drew ?_ | with_reducible refine Blk.drewN ?_ _ | with_reducible apply Blk.both | with_reducible refine Blk.far' ?_ ?_ | (show _ ≠ _; omega)))), (show Blk _ _ _ #[.int .i64 ((maxS a b c d).1), .int .i64 ((maxS a b c d).2.1)] from (by (repeat' first | with_reducible assumption | (with_reducible refine Blk.new' ?_; first | with_reducible rfl | (simp only [World.size_alloc, World.size_setCell, World.size_drew]; done)) | with_reducible refine Blk.alloc ?_ _ | with_reducible refine Blk.drew ?_ | with_reducible refine Blk.drewN ?_ _ | with_reducible apply Blk.both | with_reducible refine Blk.far' ?_ ?_ | (show _ ≠ _; omega)))), (show Blk _ _ _ #[.int .i64 ((maxS a b c d).1), .int .i64 ((maxS a b c d).2.1)] from (by (repeat' first | with_reducible assumption | (with_reducible refine Blk.new' ?_; first | with_reducible rfl | (simp only [World.size_alloc, World.size_setCell, World.size_drew]; done)) | with_reducible refine Blk.alloc ?_ _ | with_reducible refine Blk.drew ?_ | with_reducible refine Blk.drewN ?_ _ | with_reducible apply Blk.both | with_reducible refine Blk.far' ?_ ?_ | (show _ ≠ _; omega)))), (show Blk _ _ _ #[.int .i64 ((hullS a b c d).1), .int .i64 ((hullS a b c d).2.1)] from (by (repeat' first | with_reducible assumption | (with_reducible refine Blk.new' ?_; first | with_reducible rfl | (simp only [World.size_alloc, World.size_setCell, World.size_drew]; done)) | with_reducible refine Blk.alloc ?_ _ | with_reducible refine Blk.drew ?_ | with_reducible refine Blk.drewN ?_ _ | with_reducible apply Blk.both | with_reducible refine Blk.far' ?_ ?_ | (show _ ≠ _; omega)))), (show Blk _ _ _ #[.int .i64 ((hullS a b c d).1), .int .i64 ((hullS a b c d).2.1)] from (by (repeat' first | with_reducible assumption | (with_reducible refine Blk.new' ?_; first | with_reducible rfl | (simp only [World.size_alloc, World.size_setCell, World.size_drew]; done)) | with_reducible refine Blk.alloc ?_ _ | with_reducible refine Blk.drew ?_ | with_reducible refine Blk.drewN ?_ _ | with_reducible apply Blk.both | with_reducible refine Blk.far' ?_ ?_ | (show _ ≠ _; omega)))), (show Blk _ _ _ #[.int .i64 ((meetS a b c d).1), .int .i64 ((meetS a b c d).2.1)] from (Blk.set2 (cs' := #[.int .i64 ((meetS a b c d).1), .int .i64 ((meetS a b c d).2.1)]) (Blk.set2 (cs' := #[.int .i64 ((meetS a b c d).1), .int .i64 ((divS a b c d).2.1)]) oX7 (i := 0) rfl) (i := 1) rfl)), (show Blk _ _ _ #[.int .i64 ((divS a b c d).1), .int .i64 ((divS a b c d).2.1)] from (by (repeat' first | with_reducible assumption | (with_reducible refine Blk.new' ?_; first | with_reducible rfl | (simp only [World.size_alloc, World.size_setCell, World.size_drew]; done)) | with_reducible refine Blk.alloc ?_ _ | with_reducible refine Blk.drew ?_ | with_reducible refine Blk.drewN ?_ _ | with_reducible apply Blk.both | with_reducible refine Blk.far' ?_ ?_ | (show _ ≠ _; omega))))⟩ Reg.none_ trivial
  apply Reg.RC_pure (hc := rfl) (hst := rfl) (hw := rfl) (t := 18) (hd := rfl) (ht := Nat.le_of_ble_eq_true rfl)
  · intro D v W hc hj hf K hK
    go_step
    exact hK.out
  · rfl
  refine Reg.RC_end (fun D v W hd hj hf => ?_)
  obtain ⟨B, oA, oB, oX1, oX2, oX3, oX4, oX5, oX6, oX7, oX8⟩ := hj
  have e6 : D 6 = true := hd 6 (by decide)
  have oX7 : Blk W (w7.heap.size) 23 #[.int .i64 ((meetS a b c d).1), .int .i64 ((meetS a b c d).2.1)] := by have o := oX7; simp only [e6, Reg.sel_true] at o; exact o
  clear e6
  clear hd hf
  refine hQ _ _ ?_
  clear hQ hops Q' ops'
  go_upto_region 18 with fail
  refine Reg.wp_chain_plain (fun D v W => Below w.heap.size w W ∧ Blk W (w.heap.size) 23 #[.int .i64 (a), .int .i64 (b)] ∧ Blk W (w.heap.size + 1) 23 #[.int .i64 (c), .int .i64 (d)] ∧ Blk W (w1.heap.size) 23 #[.int .i64 ((minS a b c d).1), .int .i64 ((minS a b c d).2.1)] ∧ Blk W (w2.heap.size) 23 #[.int .i64 ((minS a b c d).1), .int .i64 ((minS a b c d).2.1)] ∧ Blk W (w3.heap.size) 23 #[.int .i64 ((maxS a b c d).1), .int .i64 ((maxS a b c d).2.1)] ∧ Blk W (w4.heap.size) 23 #[.int .i64 ((maxS a b c d).1), .int .i64 ((maxS a b c d).2.1)] ∧ Blk W (w5.heap.size) 23 #[.int .i64 ((hullS a b c d).1), .int .i64 ((hullS a b c d).2.1)] ∧ Blk W (w6.heap.size) 23 #[.int .i64 ((hullS a b c d).1), .int .i64 ((hullS a b c d).2.1)] ∧ Blk W (w7.heap.size) 23 #[.int .i64 ((meetS a b c d).1), .int .i64 ((meetS a b c d).2.1)] ∧ Blk W (w8.heap.size) 23 #[Reg.sel (D 6) (.int .i64 ((divS a b c d).1)) (.int .i64 ((meetS a b c d).1)), Reg.sel (D 6) (.int .i64 ((divS a b c d).2.1)) (.int .i64 ((meetS a b c d).2.1))])
    (Reg.inl [2, 6]) (Reg.ge [(2, .tuple #[.agg #[.int .i64 ((meetS a b c d).1), .int .i64 ((meetS a b c d).2.1)], .int .i64 ((meetS a b c d).2.2)])]) Reg.None_ (fun _ => Reg.Any) (fun _ _ => False) (Reg.pl []) (Reg.pl [])
    (by kernel_rfl) (by kernel_rfl) (Reg.ge_some _) (fun v => ?_) (fun _ _ _ _ _ h => h) (fun _ _ _ _ _ _ _ _ _ _ _ _ _ => Reg.none_) (fun _ _ _ _ h => h.elim) (fun ops' Q' hops hQ => ?_)
  · exact ⟨(by (repeat' first | with_reducible assumption | with_reducible exact Below.refl _ _ | with_reducible refine Below.alloc ?_ ?_ _ | with_reducible refine Below.drew ?_ | with_reducible refine belowN ?_ _ | with_reducible refine Below.setCell ?_ ?_ _ | go_size)), (show Blk _ _ _ #[.int .i64 (a), .int .i64 (b)] from (by first | with_reducible exact oA | (repeat' first | with_reducible assumption | (with_reducible refine Blk.new' ?_; first | with_reducible rfl | (simp only [World.size_alloc, World.size_setCell, World.size_drew]; done)) | with_reducible refine Blk.alloc ?_ _ | with_reducible refine Blk.drew ?_ | with_reducible refine Blk.drewN ?_ _ | with_reducible apply Blk.both | with_reducible refine Blk.far' ?_ ?_ | (show _ ≠ _; omega)))), (show Blk _ _ _ #[.int .i64 (c), .int .i64 (d)] from (by first | with_reducible exact oB | (repeat' first | with_reducible assumption | (with_reducible refine Blk.new' ?_; first | with_reducible rfl | (simp only [World.size_alloc, World.size_setCell, World.size_drew]; done)) | with_reducible refine Blk.alloc ?_ _ | with_reducible refine Blk.drew ?_ | with_reducible refine Blk.drewN ?_ _ | with_reducible apply Blk.both | with_reducible refine Blk.far' ?_ ?_ | (show _ ≠ _; omega)))), (show Blk _ _ _ #[.int .i64 ((minS a b c d).1), .int .i64 ((minS a b c d).2.1)] from (by first | with_reducible exact oX1 | (repeat' first | with_reducible assumption | (with_reducible refine Blk.new' ?_; first | with_reducible rfl | (simp only [World.size_alloc, World.size_setCell, World.size_drew]; done)) | with_reducible refine Blk.alloc ?_ _ | with_reducible refine Blk.drew ?_ | with_reducible refine Blk.drewN ?_ _ | with_reducible apply Blk.both | with_reducible refine Blk.far' ?_ ?_ | (show _ ≠ _; omega)))), (show Blk _ _ _ #[.int .i64 ((minS a b c d).1), .int .i64 ((minS a b c d).2.1)] from (by first | with_reducible exact oX2 | (repeat' first | with_reducible assumption | (with_reducible refine Blk.new' ?_; first | with_reducible rfl | (simp only [World.size_alloc, World.size_setCell, World.size_drew]; done)) | with_reducible refine Blk.alloc ?_ _ | with_reducible refine Blk.drew ?_ | with_reducible refine Blk.drewN ?_ _ | with_reducible apply Blk.both | with_reducible refine Blk.far' ?_ ?_ | (show _ ≠ _; omega)))), (show Blk _ _ _ #[.int .i64 ((maxS a b c d).1), .int .i64 ((maxS a b c d).2.1)] from (by first | with_reducible exact oX3 | (repeat' first | with_reducible assumption | (with_reducible refine Blk.new' ?_; first | with_reducible rfl | (simp only [World.size_alloc, World.size_setCell, World.size_drew]; done)) | with_reducible refine Blk.alloc ?_ _ | with_reducible refine Blk.drew ?_ | with_reducible refine Blk.drewN ?_ _ | with_reducible apply Blk.both | with_reducible refine Blk.far' ?_ ?_ | (show _ ≠ _; omega)))), (show Blk _ _ _ #[.int .i64 ((maxS a b c d).1), .int .i64 ((maxS a b c d).2.1)] from (by first | with_reducible exact oX4 | (repeat' first | with_reducible assumption | (with_reducible refine Blk.new' ?_; first | with_reducible rfl | (simp only [World.size_alloc, World.size_setCell, World.size_drew]; done)) | with_reducible refine Blk.alloc ?_ _ | with_reducible refine Blk.drew ?_ | with_reducible refine Blk.drewN ?_ _ | with_reducible apply Blk.both | with_reducible refine Blk.far' ?_ ?_ | (show _ ≠ _; omega)))), (show Blk _ _ _ #[.int .i64 ((hullS a b c d).1), .int .i64 ((hullS a b c d).2.1)] from (by first | with_reducible exact oX5 | (repeat' first | with_reducible assumption | (with_reducible refine Blk.new' ?_; first | with_reducible rfl | (simp only [World.size_alloc, World.size_setCell, World.size_drew]; done)) | with_reducible refine Blk.alloc ?_ _ | with_reducible refine Blk.drew ?_ | with_reducible refine Blk.drewN ?_ _ | with_reducible apply Blk.both | with_reducible refine Blk.far' ?_ ?_ | (show _ ≠ _; omega)))), (show Blk _ _ _ #[.int .i64 ((hullS a b c d).1), .int .i64 ((hullS a b c d).2.1)] from (by first | with_reducible exact oX6 | (repeat' first | with_reducible assumption | (with_reducible refine Blk.new' ?_; first | with_reducible rfl | (simp only [World.size_alloc, World.size_setCell, World.size_drew]; done)) | with_reducible refine Blk.alloc ?_ _ | with_reducible refine Blk.drew ?_ | with_reducible refine Blk.drewN ?_ _ | with_reducible apply Blk.both | with_reducible refine Blk.far' ?_ ?_ | (show _ ≠ _; omega)))), (show Blk _ _ _ #[.int .i64 ((meetS a b c d).1), .int .i64 ((meetS a b c d).2.1)] from (by first | with_reducible exact oX7 | (repeat' first | with_reducible assumption | (with_reducible refine Blk.new' ?_; first | with_reducible rfl | (simp only [World.size_alloc, World.size_setCell, World.size_drew]; done)) | with_reducible refine Blk.alloc ?_ _ | with_reducible refine Blk.drew ?_ | with_reducible refine Blk.drewN ?_ _ | with_reducible apply Blk.both | with_reducible refine Blk.far' ?_ ?_ | (show _ ≠ _; omega)))), (show Blk _ _ _ #[.int .i64 ((divS a b c d).1), .int .i64 ((divS a b c d).2.1)] from (by first | with_reducible exact oX8 | (repeat' first | with_reducible assumption | (with_reducible refine Blk.new' ?_; first | with_reducible rfl | (simp only [World.size_alloc, World.size_setCell, World.size_drew]; done)) | with_reducible refine Blk.alloc ?_ _ | with_reducible refine Blk.drew ?_ | with_reducible refine Blk.drewN ?_ _ | with_reducible apply Blk.both | with_reducible refine Blk.far' ?_ ?_ | (show _ ≠ _; omega))))⟩
  clear B oA oB oX1 oX2 oX3 oX4 oX5 oX6 oX7 oX8
  apply Reg.RC_pure (hc := rfl) (hst := rfl) (hw := rfl) (t := 159) (hd := rfl) (ht := Nat.le_of_ble_eq_true rfl)
  · intro D v W hc hj hf K hK
    obtain ⟨B, oA, oB, oX1, oX2, oX3, oX4, oX5, oX6, oX7, oX8⟩ := hj
    have cA0 : World.cell? W ⟨w.heap.size, 0, none⟩ = some (.int .i64 (a)) := oA.c 0 rfl
    have cA1 : World.cell? W ⟨w.heap.size, 1, none⟩ = some (.int .i64 (b)) := oA.c 1 rfl
    go_step
    exact hK.out
  · rfl
  apply Reg.RC_pure (hc := rfl) (hst := rfl) (hw := rfl) (t := 160) (hd := rfl) (ht := Nat.le_of_ble_eq_true rfl)
  · intro D v W hc hj hf K hK
    obtain ⟨B, oA, oB, oX1, oX2, oX3, oX4, oX5, oX6, oX7, oX8⟩ := hj
    have cB0 : World.cell? W ⟨w.heap.size + 1, 0, none⟩ = some (.int .i64 (c)) := oB.c 0 rfl
    have cB1 : World.cell? W ⟨w.heap.size + 1, 1, none⟩ = some (.int .i64 (d)) := oB.c 1 rfl
    go_step
    exact hK.out
  · rfl
  refine Reg.RC_exact _ (fun _ h => h) rfl (by intro t ht; cases ht; exact Nat.le_of_ble_eq_true rfl) rfl (fun D v W hc hj hf K hK => ?_) (Reg.RC_at (b := ⟨#[_, _, _, _, _, _, _, _, _, _, _, _, _, _, _, _, _, _, _, _, _, _, _, _, _, _, _, _, _, _, _, _, _, _, _, _, _, _, _, _, _, _, _, _, _, _, _, _, _, _, _, _, _, _, _, _, _, _, _, _, _, _, _, _, _, _, _, _, _, _, _, _, _, _, _, _, _, _, _, _, _, _, _, _, _, _, _, _, _, _, _, _, _, _, _, _, _, _, _, _, _, _, _, _, _, _, _, _, _, _, _, _, _, _, _, _, _, _, _, _, _, _, _, _, _, _, _, _, _, _, _, _, _, _, _, _, _, _, _, _, _, _, _, _, _, _, _, _, _, _, _, _, _, _, _, _, _, _, _, _, _, _, _, _, _, _, _, _, _, _, _, _, _, _, _, _, _, _, _, _, _, _, _, _, _, _, _, _, _, _, _, _, _, _, _, _, _, _, _, _, _, _, _, _, _, _, _, _, _, _, _, _, _, _, _, _, _, _, _, _, _, _, _, _, _, _, _, _, _, _, _, _, _, _, _, _, _, _, _, _, _, _, _, _, _, _, _], []⟩) rfl ?_)
  · obtain ⟨B, oA, oB, oX1, oX2, oX3, oX4, oX5, oX6, oX7, oX8⟩ := hj
    go_step
    refine (rmeet a b c d _).mono ?_
    rintro e W' ⟨rfl, hb⟩
    have st : Steps W W' := hb
    exact hK.out _ _ Reg.any ⟨below_steps B (Nat.le_refl _) st, oA.steps st, oB.steps st, oX1.steps st, oX2.steps st, oX3.steps st, oX4.steps st, oX5.steps st, oX6.steps st, oX7.steps st, oX8.steps st⟩ Reg.none_ rfl
  apply Reg.RC_pure (hc := rfl) (hst := rfl) (hw := rfl) (t := 158) (hd := rfl) (ht := Nat.le_of_ble_eq_true rfl)
  · intro D v W hc hj hf K hK
    go_step
    exact hK.out
  · rfl
  apply Reg.RC_pure (hc := rfl) (hst := rfl) (hw := rfl) (t := 162) (hd := rfl) (ht := Nat.le_of_ble_eq_true rfl)
  · intro D v W hc hj hf K hK
    go_step
    exact hK.out
  · rfl
  apply Reg.RC_pure (hc := rfl) (hst := rfl) (hw := rfl) (t := 163) (hd := rfl) (ht := Nat.le_of_ble_eq_true rfl)
  · intro D v W hc hj hf K hK
    go_step
    exact hK.out
  · rfl
  refine Reg.RC_call rfl (by intro t ht; cases ht) rfl (fun D v W hc hj hf K hK => ?_) (fun _ _ => Reg.RC_at (b := ⟨_, []⟩) rfl ?_)
  · obtain ⟨B, oA, oB, oX1, oX2, oX3, oX4, oX5, oX6, oX7, oX8⟩ := hj
    have hs : D 6 = false := hc.1
    have oX8 : Blk W (w8.heap.size) 23 #[.int .i64 ((divS a b c d).1), .int .i64 ((divS a b c d).2.1)] := by have o := oX8; simp only [hs, Reg.sel_false] at o; exact o
    have lX8 := oX8.lt
    have fX8 := oX8.fr
    have cX80 : World.cell? W ⟨w8.heap.size, 0, none⟩ = some (.int .i64 ((divS a b c d).1)) := oX8.c 0 rfl
    have cX81 : World.cell? W ⟨w8.heap.size, 1, none⟩ = some (.int .i64 ((divS a b c d).2.1)) := oX8.c 1 rfl
    go_step
    exact hK.out undef _ Reg.any ⟨(by (repeat' first | with_reducible assumption | with_reducible exact Below.refl _ _ | with_reducible refine Below.alloc ?_ ?_ _ | with_reducible refine Below.drew ?_ | with_reducible refine belowN ?_ _ | with_reducible refine Below.setCell ?_ ?_ _ | go_size)), (show Blk _ _ _ #[.int .i64 (a), .int .i64 (b)] from (by (repeat' first | with_reducible assumption | (with_reducible refine Blk.new' ?_; first | with_reducible rfl | (simp only [World.size_alloc, World.size_setCell, World.size_drew]; done)) | with_reducible refine Blk.alloc ?_ _ | with_reducible refine Blk.drew ?_ | with_reducible refine Blk.drewN ?_ _ | with_reducible apply Blk.both | with_reducible refine Blk.far' ?_ ?_ | (show _ ≠ _; omega)))), (show Blk _ _ _ #[.int .i64 (c), .int .i64 (d)] from (by (repeat' first | with_reducible assumption | (with_reducible refine Blk.new' ?_; first | with_reducible rfl | (simp only [World.size_alloc, World.size_setCell, World.size_drew]; done)) | with_reducible refine Blk.alloc ?_ _ | with_reducible refine Blk.drew ?_ | with_reducible refine Blk.drewN ?_ _ | with_reducible apply Blk.both | with_reducible refine Blk.far' ?_ ?_ | (show _ ≠ _; omega)))), (show Blk _ _ _ #[.int .i64 ((minS a b c d).1), .int .i64 ((minS a b c d).2.1)] from (by (repeat' first | with_reducible assumption | (with_reducible refine Blk.new' ?_; first | with_reducible rfl | (simp only [World.size_alloc, World.size_setCell, World.size_drew]; done)) | with_reducible refine Blk.alloc ?_ _ | with_reducible refine Blk.drew ?_ | with_reducible refine Blk.drewN ?_ _ | with_reducible apply Blk.both | with_reducible refine Blk.far' ?_ ?_ | (show _ ≠ _; omega)))), (show Blk _ _ _ #[.int .i64 ((minS a b c d).1), .int .i64 ((minS a b c d).2.1)] from (by (repeat' first | with_reducible assumption | (with_reducible refine Blk.new' ?_; first | with_reducible rfl | (simp only [World.size_alloc, World.size_setCell, World.size_drew]; done)) | with_reducible refine Blk.alloc ?_ _ | with_reducible refine Blk.drew ?_ | with_reducible refine Blk.drewN ?_ _ | with_reducible apply Blk.both | with_reducible refine Blk.far' ?_ ?_ | (show _ ≠ _; omega)))), (show Blk _ _ _ #[.int .i64 ((maxS a b c d).1), .int .i64 ((maxS a b c d).2.1)] from (by (repeat' first | with_reducible assumption | (with_reducible refine Blk.new' ?_; first | with_reducible rfl | (simp only [World.size_alloc, World.size_setCell, World.size_drew]; done)) | with_reducible refine Blk.alloc ?_ _ | with_reducible refine Blk.drew ?_ | with_reducible refine Blk.drewN ?_ _ | with_reducible apply Blk.both | with_reducible refine Blk.far' ?_ ?_ | (show _ ≠ _; omega)))), (show Blk _ _ _ #[.int .i64 ((maxS a b c d).1), .int .i64 ((maxS a b c d).2.1)] from (by (repeat' first | with_reducible assumption | (with_reducible refine Blk.new' ?_; first | with_reducible rfl | (simp only [World.size_alloc, World.size_setCell, World.size_drew]; done)) | with_reducible refine Blk.alloc ?_ _ | with_reducible refine Blk.drew ?_ | with_reducible refine Blk.drewN ?_ _ | with_reducible apply Blk.both | with_reducible refine Blk.far' ?_ ?_ | (show _ ≠ _; omega)))), (show Blk _ _ _ #[.int .i64 ((hullS a b c d).1), .int .i64 ((hullS a b c d).2.1)] from (by (repeat' first | with_reducible assumption | (with_reducible refine Blk.new' ?_; first | with_reducible rfl | (simp only [World.size_alloc, World.size_setCell, World.size_drew]; done)) | with_reducible refine Blk.alloc ?_ _ | with_reducible refine Blk.drew ?_ | with_reducible refine Blk.drewN ?_ _ | with_reducible apply Blk.both | with_reducible refine Blk.far' ?_ ?_ | (show _ ≠ _; omega)))), (show Blk _ _ _ #[.int .i64 ((hullS a b c d).1), .int .i64 ((hullS a b c d).2.1)] from (by (repeat' first | with_reducible assumption | (with_reducible refine Blk.new' ?_; first | with_reducible rfl | (simp only [World.size_alloc, World.size_setCell, World.size_drew]; done)) | with_reducible refine Blk.alloc ?_ _ | with_reducible refine Blk.drew ?_ | with_reducible refine Blk.drewN ?_ _ | with_reducible apply Blk.both | with_reducible refine Blk.far' ?_ ?_ | (show _ ≠ _; omega)))), (show Blk _ _ _ #[.int .i64 ((meetS a b c d).1), .int .i64 ((meetS a b c d).2.1)] from (by (repeat' first | with_reducible assumption | (with_reducible refine Blk.new' ?_; first | with_reducible rfl | (simp only [World.size_alloc, World.size_setCell, World.size_drew]; done)) | with_reducible refine Blk.alloc ?_ _ | with_reducible refine Blk.drew ?_ | with_reducible refine Blk.drewN ?_ _ | with_reducible apply Blk.both | with_reducible refine Blk.far' ?_ ?_ | (show _ ≠ _; omega)))), (show Blk _ _ _ #[.int .i64 ((meetS a b c d).1), .int .i64 ((meetS a b c d).2.1)] from (Blk.set2 (cs' := #[.int .i64 ((meetS a b c d).1), .int .i64 ((meetS a b c d).2.1)]) (Blk.set2 (cs' := #[.int .i64 ((meetS a b c d).1), .int .i64 ((divS a b c d).2.1)]) oX8 (i := 0) rfl) (i := 1) rfl))⟩ Reg.none_ trivial
  apply Reg.RC_pure (hc := rfl) (hst := rfl) (hw := rfl) (t := 20) (hd := rfl) (ht := Nat.le_of_ble_eq_true rfl)
  · intro D v W hc hj hf K hK
    go_step
    exact hK.out
  · rfl
  refine Reg.RC_end (fun D v W hd hj hf => ?_)
  obtain ⟨B, oA, oB, oX1, oX2, oX3, oX4, oX5, oX6, oX7, oX8⟩ := hj
  have e6 : D 6 = true := hd 6 (by decide)
  have oX8 : Blk W (w8.heap.size) 23 #[.int .i64 ((meetS a b c d).1), .int .i64 ((meetS a b c d).2.1)] := by have o := oX8; simp only [e6, Reg.sel_true] at o; exact o
  clear e6
  clear hd hf
  refine hQ _ _ ?_
  clear hQ hops Q' ops'
  have cA0 : World.cell? _ ⟨w.heap.size, 0, none⟩ = some (.int .i64 (a)) := oA.c 0 rfl
  have cA1 : World.cell? _ ⟨w.heap.size, 1, none⟩ = some (.int .i64 (b)) := oA.c 1 rfl
  have lA := oA.lt
  have cB0 : World.cell? _ ⟨w.heap.size + 1, 0, none⟩ = some (.int .i64 (c)) := oB.c 0 rfl
  have cB1 : World.cell? _ ⟨w.heap.size + 1, 1, none⟩ = some (.int .i64 (d)) := oB.c 1 rfl
  have lB := oB.lt
  go_wp2_with fail
  refine (in_p a b c d _).mono ?_
  rintro e w9 ⟨rfl, hb9⟩
  have st : Steps _ w9 := hb9
  have Bn : Below w.heap.size w w9 := below_steps (by (repeat' first | with_reducible assumption | with_reducible exact Below.refl _ _ | with_reducible refine Below.alloc ?_ ?_ _ | with_reducible refine Below.drew ?_ | with_reducible refine belowN ?_ _ | with_reducible refine Below.setCell ?_ ?_ _ | go_size)) (Nat.le_refl _) st
  have nA : Blk w9 (w.heap.size) 23 #[.int .i64 (a), .int .i64 (b)] := Blk.steps (by (repeat' first | with_reducible assumption | (with_reducible refine Blk.new' ?_; first | with_reducible rfl | (simp only [World.size_alloc, World.size_setCell, World.size_drew]; done)) | with_reducible refine Blk.alloc ?_ _ | with_reducible refine Blk.drew ?_ | with_reducible refine Blk.drewN ?_ _ | with_reducible apply Blk.both | with_reducible refine Blk.far' ?_ ?_ | (show _ ≠ _; omega))) st
  have nB : Blk w9 (w.heap.size + 1) 23 #[.int .i64 (c), .int .i64 (d)] := Blk.steps (by (repeat' first | with_reducible assumption | (with_reducible refine Blk.new' ?_; first | with_reducible rfl | (simp only [World.size_alloc, World.size_setCell, World.size_drew]; done)) | with_reducible refine Blk.alloc ?_ _ | with_reducible refine Blk.drew ?_ | with_reducible refine Blk.drewN ?_ _ | with_reducible apply Blk.both | with_reducible refine Blk.far' ?_ ?_ | (show _ ≠ _; omega))) st
  have nX1 : Blk w9 (w1.heap.size) 23 #[.int .i64 ((minS a b c d).1), .int .i64 ((minS a b c d).2.1)] := Blk.steps (by (repeat' first | with_reducible assumption | (with_reducible refine Blk.new' ?_; first | with_reducible rfl | (simp only [World.size_alloc, World.size_setCell, World.size_drew]; done)) | with_reducible refine Blk.alloc ?_ _ | with_reducible refine Blk.drew ?_ | with_reducible refine Blk.drewN ?_ _ | with_reducible apply Blk.both | with_reducible refine Blk.far' ?_ ?_ | (show _ ≠ _; omega))) st
  have nX2 : Blk w9 (w2.heap.size) 23 #[.int .i64 ((minS a b c d).1), .int .i64 ((minS a b c d).2.1)] := Blk.steps (by (repeat' first | with_reducible assumption | (with_reducible refine Blk.new' ?_; first | with_reducible rfl | (simp only [World.size_alloc, World.size_setCell, World.size_drew]; done)) | with_reducible refine Blk.alloc ?_ _ | with_reducible refine Blk.drew ?_ | with_reducible refine Blk.drewN ?_ _ | with_reducible apply Blk.both | with_reducible refine Blk.far' ?_ ?_ | (show _ ≠ _; omega))) st
  have nX3 : Blk w9 (w3.heap.size) 23 #[.int .i64 ((maxS a b c d).1), .int .i64 ((maxS a b c d).2.1)] := Blk.steps (by (repeat' first | with_reducible assumption | (with_reducible refine Blk.new' ?_; first | with_reducible rfl | (simp only [World.size_alloc, World.size_setCell, World.size_drew]; done)) | with_reducible refine Blk.alloc ?_ _ | with_reducible refine Blk.drew ?_ | with_reducible refine Blk.drewN ?_ _ | with_reducible apply Blk.both | with_reducible refine Blk.far' ?_ ?_ | (show _ ≠ _; omega))) st
  have nX4 : Blk w9 (w4.heap.size) 23 #[.int .i64 ((maxS a b c d).1), .int .i64 ((maxS a b c d).2.1)] := Blk.steps (by (repeat' first | with_reducible assumption | (with_reducible refine Blk.new' ?_; first | with_reducible rfl | (simp only [World.size_alloc, World.size_setCell, World.size_drew]; done)) | with_reducible refine Blk.alloc ?_ _ | with_reducible refine Blk.drew ?_ | with_reducible refine Blk.drewN ?_ _ | with_reducible apply Blk.both | with_reducible refine Blk.far' ?_ ?_ | (show _ ≠ _; omega))) st
  have nX5 : Blk w9 (w5.heap.size) 23 #[.int .i64 ((hullS a b c d).1), .int .i64 ((hullS a b c d).2.1)] := Blk.steps (by (repeat' first | with_reducible assumption | (with_reducible refine Blk.new' ?_; first | with_reducible rfl | (simp only [World.size_alloc, World.size_setCell, World.size_drew]; done)) | with_reducible refine Blk.alloc ?_ _ | with_reducible refine Blk.drew ?_ | with_reducible refine Blk.drewN ?_ _ | with_reducible apply Blk.both | with_reducible refine Blk.far' ?_ ?_ | (show _ ≠ _; omega))) st
  have nX6 : Blk w9 (w6.heap.size) 23 #[.int .i64 ((hullS a b c d).1), .int .i64 ((hullS a b c d).2.1)] := Blk.steps (by (repeat' first | with_reducible assumption | (with_reducible refine Blk.new' ?_; first | with_reducible rfl | (simp only [World.size_alloc, World.size_setCell, World.size_drew]; done)) | with_reducible refine Blk.alloc ?_ _ | with_reducible refine Blk.drew ?_ | with_reducible refine Blk.drewN ?_ _ | with_reducible apply Blk.both | with_reducible refine Blk.far' ?_ ?_ | (show _ ≠ _; omega))) st
  have nX7 : Blk w9 (w7.heap.size) 23 #[.int .i64 ((meetS a b c d).1), .int .i64 ((meetS a b c d).2.1)] := Blk.steps (by (repeat' first | with_reducible assumption | (with_reducible refine Blk.new' ?_; first | with_reducible rfl | (simp only [World.size_alloc, World.size_setCell, World.size_drew]; done)) | with_reducible refine Blk.alloc ?_ _ | with_reducible refine Blk.drew ?_ | with_reducible refine Blk.drewN ?_ _ | with_reducible apply Blk.both | with_reducible refine Blk.far' ?_ ?_ | (show _ ≠ _; omega))) st
  have nX8 : Blk w9 (w8.heap.size) 23 #[.int .i64 ((meetS a b c d).1), .int .i64 ((meetS a b c d).2.1)] := Blk.steps (by (repeat' first | with_reducible assumption | (with_reducible refine Blk.new' ?_; first | with_reducible rfl | (simp only [World.size_alloc, World.size_setCell, World.size_drew]; done)) | with_reducible refine Blk.alloc ?_ _ | with_reducible refine Blk.drew ?_ | with_reducible refine Blk.drewN ?_ _ | with_reducible apply Blk.both | with_reducible refine Blk.far' ?_ ?_ | (show _ ≠ _; omega))) st
  clear B oA oB oX1 oX2 oX3 oX4 oX5 oX6 oX7 oX8 cA0 cA1 lA cB0 cB1 lB st hb9
  have B := Bn
  clear Bn
  have oA := nA
  clear nA
  have oB := nB
  clear nB
  have oX1 := nX1
  clear nX1
  have oX2 := nX2
  clear nX2
  have oX3 := nX3
  clear nX3
  have oX4 := nX4
  clear nX4
  have oX5 := nX5
  clear nX5
  have oX6 := nX6
  clear nX6
  have oX7 := nX7
  clear nX7
  have oX8 := nX8
  clear nX8
  have cA0 : World.cell? w9 ⟨w.heap.size, 0, none⟩ = some (.int .i64 (a)) := oA.c 0 rfl
  have cA1 : World.cell? w9 ⟨w.heap.size, 1, none⟩ = some (.int .i64 (b)) := oA.c 1 rfl
  have lA := oA.lt
  have cB0 : World.cell? w9 ⟨w.heap.size + 1, 0, none⟩ = some (.int .i64 (c)) := oB.c 0 rfl
  have cB1 : World.cell? w9 ⟨w.heap.size + 1, 1, none⟩ = some (.int .i64 (d)) := oB.c 1 rfl
  have lB := oB.lt
  go_wp2_with fail
  refine (rin a b c d _).mono ?_
  rintro e w10 ⟨rfl, hb10⟩
  have st : Steps _ w10 := hb10
  have Bn : Below w.heap.size w w10 := below_steps (by (repeat' first | with_reducible assumption | with_reducible exact Below.refl _ _ | with_reducible refine Below.alloc ?_ ?_ _ | with_reducible refine Below.drew ?_ | with_reducible refine belowN ?_ _ | with_reducible refine Below.setCell ?_ ?_ _ | go_size)) (Nat.le_refl _) st
  have nA : Blk w10 (w.heap.size) 23 #[.int .i64 (a), .int .i64 (b)] := Blk.steps (by (repeat' first | with_reducible assumption | (with_reducible refine Blk.new' ?_; first | with_reducible rfl | (simp only [World.size_alloc, World.size_setCell, World.size_drew]; done)) | with_reducible refine Blk.alloc ?_ _ | with_reducible refine Blk.drew ?_ | with_reducible refine Blk.drewN ?_ _ | with_reducible apply Blk.both | with_reducible refine Blk.far' ?_ ?_ | (show _ ≠ _; omega))) st
  have nB : Blk w10 (w.heap.size + 1) 23 #[.int .i64 (c), .int .i64 (d)] := Blk.steps (by (repeat' first | with_reducible assumption | (with_reducible refine Blk.new' ?_; first | with_reducible rfl | (simp only [World.size_alloc, World.size_setCell, World.size_drew]; done)) | with_reducible refine Blk.alloc ?_ _ | with_reducible refine Blk.drew ?_ | with_reducible refine Blk.drewN ?_ _ | with_reducible apply Blk.both | with_reducible refine Blk.far' ?_ ?_ | (show _ ≠ _; omega))) st
  have nX1 : Blk w10 (w1.heap.size) 23 #[.int .i64 ((minS a b c d).1), .int .i64 ((minS a b c d).2.1)] := Blk.steps (by (repeat' first | with_reducible assumption | (with_reducible refine Blk.new' ?_; first | with_reducible rfl | (simp only [World.size_alloc, World.size_setCell, World.size_drew]; done)) | with_reducible refine Blk.alloc ?_ _ | with_reducible refine Blk.drew ?_ | with_reducible refine Blk.drewN ?_ _ | with_reducible apply Blk.both | with_reducible refine Blk.far' ?_ ?_ | (show _ ≠ _; omega))) st
  have nX2 : Blk w10 (w2.heap.size) 23 #[.int .i64 ((minS a b c d).1), .int .i64 ((minS a b c d).2.1)] := Blk.steps (by (repeat' first | with_reducible assumption | (with_reducible refine Blk.new' ?_; first | with_reducible rfl | (simp only [World.size_alloc, World.size_setCell, World.size_drew]; done)) | with_reducible refine Blk.alloc ?_ _ | with_reducible refine Blk.drew ?_ | with_reducible refine Blk.drewN ?_ _ | with_reducible apply Blk.both | with_reducible refine Blk.far' ?_ ?_ | (show _ ≠ _; omega))) st
  have nX3 : Blk w10 (w3.heap.size) 23 #[.int .i64 ((maxS a b c d).1), .int .i64 ((maxS a b c d).2.1)] := Blk.steps (by (repeat' first | with_reducible assumption | (with_reducible refine Blk.new' ?_; first | with_reducible rfl | (simp only [World.size_alloc, World.size_setCell, World.size_drew]; done)) | with_reducible refine Blk.alloc ?_ _ | with_reducible refine Blk.drew ?_ | with_reducible refine Blk.drewN ?_ _ | with_reducible apply Blk.both | with_reducible refine Blk.far' ?_ ?_ | (show _ ≠ _; omega))) st
  have nX4 : Blk w10 (w4.heap.size) 23 #[.int .i64 ((maxS a b c d).1), .int .i64 ((maxS a b c d).2.1)] := Blk.steps (by (repeat' first | with_reducible assumption | (with_reducible refine Blk.new' ?_; first | with_reducible rfl | (simp only [World.size_alloc, World.size_setCell, World.size_drew]; done)) | with_reducible refine Blk.alloc ?_ _ | with_reducible refine Blk.drew ?_ | with_reducible refine Blk.drewN ?_ _ | with_reducible apply Blk.both | with_reducible refine Blk.far' ?_ ?_ | (show _ ≠ _; omega))) st
  have nX5 : Blk w10 (w5.heap.size) 23 #[.int .i64 ((hullS a b c d).1), .int .i64 ((hullS a b c d).2.1)] := Blk.steps (by (repeat' first | with_reducible assumption | (with_reducible refine Blk.new' ?_; first | with_reducible rfl | (simp only [World.size_alloc, World.size_setCell, World.size_drew]; done)) | with_reducible refine Blk.alloc ?_ _ | with_reducible refine Blk.drew ?_ | with_reducible refine Blk.drewN ?_ _ | with_reducible apply Blk.both | with_reducible refine Blk.far' ?_ ?_ | (show _ ≠ _; omega))) st
  have nX6 : Blk w10 (w6.heap.size) 23 #[.int .i64 ((hullS a b c d).1), .int .i64 ((hullS a b c d).2.1)] := Blk.steps (by (repeat' first | with_reducible assumption | (with_reducible refine Blk.new' ?_; first | with_reducible rfl | (simp only [World.size_alloc, World.size_setCell, World.size_drew]; done)) | with_reducible refine Blk.alloc ?_ _ | with_reducible refine Blk.drew ?_ | with_reducible refine Blk.drewN ?_ _ | with_reducible apply Blk.both | with_reducible refine Blk.far' ?_ ?_ | (show _ ≠ _; omega))) st
  have nX7 : Blk w10 (w7.heap.size) 23 #[.int .i64 ((meetS a b c d).1), .int .i64 ((meetS a b c d).2.1)] := Blk.steps (by (repeat' first | with_reducible assumption | (with_reducible refine Blk.new' ?_; first | with_reducible rfl | (simp only [World.size_alloc, World.size_setCell, World.size_drew]; done)) | with_reducible refine Blk.alloc ?_ _ | with_reducible refine Blk.drew ?_ | with_reducible refine Blk.drewN ?_ _ | with_reducible apply Blk.both | with_reducible refine Blk.far' ?_ ?_ | (show _ ≠ _; omega))) st
  have nX8 : Blk w10 (w8.heap.size) 23 #[.int .i64 ((meetS a b c d).1), .int .i64 ((meetS a b c d).2.1)] := Blk.steps (by (repeat' first | with_reducible assumption | (with_reducible refine Blk.new' ?_; first | with_reducible rfl | (simp only [World.size_alloc, World.size_setCell, World.size_drew]; done)) | with_reducible refine Blk.alloc ?_ _ | with_reducible refine Blk.drew ?_ | with_reducible refine Blk.drewN ?_ _ | with_reducible apply Blk.both | with_reducible refine Blk.far' ?_ ?_ | (show _ ≠ _; omega))) st
  clear B oA oB oX1 oX2 oX3 oX4 oX5 oX6 oX7 oX8 cA0 cA1 lA cB0 cB1 lB st hb10
  have B := Bn
  clear Bn
  have oA := nA
  clear nA
  have oB := nB
  clear nB
  have oX1 := nX1
  clear nX1
  have oX2 := nX2
  clear nX2
  have oX3 := nX3
  clear nX3
  have oX4 := nX4
  clear nX4
  have oX5 := nX5
  clear nX5
  have oX6 := nX6
  clear nX6
  have oX7 := nX7
  clear nX7
  have oX8 := nX8
  clear nX8
  have cA0 : World.cell? w10 ⟨w.heap.size, 0, none⟩ = some (.int .i64 (a)) := oA.c 0 rfl
  have cA1 : World.cell? w10 ⟨w.heap.size, 1, none⟩ = some (.int .i64 (b)) := oA.c 1 rfl
  have lA := oA.lt
  have cB0 : World.cell? w10 ⟨w.heap.size + 1, 0, none⟩ = some (.int .i64 (c)) := oB.c 0 rfl
  have cB1 : World.cell? w10 ⟨w.heap.size + 1, 1, none⟩ = some (.int .i64 (d)) := oB.c 1 rfl
  have lB := oB.lt
  go_wp2_with fail
  refine (cmp_p a b c d _).mono ?_
  rintro e w11 ⟨rfl, hb11⟩
  have st : Steps _ w11 := hb11
  have Bn : Below w.heap.size w w11 := below_steps (by (repeat' first | with_reducible assumption | with_reducible exact Below.refl _ _ | with_reducible refine Below.alloc ?_ ?_ _ | with_reducible refine Below.drew ?_ | with_reducible refine belowN ?_ _ | with_reducible refine Below.setCell ?_ ?_ _ | go_size)) (Nat.le_refl _) st
  have nA : Blk w11 (w.heap.size) 23 #[.int .i64 (a), .int .i64 (b)] := Blk.steps (by (repeat' first | with_reducible assumption | (with_reducible refine Blk.new' ?_; first | with_reducible rfl | (simp only [World.size_alloc, World.size_setCell, World.size_drew]; done)) | with_reducible refine Blk.alloc ?_ _ | with_reducible refine Blk.drew ?_ | with_reducible refine Blk.drewN ?_ _ | with_reducible apply Blk.both | with_reducible refine Blk.far' ?_ ?_ | (show _ ≠ _; omega))) st
  have nB : Blk w11 (w.heap.size + 1) 23 #[.int .i64 (c), .int .i64 (d)] := Blk.steps (by (repeat' first | with_reducible assumption | (with_reducible refine Blk.new' ?_; first | with_reducible rfl | (simp only [World.size_alloc, World.size_setCell, World.size_drew]; done)) | with_reducible refine Blk.alloc ?_ _ | with_reducible refine Blk.drew ?_ | with_reducible refine Blk.drewN ?_ _ | with_reducible apply Blk.both | with_reducible refine Blk.far' ?_ ?_ | (show _ ≠ _; omega))) st
  have nX1 : Blk w11 (w1.heap.size) 23 #[.int .i64 ((minS a b c d).1), .int .i64 ((minS a b c d).2.1)] := Blk.steps (by (repeat' first | with_reducible assumption | (with_reducible refine Blk.new' ?_; first | with_reducible rfl | (simp only [World.size_alloc, World.size_setCell, World.size_drew]; done)) | with_reducible refine Blk.alloc ?_ _ | with_reducible refine Blk.drew ?_ | with_reducible refine Blk.drewN ?_ _ | with_reducible apply Blk.both | with_reducible refine Blk.far' ?_ ?_ | (show _ ≠ _; omega))) st
  have nX2 : Blk w11 (w2.heap.size) 23 #[.int .i64 ((minS a b c d).1), .int .i64 ((minS a b c d).2.1)] := Blk.steps (by (repeat' first | with_reducible assumption | (with_reducible refine Blk.new' ?_; first | with_reducible rfl | (simp only [World.size_alloc, World.size_setCell, World.size_drew]; done)) | with_reducible refine Blk.alloc ?_ _ | with_reducible refine Blk.drew ?_ | with_reducible refine Blk.drewN ?_ _ | with_reducible apply Blk.both | with_reducible refine Blk.far' ?_ ?_ | (show _ ≠ _; omega))) st
  have nX3 : Blk w11 (w3.heap.size) 23 #[.int .i64 ((maxS a b c d).1), .int .i64 ((maxS a b c d).2.1)] := Blk.steps (by (repeat' first | with_reducible assumption | (with_reducible refine Blk.new' ?_; first | with_reducible rfl | (simp only [World.size_alloc, World.size_setCell, World.size_drew]; done)) | with_reducible refine Blk.alloc ?_ _ | with_reducible refine Blk.drew ?_ | with_reducible refine Blk.drewN ?_ _ | with_reducible apply Blk.both | with_reducible refine Blk.far' ?_ ?_ | (show _ ≠ _; omega))) st
  have nX4 : Blk w11 (w4.heap.size) 23 #[.int .i64 ((maxS a b c d).1), .int .i64 ((maxS a b c d).2.1)] := Blk.steps (by (repeat' first | with_reducible assumption | (with_reducible refine Blk.new' ?_; first | with_reducible rfl | (simp only [World.size_alloc, World.size_setCell, World.size_drew]; done)) | with_reducible refine Blk.alloc ?_ _ | with_reducible refine Blk.drew ?_ | with_reducible refine Blk.drewN ?_ _ | with_reducible apply Blk.both | with_reducible refine Blk.far' ?_ ?_ | (show _ ≠ _; omega))) st
  have nX5 : Blk w11 (w5.heap.size) 23 #[.int .i64 ((hullS a b c d).1), .int .i64 ((hullS a b c d).2.1)] := Blk.steps (by (repeat' first | with_reducible assumption | (with_reducible refine Blk.new' ?_; first | with_reducible rfl | (simp only [World.size_alloc, World.size_setCell, World.size_drew]; done)) | with_reducible refine Blk.alloc ?_ _ | with_reducible refine Blk.drew ?_ | with_reducible refine Blk.drewN ?_ _ | with_reducible apply Blk.both | with_reducible refine Blk.far' ?_ ?_ | (show _ ≠ _; omega))) st
  have nX6 : Blk w11 (w6.heap.size) 23 #[.int .i64 ((hullS a b c d).1), .int .i64 ((hullS a b c d).2.1)] := Blk.steps (by (repeat' first | with_reducible assumption | (with_reducible refine Blk.new' ?_; first | with_reducible rfl | (simp only [World.size_alloc, World.size_setCell, World.size_drew]; done)) | with_reducible refine Blk.alloc ?_ _ | with_reducible refine Blk.drew ?_ | with_reducible refine Blk.drewN ?_ _ | with_reducible apply Blk.both | with_reducible refine Blk.far' ?_ ?_ | (show _ ≠ _; omega))) st
  have nX7 : Blk w11 (w7.heap.size) 23 #[.int .i64 ((meetS a b c d).1), .int .i64 ((meetS a b c d).2.1)] := Blk.steps (by (repeat' first | with_reducible assumption | (with_reducible refine Blk.new' ?_; first | with_reducible rfl | (simp only [World.size_alloc, World.size_setCell, World.size_drew]; done)) | with_reducible refine Blk.alloc ?_ _ | with_reducible refine Blk.drew ?_ | with_reducible refine Blk.drewN ?_ _ | with_reducible apply Blk.both | with_reducible refine Blk.far' ?_ ?_ | (show _ ≠ _; omega))) st
  have nX8 : Blk w11 (w8.heap.size) 23 #[.int .i64 ((meetS a b c d).1), .int .i64 ((meetS a b c d).2.1)] := Blk.steps (by (repeat' first | with_reducible assumption | (with_reducible refine Blk.new' ?_; first | with_reducible rfl | (simp only [World.size_alloc, World.size_setCell, World.size_drew]; done)) | with_reducible refine Blk.alloc ?_ _ | with_reducible refine Blk.drew ?_ | with_reducible refine Blk.drewN ?_ _ | with_reducible apply Blk.both | with_reducible refine Blk.far' ?_ ?_ | (show _ ≠ _; omega))) st
  clear B oA oB oX1 oX2 oX3 oX4 oX5 oX6 oX7 oX8 cA0 cA1 lA cB0 cB1 lB st hb11
  have B := Bn
  clear Bn
  have oA := nA
  clear nA
  have oB := nB
  clear nB
  have oX1 := nX1
  clear nX1
  have oX2 := nX2
  clear nX2
  have oX3 := nX3
  clear nX3
  have oX4 := nX4
  clear nX4
  have oX5 := nX5
  clear nX5
  have oX6 := nX6
  clear nX6
  have oX7 := nX7
  clear nX7
  have oX8 := nX8
  clear nX8
  have cA0 : World.cell? w11 ⟨w.heap.size, 0, none⟩ = some (.int .i64 (a)) := oA.c 0 rfl
  have cA1 : World.cell? w11 ⟨w.heap.size, 1, none⟩ = some (.int .i64 (b)) := oA.c 1 rfl
  have lA := oA.lt
  have cB0 : World.cell? w11 ⟨w.heap.size + 1, 0, none⟩ = some (.int .i64 (c)) := oB.c 0 rfl
  have cB1 : World.cell? w11 ⟨w.heap.size + 1, 1, none⟩ = some (.int .i64 (d)) := oB.c 1 rfl
  have lB := oB.lt
  go_wp2_with fail
  refine (rcmp a b c d _).mono ?_
  rintro e w12 ⟨rfl, hb12⟩
  have st : Steps _ w12 := hb12
  have Bn : Below w.heap.size w w12 := below_steps (by (repeat' first | with_reducible assumption | with_reducible exact Below.refl _ _ | with_reducible refine Below.alloc ?_ ?_ _ | with_reducible refine Below.drew ?_ | with_reducible refine belowN ?_ _ | with_reducible refine Below.setCell ?_ ?_ _ | go_size)) (Nat.le_refl _) st
  have nA : Blk w12 (w.heap.size) 23 #[.int .i64 (a), .int .i64 (b)] := Blk.steps (by (repeat' first | with_reducible assumption | (with_reducible refine Blk.new' ?_; first | with_reducible rfl | (simp only [World.size_alloc, World.size_setCell, World.size_drew]; done)) | with_reducible refine Blk.alloc ?_ _ | with_reducible refine Blk.drew ?_ | with_reducible refine Blk.drewN ?_ _ | with_reducible apply Blk.both | with_reducible refine Blk.far' ?_ ?_ | (show _ ≠ _; omega))) st
  have nB : Blk w12 (w.heap.size + 1) 23 #[.int .i64 (c), .int .i64 (d)] := Blk.steps (by (repeat' first | with_reducible assumption | (with_reducible refine Blk.new' ?_; first | with_reducible rfl | (simp only [World.size_alloc, World.size_setCell, World.size_drew]; done)) | with_reducible refine Blk.alloc ?_ _ | with_reducible refine Blk.drew ?_ | with_reducible refine Blk.drewN ?_ _ | with_reducible apply Blk.both | with_reducible refine Blk.far' ?_ ?_ | (show _ ≠ _; omega))) st
  have nX1 : Blk w12 (w1.heap.size) 23 #[.int .i64 ((minS a b c d).1), .int .i64 ((minS a b c d).2.1)] := Blk.steps (by (repeat' first | with_reducible assumption | (with_reducible refine Blk.new' ?_; first | with_reducible rfl | (simp only [World.size_alloc, World.size_setCell, World.size_drew]; done)) | with_reducible refine Blk.alloc ?_ _ | with_reducible refine Blk.drew ?_ | with_reducible refine Blk.drewN ?_ _ | with_reducible apply Blk.both | with_reducible refine Blk.far' ?_ ?_ | (show _ ≠ _; omega))) st
  have nX2 : Blk w12 (w2.heap.size) 23 #[.int .i64 ((minS a b c d).1), .int .i64 ((minS a b c d).2.1)] := Blk.steps (by (repeat' first | with_reducible assumption | (with_reducible refine Blk.new' ?_; first | with_reducible rfl | (simp only [World.size_alloc, World.size_setCell, World.size_drew]; done)) | with_reducible refine Blk.alloc ?_ _ | with_reducible refine Blk.drew ?_ | with_reducible refine Blk.drewN ?_ _ | with_reducible apply Blk.both | with_reducible refine Blk.far' ?_ ?_ | (show _ ≠ _; omega))) st
  have nX3 : Blk w12 (w3.heap.size) 23 #[.int .i64 ((maxS a b c d).1), .int .i64 ((maxS a b c d).2.1)] := Blk.steps (by (repeat' first | with_reducible assumption | (with_reducible refine Blk.new' ?_; first | with_reducible rfl | (simp only [World.size_alloc, World.size_setCell, World.size_drew]; done)) | with_reducible refine Blk.alloc ?_ _ | with_reducible refine Blk.drew ?_ | with_reducible refine Blk.drewN ?_ _ | with_reducible apply Blk.both | with_reducible refine Blk.far' ?_ ?_ | (show _ ≠ _; omega))) st
  have nX4 : Blk w12 (w4.heap.size) 23 #[.int .i64 ((maxS a b c d).1), .int .i64 ((maxS a b c d).2.1)] := Blk.steps (by (repeat' first | with_reducible assumption | (with_reducible refine Blk.new' ?_; first | with_reducible rfl | (simp only [World.size_alloc, World.size_setCell, World.size_drew]; done)) | with_reducible refine Blk.alloc ?_ _ | with_reducible refine Blk.drew ?_ | with_reducible refine Blk.drewN ?_ _ | with_reducible apply Blk.both | with_reducible refine Blk.far' ?_ ?_ | (show _ ≠ _; omega))) st
  have nX5 : Blk w12 (w5.heap.size) 23 #[.int .i64 ((hullS a b c d).1), .int .i64 ((hullS a b c d).2.1)] := Blk.steps (by (repeat' first | with_reducible assumption | (with_reducible refine Blk.new' ?_; first | with_reducible rfl | (simp only [World.size_alloc, World.size_setCell, World.size_drew]; done)) | with_reducible refine Blk.alloc ?_ _ | with_reducible refine Blk.drew ?_ | with_reducible refine Blk.drewN ?_ _ | with_reducible apply Blk.both | with_reducible refine Blk.far' ?_ ?_ | (show _ ≠ _; omega))) st
  have nX6 : Blk w12 (w6.heap.size) 23 #[.int .i64 ((hullS a b c d).1), .int .i64 ((hullS a b c d).2.1)] := Blk.steps (by (repeat' first | with_reducible assumption | (with_reducible refine Blk.new' ?_; first | with_reducible rfl | (simp only [World.size_alloc, World.size_setCell, World.size_drew]; done)) | with_reducible refine Blk.alloc ?_ _ | with_reducible refine Blk.drew ?_ | with_reducible refine Blk.drewN ?_ _ | with_reducible apply Blk.both | with_reducible refine Blk.far' ?_ ?_ | (show _ ≠ _; omega))) st
  have nX7 : Blk w12 (w7.heap.size) 23 #[.int .i64 ((meetS a b c d).1), .int .i64 ((meetS a b c d).2.1)] := Blk.steps (by (repeat' first | with_reducible assumption | (with_reducible refine Blk.new' ?_; first | with_reducible rfl | (simp only [World.size_alloc, World.size_setCell, World.size_drew]; done)) | with_reducible refine Blk.alloc ?_ _ | with_reducible refine Blk.drew ?_ | with_reducible refine Blk.drewN ?_ _ | with_reducible apply Blk.both | with_reducible refine Blk.far' ?_ ?_ | (show _ ≠ _; omega))) st
  have nX8 : Blk w12 (w8.heap.size) 23 #[.int .i64 ((meetS a b c d).1), .int .i64 ((meetS a b c d).2.1)] := Blk.steps (by (repeat' first | with_reducible assumption | (with_reducible refine Blk.new' ?_; first | with_reducible rfl | (simp only [World.size_alloc, World.size_setCell, World.size_drew]; done)) | with_reducible refine Blk.alloc ?_ _ | with_reducible refine Blk.drew ?_ | with_reducible refine Blk.drewN ?_ _ | with_reducible apply Blk.both | with_reducible refine Blk.far' ?_ ?_ | (show _ ≠ _; omega))) st
  clear B oA oB oX1 oX2 oX3 oX4 oX5 oX6 oX7 oX8 cA0 cA1 lA cB0 cB1 lB st hb12
  have B := Bn
  clear Bn
  have oA := nA
  clear nA
  have oB := nB
  clear nB
  have oX1 := nX1
  clear nX1
  have oX2 := nX2
  clear nX2
  have oX3 := nX3
  clear nX3
  have oX4 := nX4
  clear nX4
  have oX5 := nX5
  clear nX5
  have oX6 := nX6
  clear nX6
  have oX7 := nX7
  clear nX7
  have oX8 := nX8
  clear nX8
  have cA0 : World.cell? w12 ⟨w.heap.size, 0, none⟩ = some (.int .i64 (a)) := oA.c 0 rfl
  have cA1 : World.cell? w12 ⟨w.heap.size, 1, none⟩ = some (.int .i64 (b)) := oA.c 1 rfl
  have lA := oA.lt
  have cB0 : World.cell? w12 ⟨w.heap.size + 1, 0, none⟩ = some (.int .i64 (c)) := oB.c 0 rfl
  have cB1 : World.cell? w12 ⟨w.heap.size + 1, 1, none⟩ = some (.int .i64 (d)) := oB.c 1 rfl
  have lB := oB.lt
  go_upto_region 23 with fail
  clear cA0 cA1 lA cB0 cB1 lB
  refine Reg.wp_chain_plain (fun D v W => Below w.heap.size w W ∧ Blk W (w.heap.size) 23 #[.int .i64 (a), .int .i64 (b)] ∧ Blk W (w.heap.size + 1) 23 #[.int .i64 (c), .int .i64 (d)] ∧ Blk W (w1.heap.size) 23 #[.int .i64 ((minS a b c d).1), .int .i64 ((minS a b c d).2.1)] ∧ Blk W (w2.heap.size) 23 #[.int .i64 ((minS a b c d).1), .int .i64 ((minS a b c d).2.1)] ∧ Blk W (w3.heap.size) 23 #[.int .i64 ((maxS a b c d).1), .int .i64 ((maxS a b c d).2.1)] ∧ Blk W (w4.heap.size) 23 #[.int .i64 ((maxS a b c d).1), .int .i64 ((maxS a b c d).2.1)] ∧ Blk W (w5.heap.size) 23 #[.int .i64 ((hullS a b c d).1), .int .i64 ((hullS a b c d).2.1)] ∧ Blk W (w6.heap.size) 23 #[.int .i64 ((hullS a b c d).1), .int .i64 ((hullS a b c d).2.1)] ∧ Blk W (w7.heap.size) 23 #[.int .i64 ((meetS a b c d).1), .int .i64 ((meetS a b c d).2.1)] ∧ Blk W (w8.heap.size) 23 #[.int .i64 ((meetS a b c d).1), .int .i64 ((meetS a b c d).2.1)])
    (Reg.inl []) (Reg.ge []) Reg.None_ (fun _ => Reg.Any) (fun _ _ => False) (Reg.pl []) (Reg.pl [])
    (by kernel_rfl) (by kernel_rfl) (Reg.ge_some _) (fun v => ?_) (fun _ _ _ _ _ h => h) (fun _ _ _ _ _ _ _ _ _ _ _ _ _ => Reg.none_) (fun _ _ _ _ h => h.elim) (fun ops' Q' hops hQ => ?_)
  · exact ⟨(by (repeat' first | with_reducible assumption | with_reducible exact Below.refl _ _ | with_reducible refine Below.alloc ?_ ?_ _ | with_reducible refine Below.drew ?_ | with_reducible refine belowN ?_ _ | with_reducible refine Below.setCell ?_ ?_ _ | go_size)), (show Blk _ _ _ #[.int .i64 (a), .int .i64 (b)] from (by first | with_reducible exact oA | (repeat' first | with_reducible assumption | (with_reducible refine Blk.new' ?_; first | with_reducible rfl | (simp only [World.size_alloc, World.size_setCell, World.size_drew]; done)) | with_reducible refine Blk.alloc ?_ _ | with_reducible refine Blk.drew ?_ | with_reducible refine Blk.drewN ?_ _ | with_reducible apply Blk.both | with_reducible refine Blk.far' ?_ ?_ | (show _ ≠ _; omega)))), (show Blk _ _ _ #[.int .i64 (c), .int .i64 (d)] from (by first | with_reducible exact oB | (repeat' first | with_reducible assumption | (with_reducible refine Blk.new' ?_; first | with_reducible rfl | (simp only [World.size_alloc, World.size_setCell, World.size_drew]; done)) | with_reducible refine Blk.alloc ?_ _ | with_reducible refine Blk.drew ?_ | with_reducible refine Blk.drewN ?_ _ | with_reducible apply Blk.both | with_reducible refine Blk.far' ?_ ?_ | (show _ ≠ _; omega)))), (show Blk _ _ _ #[.int .i64 ((minS a b c d).1), .int .i64 ((minS a b c d).2.1)] from (by first | with_reducible exact oX1 | (repeat' first | with_reducible assumption | (with_reducible refine Blk.new' ?_; first | with_reducible rfl | (simp only [World.size_alloc, World.size_setCell, World.size_drew]; done)) | with_reducible refine Blk.alloc ?_ _ | with_reducible refine Blk.drew ?_ | with_reducible refine Blk.drewN ?_ _ | with_reducible apply Blk.both | with_reducible refine Blk.far' ?_ ?_ | (show _ ≠ _; omega)))), (show Blk _ _ _ #[.int .i64 ((minS a b c d).1), .int .i64 ((minS a b c d).2.1)] from (by first | with_reducible exact oX2 | (repeat' first | with_reducible assumption | (with_reducible refine Blk.new' ?_; first | with_reducible rfl | (simp only [World.size_alloc, World.size_setCell, World.size_drew]; done)) | with_reducible refine Blk.alloc ?_ _ | with_reducible refine Blk.drew ?_ | with_reducible refine Blk.drewN ?_ _ | with_reducible apply Blk.both | with_reducible refine Blk.far' ?_ ?_ | (show _ ≠ _; omega)))), (show Blk _ _ _ #[.int .i64 ((maxS a b c d).1), .int .i64 ((maxS a b c d).2.1)] from (by first | with_reducible exact oX3 | (repeat' first | with_reducible assumption | (with_reducible refine Blk.new' ?_; first | with_reducible rfl | (simp only [World.size_alloc, World.size_setCell, World.size_drew]; done)) | with_reducible refine Blk.alloc ?_ _ | with_reducible refine Blk.drew ?_ | with_reducible refine Blk.drewN ?_ _ | with_reducible apply Blk.both | with_reducible refine Blk.far' ?_ ?_ | (show _ ≠ _; omega)))), (show Blk _ _ _ #[.int .i64 ((maxS a b c d).1), .int .i64 ((maxS a b c d).2.1)] from (by first | with_reducible exact oX4 | (repeat' first | with_reducible assumption | (with_reducible refine Blk.new' ?_; first | with_reducible rfl | (simp only [World.size_alloc, World.size_setCell, World.size_drew]; done)) | with_reducible refine Blk.alloc ?_ _ | with_reducible refine Blk.drew ?_ | with_reducible refine Blk.drewN ?_ _ | with_reducible apply Blk.both | with_reducible refine Blk.far' ?_ ?_ | (show _ ≠ _; omega)))), (show Blk _ _ _ #[.int .i64 ((hullS a b c d).1), .int .i64 ((hullS a b c d).2.1)] from (by first | with_reducible exact oX5 | (repeat' first | with_reducible assumption | (with_reducible refine Blk.new' ?_; first | with_reducible rfl | (simp only [World.size_alloc, World.size_setCell, World.size_drew]; done)) | with_reducible refine Blk.alloc ?_ _ | with_reducible refine Blk.drew ?_ | with_reducible refine Blk.drewN ?_ _ | with_reducible apply Blk.both | with_reducible refine Blk.far' ?_ ?_ | (show _ ≠ _; omega)))), (show Blk _ _ _ #[.int .i64 ((hullS a b c d).1), .int .i64 ((hullS a b c d).2.1)] from (by first | with_reducible exact oX6 | (repeat' first | with_reducible assumption | (with_reducible refine Blk.new' ?_; first | with_reducible rfl | (simp only [World.size_alloc, World.size_setCell, World.size_drew]; done)) | with_reducible refine Blk.alloc ?_ _ | with_reducible refine Blk.drew ?_ | with_reducible refine Blk.drewN ?_ _ | with_reducible apply Blk.both | with_reducible refine Blk.far' ?_ ?_ | (show _ ≠ _; omega)))), (show Blk _ _ _ #[.int .i64 ((meetS a b c d).1), .int .i64 ((meetS a b c d).2.1)] from (by first | with_reducible exact oX7 | (repeat' first | with_reducible assumption | (with_reducible refine Blk.new' ?_; first | with_reducible rfl | (simp only [World.size_alloc, World.size_setCell, World.size_drew]; done)) | with_reducible refine Blk.alloc ?_ _ | with_reducible refine Blk.drew ?_ | with_reducible refine Blk.drewN ?_ _ | with_reducible apply Blk.both | with_reducible refine Blk.far' ?_ ?_ | (show _ ≠ _; omega)))), (show Blk _ _ _ #[.int .i64 ((meetS a b c d).1), .int .i64 ((meetS a b c d).2.1)] from (by first | with_reducible exact oX8 | (repeat' first | with_reducible assumption | (with_reducible refine Blk.new' ?_; first | with_reducible rfl | (simp only [World.size_alloc, World.size_setCell, World.size_drew]; done)) | with_reducible refine Blk.alloc ?_ _ | with_reducible refine Blk.drew ?_ | with_reducible refine Blk.drewN ?_ _ | with_reducible apply Blk.both | with_reducible refine Blk.far' ?_ ?_ | (show _ ≠ _; omega))))⟩
  clear B oA oB oX1 oX2 oX3 oX4 oX5 oX6 oX7 oX8
  apply Reg.RC_pure (hc := rfl) (hst := rfl) (hw := rfl) (t := 188) (hd := rfl) (ht := Nat.le_of_ble_eq_true rfl)
  · intro D v W hc hj hf K hK
    obtain ⟨B, oA, oB, oX1, oX2, oX3, oX4, oX5, oX6, oX7, oX8⟩ := hj
    have cX10 : World.cell? W ⟨w1.heap.size, 0, none⟩ = some (.int .i64 ((minS a b c d).1)) := oX1.c 0 rfl
    have cX11 : World.cell? W ⟨w1.heap.size, 1, none⟩ = some (.int .i64 ((minS a b c d).2.1)) := oX1.c 1 rfl
    go_step
    exact hK.out
  · rfl
  apply Reg.RC_pure (hc := rfl) (hst := rfl) (hw := rfl) (t := 189) (hd := rfl) (ht := Nat.le_of_ble_eq_true rfl)
  · intro D v W hc hj hf K hK
    obtain ⟨B, oA, oB, oX1, oX2, oX3, oX4, oX5, oX6, oX7, oX8⟩ := hj
    have cX20 : World.cell? W ⟨w2.heap.size, 0, none⟩ = some (.int .i64 ((minS a b c d).1)) := oX2.c 0 rfl
    have cX21 : World.cell? W ⟨w2.heap.size, 1, none⟩ = some (.int .i64 ((minS a b c d).2.1)) := oX2.c 1 rfl
    go_step
    exact hK.out
  · rfl
  apply Reg.RC_pure (hc := rfl) (hst := rfl) (hw := rfl) (t := 190) (hd := rfl) (ht := Nat.le_of_ble_eq_true rfl)
  · intro D v W hc hj hf K hK
    go_step
    exact hK.out
  · rfl
  apply Reg.RC_pure (hc := rfl) (hst := rfl) (hw := rfl) (t := 191) (hd := rfl) (ht := Nat.le_of_ble_eq_true rfl)
  · intro D v W hc hj hf K hK
    go_step
    exact hK.out
  · rfl
  apply Reg.RC_pure (hc := rfl) (hst := rfl) (hw := by rw [hops]; rfl) (t := 192) (hd := rfl) (ht := Nat.le_of_ble_eq_true rfl)
  · intro D v W hc hj hf K hK
    go_step
    exact hK.out
  · rfl
  apply Reg.RC_pure (hc := rfl) (hst := rfl) (hw := by rw [hops]; rfl) (t := 193) (hd := rfl) (ht := Nat.le_of_ble_eq_true rfl)
  · intro D v W hc hj hf K hK
    go_step
    exact hK.out
  · rfl
  apply Reg.RC_pure (hc := rfl) (hst := rfl) (hw := by rw [hops]; rfl) (t := 194) (hd := rfl) (ht := Nat.le_of_ble_eq_true rfl)
  · intro D v W hc hj hf K hK
    go_step
    exact hK.out
  · rfl
  apply Reg.RC_pure (hc := rfl) (hst := rfl) (hw := rfl) (t := 195) (hd := rfl) (ht := Nat.le_of_ble_eq_true rfl)
  · intro D v W hc hj hf K hK
    go_step
    exact hK.out
  · rfl
  apply Reg.RC_pure (hc := rfl) (hst := rfl) (hw := rfl) (t := 196) (hd := rfl) (ht := Nat.le_of_ble_eq_true rfl)
  · intro D v W hc hj hf K hK
    go_step
    exact hK.out
  · rfl
  apply Reg.RC_pure (hc := rfl) (hst := rfl) (hw := by rw [hops]; rfl) (t := 197) (hd := rfl) (ht := Nat.le_of_ble_eq_true rfl)
  · intro D v W hc hj hf K hK
    obtain ⟨B, oA, oB, oX1, oX2, oX3, oX4, oX5, oX6, oX7, oX8⟩ := hj
    have cX30 : World.cell? W ⟨w3.heap.size, 0, none⟩ = some (.int .i64 ((maxS a b c d).1)) := oX3.c 0 rfl
    have cX31 : World.cell? W ⟨w3.heap.size, 1, none⟩ = some (.int .i64 ((maxS a b c d).2.1)) := oX3.c 1 rfl
    go_step
    exact hK.out
  · rfl
  apply Reg.RC_pure (hc := rfl) (hst := rfl) (hw := by rw [hops]; rfl) (t := 198) (hd := rfl) (ht := Nat.le_of_ble_eq_true rfl)
  · intro D v W hc hj hf K hK
    obtain ⟨B, oA, oB, oX1, oX2, oX3, oX4, oX5, oX6, oX7, oX8⟩ := hj
    have cX40 : World.cell? W ⟨w4.heap.size, 0, none⟩ = some (.int .i64 ((maxS a b c d).1)) := oX4.c 0 rfl
    have cX41 : World.cell? W ⟨w4.heap.size, 1, none⟩ = some (.int .i64 ((maxS a b c d).2.1)) := oX4.c 1 rfl
    go_step
    exact hK.out
  · rfl
  apply Reg.RC_pure (hc := rfl) (hst := rfl) (hw := by rw [hops]; rfl) (t := 199) (hd := rfl) (ht := Nat.le_of_ble_eq_true rfl)
  · intro D v W hc hj hf K hK
    go_step
    exact hK.out
  · rfl
  apply Reg.RC_pure (hc := rfl) (hst := rfl) (hw := rfl) (t := 200) (hd := rfl) (ht := Nat.le_of_ble_eq_true rfl)
  · intro D v W hc hj hf K hK
    go_step
    exact hK.out
  · rfl
  apply Reg.RC_pure (hc := rfl) (hst := rfl) (hw := rfl) (t := 201) (hd := rfl) (ht := Nat.le_of_ble_eq_true rfl)
  · intro D v W hc hj hf K hK
    go_step
    exact hK.out
  · rfl
  apply Reg.RC_pure (hc := rfl) (hst := rfl) (hw := by rw [hops]; rfl) (t := 202) (hd := rfl) (ht := Nat.le_of_ble_eq_true rfl)
  · intro D v W hc hj hf K hK
    go_step
    exact hK.out
  · rfl
  apply Reg.RC_pure (hc := rfl) (hst := rfl) (hw := by rw [hops]; rfl) (t := 203) (hd := rfl) (ht := Nat.le_of_ble_eq_true rfl)
  · intro D v W hc hj hf K hK
    go_step
    exact hK.out
  · rfl
  apply Reg.RC_pure (hc := rfl) (hst := rfl) (hw := by rw [hops]; rfl) (t := 204) (hd := rfl) (ht := Nat.le_of_ble_eq_true rfl)
  · intro D v W hc hj hf K hK
    go_step
    exact hK.out
  · rfl
  apply Reg.RC_pure (hc := rfl) (hst := rfl) (hw := rfl) (t := 205) (hd := rfl) (ht := Nat.le_of_ble_eq_true rfl)
  · intro D v W hc hj hf K hK
    go_step
    exact hK.out
  · rfl
  apply Reg.RC_pure (hc := rfl) (hst := rfl) (hw := rfl) (t := 206) (hd := rfl) (ht := Nat.le_of_ble_eq_true rfl)
  · intro D v W hc hj hf K hK
    go_step
    exact hK.out
  · rfl
  apply Reg.RC_pure (hc := rfl) (hst := rfl) (hw := by rw [hops]; rfl) (t := 207) (hd := rfl) (ht := Nat.le_of_ble_eq_true rfl)
  · intro D v W hc hj hf K hK
    obtain ⟨B, oA, oB, oX1, oX2, oX3, oX4, oX5, oX6, oX7, oX8⟩ := hj
    have cX50 : World.cell? W ⟨w5.heap.size, 0, none⟩ = some (.int .i64 ((hullS a b c d).1)) := oX5.c 0 rfl
    have cX51 : World.cell? W ⟨w5.heap.size, 1, none⟩ = some (.int .i64 ((hullS a b c d).2.1)) := oX5.c 1 rfl
    go_step
    exact hK.out
  · rfl
  apply Reg.RC_pure (hc := rfl) (hst := rfl) (hw := by rw [hops]; rfl) (t := 208) (hd := rfl) (ht := Nat.le_of_ble_eq_true rfl)
  · intro D v W hc hj hf K hK
    obtain ⟨B, oA, oB, oX1, oX2, oX3, oX4, oX5, oX6, oX7, oX8⟩ := hj
    have cX60 : World.cell? W ⟨w6.heap.size, 0, none⟩ = some (.int .i64 ((hullS a b c d).1)) := oX6.c 0 rfl
    have cX61 : World.cell? W ⟨w6.heap.size, 1, none⟩ = some (.int .i64 ((hullS a b c d).2.1)) := oX6.c 1 rfl
    go_step
    exact hK.out
  · rfl
  apply Reg.RC_pure (hc := rfl) (hst := rfl) (hw := by rw [hops]; rfl) (t := 209) (hd := rfl) (ht := Nat.le_of_ble_eq_true rfl)
  · intro D v W hc hj hf K hK
    go_step
    exact hK.out
  · rfl
  apply Reg.RC_pure (hc := rfl) (hst := rfl) (hw := rfl) (t := 210) (hd := rfl) (ht := Nat.le_of_ble_eq_true rfl)
  · intro D v W hc hj hf K hK
    go_step
    exact hK.out
  · rfl
  apply Reg.RC_pure (hc := rfl) (hst := rfl) (hw := rfl) (t := 211) (hd := rfl) (ht := Nat.le_of_ble_eq_true rfl)
  · intro D v W hc hj hf K hK
    go_step
    exact hK.out
  · rfl
  apply Reg.RC_pure (hc := rfl) (hst := rfl) (hw := by rw [hops]; rfl) (t := 212) (hd := rfl) (ht := Nat.le_of_ble_eq_true rfl)
  · intro D v W hc hj hf K hK
    go_step
    exact hK.out
  · rfl
  apply Reg.RC_pure (hc := rfl) (hst := rfl) (hw := by rw [hops]; rfl) (t := 213) (hd := rfl) (ht := Nat.le_of_ble_eq_true rfl)
  · intro D v W hc hj hf K hK
    go_step
    exact hK.out
  · rfl
  apply Reg.RC_pure (hc := rfl) (hst := rfl) (hw := by rw [hops]; rfl) (t := 214) (hd := rfl) (ht := Nat.le_of_ble_eq_true rfl)
  · intro D v W hc hj hf K hK
    go_step
    exact hK.out
  · rfl
  apply Reg.RC_pure (hc := rfl) (hst := rfl) (hw := rfl) (t := 215) (hd := rfl) (ht := Nat.le_of_ble_eq_true rfl)
  · intro D v W hc hj hf K hK
    go_step
    exact hK.out
  · rfl
  apply Reg.RC_pure (hc := rfl) (hst := rfl) (hw := rfl) (t := 216) (hd := rfl) (ht := Nat.le_of_ble_eq_true rfl)
  · intro D v W hc hj hf K hK
    go_step
    exact hK.out
  · rfl
  apply Reg.RC_pure (hc := rfl) (hst := rfl) (hw := by rw [hops]; rfl) (t := 217) (hd := rfl) (ht := Nat.le_of_ble_eq_true rfl)
  · intro D v W hc hj hf K hK
    obtain ⟨B, oA, oB, oX1, oX2, oX3, oX4, oX5, oX6, oX7, oX8⟩ := hj
    have cX70 : World.cell? W ⟨w7.heap.size, 0, none⟩ = some (.int .i64 ((meetS a b c d).1)) := oX7.c 0 rfl
    have cX71 : World.cell? W ⟨w7.heap.size, 1, none⟩ = some (.int .i64 ((meetS a b c d).2.1)) := oX7.c 1 rfl
    go_step
    exact hK.out
  · rfl
  apply Reg.RC_pure (hc := rfl) (hst := rfl) (hw := by rw [hops]; rfl) (t := 218) (hd := rfl) (ht := Nat.le_of_ble_eq_true rfl)
  · intro D v W hc hj hf K hK
    obtain ⟨B, oA, oB, oX1, oX2, oX3, oX4, oX5, oX6, oX7, oX8⟩ := hj
    have cX80 : World.cell? W ⟨w8.heap.size, 0, none⟩ = some (.int .i64 ((meetS a b c d).1)) := oX8.c 0 rfl
    have cX81 : World.cell? W ⟨w8.heap.size, 1, none⟩ = some (.int .i64 ((meetS a b c d).2.1)) := oX8.c 1 rfl
    go_step
    exact hK.out
  · rfl
  apply Reg.RC_pure (hc := rfl) (hst := rfl) (hw := by rw [hops]; rfl) (t := 219) (hd := rfl) (ht := Nat.le_of_ble_eq_true rfl)
  · intro D v W hc hj hf K hK
    go_step
    exact hK.out
  · rfl
  apply Reg.RC_pure (hc := rfl) (hst := rfl) (hw := rfl) (t := 220) (hd := rfl) (ht := Nat.le_of_ble_eq_true rfl)
  · intro D v W hc hj hf K hK
    go_step
    exact hK.out
  · rfl
  apply Reg.RC_pure (hc := rfl) (hst := rfl) (hw := rfl) (t := 221) (hd := rfl) (ht := Nat.le_of_ble_eq_true rfl)
  · intro D v W hc hj hf K hK
    go_step
    exact hK.out
  · rfl
  apply Reg.RC_pure (hc := rfl) (hst := rfl) (hw := by rw [hops]; rfl) (t := 222) (hd := rfl) (ht := Nat.le_of_ble_eq_true rfl)
  · intro D v W hc hj hf K hK
    go_step
    exact hK.out
  · rfl
  apply Reg.RC_pure (hc := rfl) (hst := rfl) (hw := by rw [hops]; rfl) (t := 223) (hd := rfl) (ht := Nat.le_of_ble_eq_true rfl)
  · intro D v W hc hj hf K hK
    go_step
    exact hK.out
  · rfl
  apply Reg.RC_pure (hc := rfl) (hst := rfl) (hw := by rw [hops]; rfl) (t := 224) (hd := rfl) (ht := Nat.le_of_ble_eq_true rfl)
  · intro D v W hc hj hf K hK
    go_step
    exact hK.out
  · rfl
  apply Reg.RC_pure (hc := rfl) (hst := rfl) (hw := rfl) (t := 225) (hd := rfl) (ht := Nat.le_of_ble_eq_true rfl)
  · intro D v W hc hj hf K hK
    go_step
    exact hK.out
  · rfl
  apply Reg.RC_pure (hc := rfl) (hst := rfl) (hw := rfl) (t := 29) (hd := rfl) (ht := Nat.le_of_ble_eq_true rfl)
  · intro D v W hc hj hf K hK
    go_step
    exact hK.out
  · rfl
  refine Reg.RC_end (fun D v W hd hj hf => ?_)
  obtain ⟨B, oA, oB, oX1, oX2, oX3, oX4, oX5, oX6, oX7, oX8⟩ := hj
  clear hd hf
  refine hQ _ _ ?_
  clear hQ hops Q' ops'
  go_wp2_with fail
  go_returns
  exact ⟨rfl, by (repeat' first | with_reducible assumption | with_reducible exact Below.refl _ _ | with_reducible refine Below.alloc ?_ ?_ _ | with_reducible refine Below.drew ?_ | with_reducible refine belowN ?_ _ | with_reducible refine Below.setCell ?_ ?_ _ | go_size)⟩
