import Derived.Test.YtalnlnpnacfdfaaRefI
namespace Go.Proofs.Ytalnlnpnacfdfaa
open Go.RowKit
theorem check_p (a b : Int) (w : World) : Calls Try.prog 20 #[.agg #[.int .i64 a, .int .i64 b]] w fun e w' => e = .returned (.int .i64 (errV (V a b))) ∧ Below w.heap.size w w' := by
  by_cases hv : V a b
  · have H : Hid (errV (V a b) = 0) := if_pos hv
    obtain ⟨v0, v1, v2⟩ := hv
    go_enter Try.func20, Try.ntmps20
    go_wp2_with fail
    refine (check1_ok _ a b _ (by simp [go_sem]) (by simp [go_sem]) v0 v1 v2).mono ?_
    rintro e w1 ⟨rfl, hb1⟩
    have st : Steps _ w1 := hb1
    have Bn : Below w.heap.size w w1 := below_steps (by (repeat' first | with_reducible assumption | with_reducible exact Below.refl _ _ | with_reducible refine Below.alloc ?_ ?_ _ | with_reducible refine Below.drew ?_ | with_reducible refine belowN ?_ _ | with_reducible refine Below.setCell ?_ ?_ _ | go_size)) (Nat.le_refl _) st
    have nA : Blk w1 (w.heap.size) 23 #[.int .i64 (a), .int .i64 (b)] := Blk.steps (by (repeat' first | with_reducible assumption | (with_reducible refine Blk.new' ?_; first | with_reducible rfl | (simp only [World.size_alloc, World.size_setCell, World.size_drew]; done)) | with_reducible refine Blk.alloc ?_ _ | with_reducible refine Blk.drew ?_ | with_reducible refine Blk.drewN ?_ _ | with_reducible apply Blk.both | with_reducible refine Blk.far' ?_ ?_ | (show _ ≠ _; omega))) st
    clear st
    have B := Bn
    clear Bn
    have oA := nA
    clear nA
    have cA0 : World.cell? w1 ⟨w.heap.size, 0, none⟩ = some (.int .i64 (a)) := oA.c 0 rfl
    have cA1 : World.cell? w1 ⟨w.heap.size, 1, none⟩ = some (.int .i64 (b)) := oA.c 1 rfl
    have fA := oA.fr
    have lA := oA.lt
    go_wp2_with fail
    go_returns
    exact ⟨retI H.out.symm, by (repeat' first | with_reducible assumption | with_reducible exact Below.refl _ _ | with_reducible refine Below.alloc ?_ ?_ _ | with_reducible refine Below.drew ?_ | with_reducible refine belowN ?_ _ | with_reducible refine Below.setCell ?_ ?_ _ | go_size)⟩
  · have H : Hid (errV (V a b) = 8) := if_neg hv
    go_enter Try.func20, Try.ntmps20
    go_wp2_with fail
    refine (check1_bad _ a b _ (by simp [go_sem]) (by simp [go_sem]) hv).mono ?_
    rintro e w1 ⟨rfl, hb1⟩
    have st : Steps _ w1 := hb1
    have Bn : Below w.heap.size w w1 := below_steps (by (repeat' first | with_reducible assumption | with_reducible exact Below.refl _ _ | with_reducible refine Below.alloc ?_ ?_ _ | with_reducible refine Below.drew ?_ | with_reducible refine belowN ?_ _ | with_reducible refine Below.setCell ?_ ?_ _ | go_size)) (Nat.le_refl _) st
    have nA : Blk w1 (w.heap.size) 23 #[.int .i64 (a), .int .i64 (b)] := Blk.steps (by (repeat' first | with_reducible assumption | (with_reducible refine Blk.new' ?_; first | with_reducible rfl | (simp only [World.size_alloc, World.size_setCell, World.size_drew]; done)) | with_reducible refine Blk.alloc ?_ _ | with_reducible refine Blk.drew ?_ | with_reducible refine Blk.drewN ?_ _ | with_reducible apply Blk.both | with_reducible refine Blk.far' ?_ ?_ | (show _ ≠ _; omega))) st
    clear st
    have B := Bn
    clear Bn
    have oA := nA
    clear nA
    have cA0 : World.cell? w1 ⟨w.heap.size, 0, none⟩ = some (.int .i64 (a)) := oA.c 0 rfl
    have cA1 : World.cell? w1 ⟨w.heap.size, 1, none⟩ = some (.int .i64 (b)) := oA.c 1 rfl
    have fA := oA.fr
    have lA := oA.lt
    go_wp2_with fail
    go_returns
    exact ⟨retI H.out.symm, by (repeat' first | with_reducible assumption | with_reducible exact Below.refl _ _ | with_reducible refine Below.alloc ?_ ?_ _ | with_reducible refine Below.drew ?_ | with_reducible refine belowN ?_ _ | with_reducible refine Below.setCell ?_ ?_ _ | go_size)⟩
set_option maxRecDepth 1000000 in
set_option maxHeartbeats 20000000 in
theorem asks_walk (a b num den : Int) (w : World) (n0 : -9223372036854775808 ≤ num) (n1 : num ≤ 9223372036854775807) (d0 : -9223372036854775808 ≤ den) (d1 : den ≤ 9223372036854775807) : Calls Try.prog 3 #[.agg #[.int .i64 a, .int .i64 b], .int .i64 num, .int .i64 den] w fun e w' => e = .returned (.bool true) ∧ Below w.heap.size w w' := by
  go_enter Try.func3, Try.ntmps3
  go_wp2_with fail
  refine (neg_p a b _).mono ?_
  rintro e w1 ⟨rfl, hb1⟩
  have st : Steps _ w1 := hb1
  have Bn : Below w.heap.size w w1 := below_steps (by (repeat' first | with_reducible assumption | with_reducible exact Below.refl _ _ | with_reducible refine Below.alloc ?_ ?_ _ | with_reducible refine Below.drew ?_ | with_reducible refine belowN ?_ _ | with_reducible refine Below.setCell ?_ ?_ _ | go_size)) (Nat.le_refl _) st
  have nA : Blk w1 (w.heap.size) 23 #[.int .i64 (a), .int .i64 (b)] := Blk.steps (by (repeat' first | with_reducible assumption | (with_reducible refine Blk.new' ?_; first | with_reducible rfl | (simp only [World.size_alloc, World.size_setCell, World.size_drew]; done)) | with_reducible refine Blk.alloc ?_ _ | with_reducible refine Blk.drew ?_ | with_reducible refine Blk.drewN ?_ _ | with_reducible apply Blk.both | with_reducible refine Blk.far' ?_ ?_ | (show _ ≠ _; omega))) st
  clear  st hb1
  have B := Bn
  clear Bn
  have oA := nA
  clear nA
  have cA0 : World.cell? w1 ⟨w.heap.size, 0, none⟩ = some (.int .i64 (a)) := oA.c 0 rfl
  have cA1 : World.cell? w1 ⟨w.heap.size, 1, none⟩ = some (.int .i64 (b)) := oA.c 1 rfl
  have lA := oA.lt
  go_wp2_with fail
  refine (rneg a b _).mono ?_
  rintro e w2 ⟨rfl, hb2⟩
  have st : Steps _ w2 := hb2
  have Bn : Below w.heap.size w w2 := below_steps (by (repeat' first | with_reducible assumption | with_reducible exact Below.refl _ _ | with_reducible refine Below.alloc ?_ ?_ _ | with_reducible refine Below.drew ?_ | with_reducible refine belowN ?_ _ | with_reducible refine Below.setCell ?_ ?_ _ | go_size)) (Nat.le_refl _) st
  have nA : Blk w2 (w.heap.size) 23 #[.int .i64 (a), .int .i64 (b)] := Blk.steps (by (repeat' first | with_reducible assumption | (with_reducible refine Blk.new' ?_; first | with_reducible rfl | (simp only [World.size_alloc, World.size_setCell, World.size_drew]; done)) | with_reducible refine Blk.alloc ?_ _ | with_reducible refine Blk.drew ?_ | with_reducible refine Blk.drewN ?_ _ | with_reducible apply Blk.both | with_reducible refine Blk.far' ?_ ?_ | (show _ ≠ _; omega))) st
  have nX1 : Blk w2 (w1.heap.size) 23 #[.int .i64 ((negS a b).1), .int .i64 ((negS a b).2.1)] := Blk.steps (by (repeat' first | with_reducible assumption | (with_reducible refine Blk.new' ?_; first | with_reducible rfl | (simp only [World.size_alloc, World.size_setCell, World.size_drew]; done)) | with_reducible refine Blk.alloc ?_ _ | with_reducible refine Blk.drew ?_ | with_reducible refine Blk.drewN ?_ _ | with_reducible apply Blk.both | with_reducible refine Blk.far' ?_ ?_ | (show _ ≠ _; omega))) st
  clear B oA cA0 cA1 lA st hb2
  have B := Bn
  clear Bn
  have oA := nA
  clear nA
  have oX1 := nX1
  clear nX1
  have cA0 : World.cell? w2 ⟨w.heap.size, 0, none⟩ = some (.int .i64 (a)) := oA.c 0 rfl
  have cA1 : World.cell? w2 ⟨w.heap.size, 1, none⟩ = some (.int .i64 (b)) := oA.c 1 rfl
  have lA := oA.lt
  go_wp2_with fail
  refine (sq_p a b _).mono ?_
  rintro e w3 ⟨rfl, hb3⟩
  have st : Steps _ w3 := hb3
  have Bn : Below w.heap.size w w3 := below_steps (by (repeat' first | with_reducible assumption | with_reducible exact Below.refl _ _ | with_reducible refine Below.alloc ?_ ?_ _ | with_reducible refine Below.drew ?_ | with_reducible refine belowN ?_ _ | with_reducible refine Below.setCell ?_ ?_ _ | go_size)) (Nat.le_refl _) st
  have nA : Blk w3 (w.heap.size) 23 #[.int .i64 (a), .int .i64 (b)] := Blk.steps (by (repeat' first | with_reducible assumption | (with_reducible refine Blk.new' ?_; first | with_reducible rfl | (simp only [World.size_alloc, World.size_setCell, World.size_drew]; done)) | with_reducible refine Blk.alloc ?_ _ | with_reducible refine Blk.drew ?_ | with_reducible refine Blk.drewN ?_ _ | with_reducible apply Blk.both | with_reducible refine Blk.far' ?_ ?_ | (show _ ≠ _; omega))) st
  have nX1 : Blk w3 (w1.heap.size) 23 #[.int .i64 ((negS a b).1), .int .i64 ((negS a b).2.1)] := Blk.steps (by (repeat' first | with_reducible assumption | (with_reducible refine Blk.new' ?_; first | with_reducible rfl | (simp only [World.size_alloc, World.size_setCell, World.size_drew]; done)) | with_reducible refine Blk.alloc ?_ _ | with_reducible refine Blk.drew ?_ | with_reducible refine Blk.drewN ?_ _ | with_reducible apply Blk.both | with_reducible refine Blk.far' ?_ ?_ | (show _ ≠ _; omega))) st
  have nX2 : Blk w3 (w2.heap.size) 23 #[.int .i64 ((negS a b).1), .int .i64 ((negS a b).2.1)] := Blk.steps (by (repeat' first | with_reducible assumption | (with_reducible refine Blk.new' ?_; first | with_reducible rfl | (simp only [World.size_alloc, World.size_setCell, World.size_drew]; done)) | with_reducible refine Blk.alloc ?_ _ | with_reducible refine Blk.drew ?_ | with_reducible refine Blk.drewN ?_ _ | with_reducible apply Blk.both | with_reducible refine Blk.far' ?_ ?_ | (show _ ≠ _; omega))) st
  clear B oA oX1 cA0 cA1 lA st hb3
  have B := Bn
  clear Bn
  have oA := nA
  clear nA
  have oX1 := nX1
  clear nX1
  have oX2 := nX2
  clear nX2
  have cA0 : World.cell? w3 ⟨w.heap.size, 0, none⟩ = some (.int .i64 (a)) := oA.c 0 rfl
  have cA1 : World.cell? w3 ⟨w.heap.size, 1, none⟩ = some (.int .i64 (b)) := oA.c 1 rfl
  have lA := oA.lt
  go_wp2_with fail
  refine (rsq a b _).mono ?_
  rintro e w4 ⟨rfl, hb4⟩
  have st : Steps _ w4 := hb4
  have Bn : Below w.heap.size w w4 := below_steps (by (repeat' first | with_reducible assumption | with_reducible exact Below.refl _ _ | with_reducible refine Below.alloc ?_ ?_ _ | with_reducible refine Below.drew ?_ | with_reducible refine belowN ?_ _ | with_reducible refine Below.setCell ?_ ?_ _ | go_size)) (Nat.le_refl _) st
  have nA : Blk w4 (w.heap.size) 23 #[.int .i64 (a), .int .i64 (b)] := Blk.steps (by (repeat' first | with_reducible assumption | (with_reducible refine Blk.new' ?_; first | with_reducible rfl | (simp only [World.size_alloc, World.size_setCell, World.size_drew]; done)) | with_reducible refine Blk.alloc ?_ _ | with_reducible refine Blk.drew ?_ | with_reducible refine Blk.drewN ?_ _ | with_reducible apply Blk.both | with_reducible refine Blk.far' ?_ ?_ | (show _ ≠ _; omega))) st
  have nX1 : Blk w4 (w1.heap.size) 23 #[.int .i64 ((negS a b).1), .int .i64 ((negS a b).2.1)] := Blk.steps (by (repeat' first | with_reducible assumption | (with_reducible refine Blk.new' ?_; first | with_reducible rfl | (simp only [World.size_alloc, World.size_setCell, World.size_drew]; done)) | with_reducible refine Blk.alloc ?_ _ | with_reducible refine Blk.drew ?_ | with_reducible refine Blk.drewN ?_ _ | with_reducible apply Blk.both | with_reducible refine Blk.far' ?_ ?_ | (show _ ≠ _; omega))) st
  have nX2 : Blk w4 (w2.heap.size) 23 #[.int .i64 ((negS a b).1), .int .i64 ((negS a b).2.1)] := Blk.steps (by (repeat' first | with_reducible assumption | (with_reducible refine Blk.new' ?_; first | with_reducible rfl | (simp only [World.size_alloc, World.size_setCell, World.size_drew]; done)) | with_reducible refine Blk.alloc ?_ _ | with_reducible refine Blk.drew ?_ | with_reducible refine Blk.drewN ?_ _ | with_reducible apply Blk.both | with_reducible refine Blk.far' ?_ ?_ | (show _ ≠ _; omega))) st
  have nX3 : Blk w4 (w3.heap.size) 23 #[.int .i64 ((sqS a b).1), .int .i64 ((sqS a b).2.1)] := Blk.steps (by (repeat' first | with_reducible assumption | (with_reducible refine Blk.new' ?_; first | with_reducible rfl | (simp only [World.size_alloc, World.size_setCell, World.size_drew]; done)) | with_reducible refine Blk.alloc ?_ _ | with_reducible refine Blk.drew ?_ | with_reducible refine Blk.drewN ?_ _ | with_reducible apply Blk.both | with_reducible refine Blk.far' ?_ ?_ | (show _ ≠ _; omega))) st
  clear B oA oX1 oX2 cA0 cA1 lA st hb4
  have B := Bn
  clear Bn
  have oA := nA
  clear nA
  have oX1 := nX1
  clear nX1
  have oX2 := nX2
  clear nX2
  have oX3 := nX3
  clear nX3
  have cA0 : World.cell? w4 ⟨w.heap.size, 0, none⟩ = some (.int .i64 (a)) := oA.c 0 rfl
  have cA1 : World.cell? w4 ⟨w.heap.size, 1, none⟩ = some (.int .i64 (b)) := oA.c 1 rfl
  have lA := oA.lt
  go_wp2_with fail
  refine (sqrt_p a b _).mono ?_
  rintro e w5 ⟨rfl, hb5⟩
  have st : Steps _ w5 := hb5
  have Bn : Below w.heap.size w w5 := below_steps (by (repeat' first | with_reducible assumption | with_reducible exact Below.refl _ _ | with_reducible refine Below.alloc ?_ ?_ _ | with_reducible refine Below.drew ?_ | with_reducible refine belowN ?_ _ | with_reducible refine Below.setCell ?_ ?_ _ | go_size)) (Nat.le_refl _) st
  have nA : Blk w5 (w.heap.size) 23 #[.int .i64 (a), .int .i64 (b)] := Blk.steps (by (repeat' first | with_reducible assumption | (with_reducible refine Blk.new' ?_; first | with_reducible rfl | (simp only [World.size_alloc, World.size_setCell, World.size_drew]; done)) | with_reducible refine Blk.alloc ?_ _ | with_reducible refine Blk.drew ?_ | with_reducible refine Blk.drewN ?_ _ | with_reducible apply Blk.both | with_reducible refine Blk.far' ?_ ?_ | (show _ ≠ _; omega))) st
  have nX1 : Blk w5 (w1.heap.size) 23 #[.int .i64 ((negS a b).1), .int .i64 ((negS a b).2.1)] := Blk.steps (by (repeat' first | with_reducible assumption | (with_reducible refine Blk.new' ?_; first | with_reducible rfl | (simp only [World.size_alloc, World.size_setCell, World.size_drew]; done)) | with_reducible refine Blk.alloc ?_ _ | with_reducible refine Blk.drew ?_ | with_reducible refine Blk.drewN ?_ _ | with_reducible apply Blk.both | with_reducible refine Blk.far' ?_ ?_ | (show _ ≠ _; omega))) st
  have nX2 : Blk w5 (w2.heap.size) 23 #[.int .i64 ((negS a b).1), .int .i64 ((negS a b).2.1)] := Blk.steps (by (repeat' first | with_reducible assumption | (with_reducible refine Blk.new' ?_; first | with_reducible rfl | (simp only [World.size_alloc, World.size_setCell, World.size_drew]; done)) | with_reducible refine Blk.alloc ?_ _ | with_reducible refine Blk.drew ?_ | with_reducible refine Blk.drewN ?_ _ | with_reducible apply Blk.both | with_reducible refine Blk.far' ?_ ?_ | (show _ ≠ _; omega))) st
  have nX3 : Blk w5 (w3.heap.size) 23 #[.int .i64 ((sqS a b).1), .int .i64 ((sqS a b).2.1)] := Blk.steps (by (repeat' first | with_reducible assumption | (with_reducible refine Blk.new' ?_; first | with_reducible rfl | (simp only [World.size_alloc, World.size_setCell, World.size_drew]; done)) | with_reducible refine Blk.alloc ?_ _ | with_reducible refine Blk.drew ?_ | with_reducible refine Blk.drewN ?_ _ | with_reducible apply Blk.both | with_reducible refine Blk.far' ?_ ?_ | (show _ ≠ _; omega))) st
  have nX4 : Blk w5 (w4.heap.size) 23 #[.int .i64 ((sqS a b).1), .int .i64 ((sqS a b).2.1)] := Blk.steps (by (repeat' first | with_reducible assumption | (with_reducible refine Blk.new' ?_; first | with_reducible rfl | (simp only [World.size_alloc, World.size_setCell, World.size_drew]; done)) | with_reducible refine Blk.alloc ?_ _ | with_reducible refine Blk.drew ?_ | with_reducible refine Blk.drewN ?_ _ | with_reducible apply Blk.both | with_reducible refine Blk.far' ?_ ?_ | (show _ ≠ _; omega))) st
  clear B oA oX1 oX2 oX3 cA0 cA1 lA st hb5
  have B := Bn
  clear Bn
  have oA := nA
  clear nA
  have oX1 := nX1
  clear nX1
  have oX2 := nX2
  clear nX2
  have oX3 := nX3
  clear nX3
  have oX4 := nX4
  clear nX4
  have cA0 : World.cell? w5 ⟨w.heap.size, 0, none⟩ = some (.int .i64 (a)) := oA.c 0 rfl
  have cA1 : World.cell? w5 ⟨w.heap.size, 1, none⟩ = some (.int .i64 (b)) := oA.c 1 rfl
  have lA := oA.lt
  go_wp2_with fail
  refine (rsqrt a b _).mono ?_
  rintro e w6 ⟨rfl, hb6⟩
  have st : Steps _ w6 := hb6
  have Bn : Below w.heap.size w w6 := below_steps (by (repeat' first | with_reducible assumption | with_reducible exact Below.refl _ _ | with_reducible refine Below.alloc ?_ ?_ _ | with_reducible refine Below.drew ?_ | with_reducible refine belowN ?_ _ | with_reducible refine Below.setCell ?_ ?_ _ | go_size)) (Nat.le_refl _) st
  have nA : Blk w6 (w.heap.size) 23 #[.int .i64 (a), .int .i64 (b)] := Blk.steps (by (repeat' first | with_reducible assumption | (with_reducible refine Blk.new' ?_; first | with_reducible rfl | (simp only [World.size_alloc, World.size_setCell, World.size_drew]; done)) | with_reducible refine Blk.alloc ?_ _ | with_reducible refine Blk.drew ?_ | with_reducible refine Blk.drewN ?_ _ | with_reducible apply Blk.both | with_reducible refine Blk.far' ?_ ?_ | (show _ ≠ _; omega))) st
  have nX1 : Blk w6 (w1.heap.size) 23 #[.int .i64 ((negS a b).1), .int .i64 ((negS a b).2.1)] := Blk.steps (by (repeat' first | with_reducible assumption | (with_reducible refine Blk.new' ?_; first | with_reducible rfl | (simp only [World.size_alloc, World.size_setCell, World.size_drew]; done)) | with_reducible refine Blk.alloc ?_ _ | with_reducible refine Blk.drew ?_ | with_reducible refine Blk.drewN ?_ _ | with_reducible apply Blk.both | with_reducible refine Blk.far' ?_ ?_ | (show _ ≠ _; omega))) st
  have nX2 : Blk w6 (w2.heap.size) 23 #[.int .i64 ((negS a b).1), .int .i64 ((negS a b).2.1)] := Blk.steps (by (repeat' first | with_reducible assumption | (with_reducible refine Blk.new' ?_; first | with_reducible rfl | (simp only [World.size_alloc, World.size_setCell, World.size_drew]; done)) | with_reducible refine Blk.alloc ?_ _ | with_reducible refine Blk.drew ?_ | with_reducible refine Blk.drewN ?_ _ | with_reducible apply Blk.both | with_reducible refine Blk.far' ?_ ?_ | (show _ ≠ _; omega))) st
  have nX3 : Blk w6 (w3.heap.size) 23 #[.int .i64 ((sqS a b).1), .int .i64 ((sqS a b).2.1)] := Blk.steps (by (repeat' first | with_reducible assumption | (with_reducible refine Blk.new' ?_; first | with_reducible rfl | (simp only [World.size_alloc, World.size_setCell, World.size_drew]; done)) | with_reducible refine Blk.alloc ?_ _ | with_reducible refine Blk.drew ?_ | with_reducible refine Blk.drewN ?_ _ | with_reducible apply Blk.both | with_reducible refine Blk.far' ?_ ?_ | (show _ ≠ _; omega))) st
  have nX4 : Blk w6 (w4.heap.size) 23 #[.int .i64 ((sqS a b).1), .int .i64 ((sqS a b).2.1)] := Blk.steps (by (repeat' first | with_reducible assumption | (with_reducible refine Blk.new' ?_; first | with_reducible rfl | (simp only [World.size_alloc, World.size_setCell, World.size_drew]; done)) | with_reducible refine Blk.alloc ?_ _ | with_reducible refine Blk.drew ?_ | with_reducible refine Blk.drewN ?_ _ | with_reducible apply Blk.both | with_reducible refine Blk.far' ?_ ?_ | (show _ ≠ _; omega))) st
  have nX5 : Blk w6 (w5.heap.size) 23 #[.int .i64 ((sqrtS a b).1), .int .i64 ((sqrtS a b).2.1)] := Blk.steps (by (repeat' first | with_reducible assumption | (with_reducible refine Blk.new' ?_; first | with_reducible rfl | (simp only [World.size_alloc, World.size_setCell, World.size_drew]; done)) | with_reducible refine Blk.alloc ?_ _ | with_reducible refine Blk.drew ?_ | with_reducible refine Blk.drewN ?_ _ | with_reducible apply Blk.both | with_reducible refine Blk.far' ?_ ?_ | (show _ ≠ _; omega))) st
  clear B oA oX1 oX2 oX3 oX4 cA0 cA1 lA st hb6
  have B := Bn
  clear Bn
  have oA := nA
  clear nA
  have oX1 := nX1
  clear nX1
  have oX2 := nX2
  clear nX2
  have oX3 := nX3
  clear nX3
  have oX4 := nX4
  clear nX4
  have oX5 := nX5
  clear nX5
  have cA0 : World.cell? w6 ⟨w.heap.size, 0, none⟩ = some (.int .i64 (a)) := oA.c 0 rfl
  have cA1 : World.cell? w6 ⟨w.heap.size, 1, none⟩ = some (.int .i64 (b)) := oA.c 1 rfl
  have lA := oA.lt
  go_wp2_with fail
  refine (abs_p a b _).mono ?_
  rintro e w7 ⟨rfl, hb7⟩
  have st : Steps _ w7 := hb7
  have Bn : Below w.heap.size w w7 := below_steps (by (repeat' first | with_reducible assumption | with_reducible exact Below.refl _ _ | with_reducible refine Below.alloc ?_ ?_ _ | with_reducible refine Below.drew ?_ | with_reducible refine belowN ?_ _ | with_reducible refine Below.setCell ?_ ?_ _ | go_size)) (Nat.le_refl _) st
  have nA : Blk w7 (w.heap.size) 23 #[.int .i64 (a), .int .i64 (b)] := Blk.steps (by (repeat' first | with_reducible assumption | (with_reducible refine Blk.new' ?_; first | with_reducible rfl | (simp only [World.size_alloc, World.size_setCell, World.size_drew]; done)) | with_reducible refine Blk.alloc ?_ _ | with_reducible refine Blk.drew ?_ | with_reducible refine Blk.drewN ?_ _ | with_reducible apply Blk.both | with_reducible refine Blk.far' ?_ ?_ | (show _ ≠ _; omega))) st
  have nX1 : Blk w7 (w1.heap.size) 23 #[.int .i64 ((negS a b).1), .int .i64 ((negS a b).2.1)] := Blk.steps (by (repeat' first | with_reducible assumption | (with_reducible refine Blk.new' ?_; first | with_reducible rfl | (simp only [World.size_alloc, World.size_setCell, World.size_drew]; done)) | with_reducible refine Blk.alloc ?_ _ | with_reducible refine Blk.drew ?_ | with_reducible refine Blk.drewN ?_ _ | with_reducible apply Blk.both | with_reducible refine Blk.far' ?_ ?_ | (show _ ≠ _; omega))) st
  have nX2 : Blk w7 (w2.heap.size) 23 #[.int .i64 ((negS a b).1), .int .i64 ((negS a b).2.1)] := Blk.steps (by (repeat' first | with_reducible assumption | (with_reducible refine Blk.new' ?_; first | with_reducible rfl | (simp only [World.size_alloc, World.size_setCell, World.size_drew]; done)) | with_reducible refine Blk.alloc ?_ _ | with_reducible refine Blk.drew ?_ | with_reducible refine Blk.drewN ?_ _ | with_reducible apply Blk.both | with_reducible refine Blk.far' ?_ ?_ | (show _ ≠ _; omega))) st
  have nX3 : Blk w7 (w3.heap.size) 23 #[.int .i64 ((sqS a b).1), .int .i64 ((sqS a b).2.1)] := Blk.steps (by (repeat' first | with_reducible assumption | (with_reducible refine Blk.new' ?_; first | with_reducible rfl | (simp only [World.size_alloc, World.size_setCell, World.size_drew]; done)) | with_reducible refine Blk.alloc ?_ _ | with_reducible refine Blk.drew ?_ | with_reducible refine Blk.drewN ?_ _ | with_reducible apply Blk.both | with_reducible refine Blk.far' ?_ ?_ | (show _ ≠ _; omega))) st
  have nX4 : Blk w7 (w4.heap.size) 23 #[.int .i64 ((sqS a b).1), .int .i64 ((sqS a b).2.1)] := Blk.steps (by (repeat' first | with_reducible assumption | (with_reducible refine Blk.new' ?_; first | with_reducible rfl | (simp only [World.size_alloc, World.size_setCell, World.size_drew]; done)) | with_reducible refine Blk.alloc ?_ _ | with_reducible refine Blk.drew ?_ | with_reducible refine Blk.drewN ?_ _ | with_reducible apply Blk.both | with_reducible refine Blk.far' ?_ ?_ | (show _ ≠ _; omega))) st
  have nX5 : Blk w7 (w5.heap.size) 23 #[.int .i64 ((sqrtS a b).1), .int .i64 ((sqrtS a b).2.1)] := Blk.steps (by (repeat' first | with_reducible assumption | (with_reducible refine Blk.new' ?_; first | with_reducible rfl | (simp only [World.size_alloc, World.size_setCell, World.size_drew]; done)) | with_reducible refine Blk.alloc ?_ _ | with_reducible refine Blk.drew ?_ | with_reducible refine Blk.drewN ?_ _ | with_reducible apply Blk.both | with_reducible refine Blk.far' ?_ ?_ | (show _ ≠ _; omega))) st
  have nX6 : Blk w7 (w6.heap.size) 23 #[.int .i64 ((sqrtS a b).1), .int .i64 ((sqrtS a b).2.1)] := Blk.steps (by (repeat' first | with_reducible assumption | (with_reducible refine Blk.new' ?_; first | with_reducible rfl | (simp only [World.size_alloc, World.size_setCell, World.size_drew]; done)) | with_reducible refine Blk.alloc ?_ _ | with_reducible refine Blk.drew ?_ | with_reducible refine Blk.drewN ?_ _ | with_reducible apply Blk.both | with_reducible refine Blk.far' ?_ ?_ | (show _ ≠ _; omega))) st
  clear B oA oX1 oX2 oX3 oX4 oX5 cA0 cA1 lA st hb7
  have B := Bn
  clear Bn
  have oA := nA
  clear nA
  have oX1 := nX1
  clear nX1
  have oX2 := nX2
  clear nX2
  have oX3 := nX3
  clear nX3
  have oX4 := nX4
  clear nX4
  have oX5 := nX5
  clear nX5
  have oX6 := nX6
  clear nX6
  have cA0 : World.cell? w7 ⟨w.heap.size, 0, none⟩ = some (.int .i64 (a)) := oA.c 0 rfl
  have cA1 : World.cell? w7 ⟨w.heap.size, 1, none⟩ = some (.int .i64 (b)) := oA.c 1 rfl
  have lA := oA.lt
  go_wp2_with fail
  refine (rabs a b _).mono ?_
  rintro e w8 ⟨rfl, hb8⟩
  have st : Steps _ w8 := hb8
  have Bn : Below w.heap.size w w8 := below_steps (by (repeat' first | with_reducible assumption | with_reducible exact Below.refl _ _ | with_reducible refine Below.alloc ?_ ?_ _ | with_reducible refine Below.drew ?_ | with_reducible refine belowN ?_ _ | with_reducible refine Below.setCell ?_ ?_ _ | go_size)) (Nat.le_refl _) st
  have nA : Blk w8 (w.heap.size) 23 #[.int .i64 (a), .int .i64 (b)] := Blk.steps (by (repeat' first | with_reducible assumption | (with_reducible refine Blk.new' ?_; first | with_reducible rfl | (simp only [World.size_alloc, World.size_setCell, World.size_drew]; done)) | with_reducible refine Blk.alloc ?_ _ | with_reducible refine Blk.drew ?_ | with_reducible refine Blk.drewN ?_ _ | with_reducible apply Blk.both | with_reducible refine Blk.far' ?_ ?_ | (show _ ≠ _; omega))) st
  have nX1 : Blk w8 (w1.heap.size) 23 #[.int .i64 ((negS a b).1), .int .i64 ((negS a b).2.1)] := Blk.steps (by (repeat' first | with_reducible assumption | (with_reducible refine Blk.new' ?_; first | with_reducible rfl | (simp only [World.size_alloc, World.size_setCell, World.size_drew]; done)) | with_reducible refine Blk.alloc ?_ _ | with_reducible refine Blk.drew ?_ | with_reducible refine Blk.drewN ?_ _ | with_reducible apply Blk.both | with_reducible refine Blk.far' ?_ ?_ | (show _ ≠ _; omega))) st
  have nX2 : Blk w8 (w2.heap.size) 23 #[.int .i64 ((negS a b).1), .int .i64 ((negS a b).2.1)] := Blk.steps (by (repeat' first | with_reducible assumption | (with_reducible refine Blk.new' ?_; first | with_reducible rfl | (simp only [World.size_alloc, World.size_setCell, World.size_drew]; done)) | with_reducible refine Blk.alloc ?_ _ | with_reducible refine Blk.drew ?_ | with_reducible refine Blk.drewN ?_ _ | with_reducible apply Blk.both | with_reducible refine Blk.far' ?_ ?_ | (show _ ≠ _; omega))) st
  have nX3 : Blk w8 (w3.heap.size) 23 #[.int .i64 ((sqS a b).1), .int .i64 ((sqS a b).2.1)] := Blk.steps (by (repeat' first | with_reducible assumption | (with_reducible refine Blk.new' ?_; first | with_reducible rfl | (simp only [World.size_alloc, World.size_setCell, World.size_drew]; done)) | with_reducible refine Blk.alloc ?_ _ | with_reducible refine Blk.drew ?_ | with_reducible refine Blk.drewN ?_ _ | with_reducible apply Blk.both | with_reducible refine Blk.far' ?_ ?_ | (show _ ≠ _; omega))) st
  have nX4 : Blk w8 (w4.heap.size) 23 #[.int .i64 ((sqS a b).1), .int .i64 ((sqS a b).2.1)] := Blk.steps (by (repeat' first | with_reducible assumption | (with_reducible refine Blk.new' ?_; first | with_reducible rfl | (simp only [World.size_alloc, World.size_setCell, World.size_drew]; done)) | with_reducible refine Blk.alloc ?_ _ | with_reducible refine Blk.drew ?_ | with_reducible refine Blk.drewN ?_ _ | with_reducible apply Blk.both | with_reducible refine Blk.far' ?_ ?_ | (show _ ≠ _; omega))) st
  have nX5 : Blk w8 (w5.heap.size) 23 #[.int .i64 ((sqrtS a b).1), .int .i64 ((sqrtS a b).2.1)] := Blk.steps (by (repeat' first | with_reducible assumption | (with_reducible refine Blk.new' ?_; first | with_reducible rfl | (simp only [World.size_alloc, World.size_setCell, World.size_drew]; done)) | with_reducible refine Blk.alloc ?_ _ | with_reducible refine Blk.drew ?_ | with_reducible refine Blk.drewN ?_ _ | with_reducible apply Blk.both | with_reducible refine Blk.far' ?_ ?_ | (show _ ≠ _; omega))) st
  have nX6 : Blk w8 (w6.heap.size) 23 #[.int .i64 ((sqrtS a b).1), .int .i64 ((sqrtS a b).2.1)] := Blk.steps (by (repeat' first | with_reducible assumption | (with_reducible refine Blk.new' ?_; first | with_reducible rfl | (simp only [World.size_alloc, World.size_setCell, World.size_drew]; done)) | with_reducible refine Blk.alloc ?_ _ | with_reducible refine Blk.drew ?_ | with_reducible refine Blk.drewN ?_ _ | with_reducible apply Blk.both | with_reducible refine Blk.far' ?_ ?_ | (show _ ≠ _; omega))) st
  have nX7 : Blk w8 (w7.heap.size) 23 #[.int .i64 ((absS a b).1), .int .i64 ((absS a b).2.1)] := Blk.steps (by (repeat' first | with_reducible assumption | (with_reducible refine Blk.new' ?_; first | with_reducible rfl | (simp only [World.size_alloc, World.size_setCell, World.size_drew]; done)) | with_reducible refine Blk.alloc ?_ _ | with_reducible refine Blk.drew ?_ | with_reducible refine Blk.drewN ?_ _ | with_reducible apply Blk.both | with_reducible refine Blk.far' ?_ ?_ | (show _ ≠ _; omega))) st
  clear B oA oX1 oX2 oX3 oX4 oX5 oX6 cA0 cA1 lA st hb8
  have B := Bn
  clear Bn
  have oA := nA
  clear nA
  have oX1 := nX1
  clear nX1
  have oX2 := nX2
  clear nX2
  have oX3 := nX3
  clear nX3
  have oX4 := nX4
  clear nX4
  have oX5 := nX5
  clear nX5
  have oX6 := nX6
  clear nX6
  have oX7 := nX7
  clear nX7
  have cA0 : World.cell? w8 ⟨w.heap.size, 0, none⟩ = some (.int .i64 (a)) := oA.c 0 rfl
  have cA1 : World.cell? w8 ⟨w.heap.size, 1, none⟩ = some (.int .i64 (b)) := oA.c 1 rfl
  have lA := oA.lt
  go_wp2_with fail
  refine (scale_p a b num den _ n0 n1 d0 d1).mono ?_
  rintro e w9 ⟨rfl, hb9⟩
  have st : Steps _ w9 := hb9
  have Bn : Below w.heap.size w w9 := below_steps (by (repeat' first | with_reducible assumption | with_reducible exact Below.refl _ _ | with_reducible refine Below.alloc ?_ ?_ _ | with_reducible refine Below.drew ?_ | with_reducible refine belowN ?_ _ | with_reducible refine Below.setCell ?_ ?_ _ | go_size)) (Nat.le_refl _) st
  have nA : Blk w9 (w.heap.size) 23 #[.int .i64 (a), .int .i64 (b)] := Blk.steps (by (repeat' first | with_reducible assumption | (with_reducible refine Blk.new' ?_; first | with_reducible rfl | (simp only [World.size_alloc, World.size_setCell, World.size_drew]; done)) | with_reducible refine Blk.alloc ?_ _ | with_reducible refine Blk.drew ?_ | with_reducible refine Blk.drewN ?_ _ | with_reducible apply Blk.both | with_reducible refine Blk.far' ?_ ?_ | (show _ ≠ _; omega))) st
  have nX1 : Blk w9 (w1.heap.size) 23 #[.int .i64 ((negS a b).1), .int .i64 ((negS a b).2.1)] := Blk.steps (by (repeat' first | with_reducible assumption | (with_reducible refine Blk.new' ?_; first | with_reducible rfl | (simp only [World.size_alloc, World.size_setCell, World.size_drew]; done)) | with_reducible refine Blk.alloc ?_ _ | with_reducible refine Blk.drew ?_ | with_reducible refine Blk.drewN ?_ _ | with_reducible apply Blk.both | with_reducible refine Blk.far' ?_ ?_ | (show _ ≠ _; omega))) st
  have nX2 : Blk w9 (w2.heap.size) 23 #[.int .i64 ((negS a b).1), .int .i64 ((negS a b).2.1)] := Blk.steps (by (repeat' first | with_reducible assumption | (with_reducible refine Blk.new' ?_; first | with_reducible rfl | (simp only [World.size_alloc, World.size_setCell, World.size_drew]; done)) | with_reducible refine Blk.alloc ?_ _ | with_reducible refine Blk.drew ?_ | with_reducible refine Blk.drewN ?_ _ | with_reducible apply Blk.both | with_reducible refine Blk.far' ?_ ?_ | (show _ ≠ _; omega))) st
  have nX3 : Blk w9 (w3.heap.size) 23 #[.int .i64 ((sqS a b).1), .int .i64 ((sqS a b).2.1)] := Blk.steps (by (repeat' first | with_reducible assumption | (with_reducible refine Blk.new' ?_; first | with_reducible rfl | (simp only [World.size_alloc, World.size_setCell, World.size_drew]; done)) | with_reducible refine Blk.alloc ?_ _ | with_reducible refine Blk.drew ?_ | with_reducible refine Blk.drewN ?_ _ | with_reducible apply Blk.both | with_reducible refine Blk.far' ?_ ?_ | (show _ ≠ _; omega))) st
  have nX4 : Blk w9 (w4.heap.size) 23 #[.int .i64 ((sqS a b).1), .int .i64 ((sqS a b).2.1)] := Blk.steps (by (repeat' first | with_reducible assumption | (with_reducible refine Blk.new' ?_; first | with_reducible rfl | (simp only [World.size_alloc, World.size_setCell, World.size_drew]; done)) | with_reducible refine Blk.alloc ?_ _ | with_reducible refine Blk.drew ?_ | with_reducible refine Blk.drewN ?_ _ | with_reducible apply Blk.both | with_reducible refine Blk.far' ?_ ?_ | (show _ ≠ _; omega))) st
  have nX5 : Blk w9 (w5.heap.size) 23 #[.int .i64 ((sqrtS a b).1), .int .i64 ((sqrtS a b).2.1)] := Blk.steps (by (repeat' first | with_reducible assumption | (with_reducible refine Blk.new' ?_; first | with_reducible rfl | (simp only [World.size_alloc, World.size_setCell, World.size_drew]; done)) | with_reducible refine Blk.alloc ?_ _ | with_reducible refine Blk.drew ?_ | with_reducible refine Blk.drewN ?_ _ | with_reducible apply Blk.both | with_reducible refine Blk.far' ?_ ?_ | (show _ ≠ _; omega))) st
  have nX6 : Blk w9 (w6.heap.size) 23 #[.int .i64 ((sqrtS a b).1), .int .i64 ((sqrtS a b).2.1)] := Blk.steps (by (repeat' first | with_reducible assumption | (with_reducible refine Blk.new' ?_; first | with_reducible rfl | (simp only [World.size_alloc, World.size_setCell, World.size_drew]; done)) | with_reducible refine Blk.alloc ?_ _ | with_reducible refine Blk.drew ?_ | with_reducible refine Blk.drewN ?_ _ | with_reducible apply Blk.both | with_reducible refine Blk.far' ?_ ?_ | (show _ ≠ _; omega))) st
  have nX7 : Blk w9 (w7.heap.size) 23 #[.int .i64 ((absS a b).1), .int .i64 ((absS a b).2.1)] := Blk.steps (by (repeat' first | with_reducible assumption | (with_reducible refine Blk.new' ?_; first | with_reducible rfl | (simp only [World.size_alloc, World.size_setCell, World.size_drew]; done)) | with_reducible refine Blk.alloc ?_ _ | with_reducible refine Blk.drew ?_ | with_reducible refine Blk.drewN ?_ _ | with_reducible apply Blk.both | with_reducible refine Blk.far' ?_ ?_ | (show _ ≠ _; omega))) st
  have nX8 : Blk w9 (w8.heap.size) 23 #[.int .i64 ((absS a b).1), .int .i64 ((absS a b).2.1)] := Blk.steps (by (repeat' first | with_reducible assumption | (with_reducible refine Blk.new' ?_; first | with_reducible rfl | (simp only [World.size_alloc, World.size_setCell, World.size_drew]; done)) | with_reducible refine Blk.alloc ?_ _ | with_reducible refine Blk.drew ?_ | with_reducible refine Blk.drewN ?_ _ | with_reducible apply Blk.both | with_reducible refine Blk.far' ?_ ?_ | (show _ ≠ _; omega))) st
  clear B oA oX1 oX2 oX3 oX4 oX5 oX6 oX7 cA0 cA1 lA st hb9
  have B := Bn
  clear Bn
  have oA := nA
  clear nA
  have oX1 := nX1
  clear nX1
  have oX2 := nX2
  clear nX2
  have oX3 := nX3
  clear nX3
  have oX4 := nX4
  clear nX4
  have oX5 := nX5
  clear nX5
  have oX6 := nX6
  clear nX6
  have oX7 := nX7
  clear nX7
  have oX8 := nX8
  clear nX8
  have cA0 : World.cell? w9 ⟨w.heap.size, 0, none⟩ = some (.int .i64 (a)) := oA.c 0 rfl
  have cA1 : World.cell? w9 ⟨w.heap.size, 1, none⟩ = some (.int .i64 (b)) := oA.c 1 rfl
  have lA := oA.lt
  go_wp2_with fail
  refine (rscale a b num den _ n0 n1 d0 d1).mono ?_
  rintro e w10 ⟨rfl, hb10⟩
  have st : Steps _ w10 := hb10
  have Bn : Below w.heap.size w w10 := below_steps (by (repeat' first | with_reducible assumption | with_reducible exact Below.refl _ _ | with_reducible refine Below.alloc ?_ ?_ _ | with_reducible refine Below.drew ?_ | with_reducible refine belowN ?_ _ | with_reducible refine Below.setCell ?_ ?_ _ | go_size)) (Nat.le_refl _) st
  have nA : Blk w10 (w.heap.size) 23 #[.int .i64 (a), .int .i64 (b)] := Blk.steps (by (repeat' first | with_reducible assumption | (with_reducible refine Blk.new' ?_; first | with_reducible rfl | (simp only [World.size_alloc, World.size_setCell, World.size_drew]; done)) | with_reducible refine Blk.alloc ?_ _ | with_reducible refine Blk.drew ?_ | with_reducible refine Blk.drewN ?_ _ | with_reducible apply Blk.both | with_reducible refine Blk.far' ?_ ?_ | (show _ ≠ _; omega))) st
  have nX1 : Blk w10 (w1.heap.size) 23 #[.int .i64 ((negS a b).1), .int .i64 ((negS a b).2.1)] := Blk.steps (by (repeat' first | with_reducible assumption | (with_reducible refine Blk.new' ?_; first | with_reducible rfl | (simp only [World.size_alloc, World.size_setCell, World.size_drew]; done)) | with_reducible refine Blk.alloc ?_ _ | with_reducible refine Blk.drew ?_ | with_reducible refine Blk.drewN ?_ _ | with_reducible apply Blk.both | with_reducible refine Blk.far' ?_ ?_ | (show _ ≠ _; omega))) st
  have nX2 : Blk w10 (w2.heap.size) 23 #[.int .i64 ((negS a b).1), .int .i64 ((negS a b).2.1)] := Blk.steps (by (repeat' first | with_reducible assumption | (with_reducible refine Blk.new' ?_; first | with_reducible rfl | (simp only [World.size_alloc, World.size_setCell, World.size_drew]; done)) | with_reducible refine Blk.alloc ?_ _ | with_reducible refine Blk.drew ?_ | with_reducible refine Blk.drewN ?_ _ | with_reducible apply Blk.both | with_reducible refine Blk.far' ?_ ?_ | (show _ ≠ _; omega))) st
  have nX3 : Blk w10 (w3.heap.size) 23 #[.int .i64 ((sqS a b).1), .int .i64 ((sqS a b).2.1)] := Blk.steps (by (repeat' first | with_reducible assumption | (with_reducible refine Blk.new' ?_; first | with_reducible rfl | (simp only [World.size_alloc, World.size_setCell, World.size_drew]; done)) | with_reducible refine Blk.alloc ?_ _ | with_reducible refine Blk.drew ?_ | with_reducible refine Blk.drewN ?_ _ | with_reducible apply Blk.both | with_reducible refine Blk.far' ?_ ?_ | (show _ ≠ _; omega))) st
  have nX4 : Blk w10 (w4.heap.size) 23 #[.int .i64 ((sqS a b).1), .int .i64 ((sqS a b).2.1)] := Blk.steps (by (repeat' first | with_reducible assumption | (with_reducible refine Blk.new' ?_; first | with_reducible rfl | (simp only [World.size_alloc, World.size_setCell, World.size_drew]; done)) | with_reducible refine Blk.alloc ?_ _ | with_reducible refine Blk.drew ?_ | with_reducible refine Blk.drewN ?_ _ | with_reducible apply Blk.both | with_reducible refine Blk.far' ?_ ?_ | (show _ ≠ _; omega))) st
  have nX5 : Blk w10 (w5.heap.size) 23 #[.int .i64 ((sqrtS a b).1), .int .i64 ((sqrtS a b).2.1)] := Blk.steps (by (repeat' first | with_reducible assumption | (with_reducible refine Blk.new' ?_; first | with_reducible rfl | (simp only [World.size_alloc, World.size_setCell, World.size_drew]; done)) | with_reducible refine Blk.alloc ?_ _ | with_reducible refine Blk.drew ?_ | with_reducible refine Blk.drewN ?_ _ | with_reducible apply Blk.both | with_reducible refine Blk.far' ?_ ?_ | (show _ ≠ _; omega))) st
  have nX6 : Blk w10 (w6.heap.size) 23 #[.int .i64 ((sqrtS a b).1), .int .i64 ((sqrtS a b).2.1)] := Blk.steps (by (repeat' first | with_reducible assumption | (with_reducible refine Blk.new' ?_; first | with_reducible rfl | (simp only [World.size_alloc, World.size_setCell, World.size_drew]; done)) | with_reducible refine Blk.alloc ?_ _ | with_reducible refine Blk.drew ?_ | with_reducible refine Blk.drewN ?_ _ | with_reducible apply Blk.both | with_reducible refine Blk.far' ?_ ?_ | (show _ ≠ _; omega))) st
  have nX7 : Blk w10 (w7.heap.size) 23 #[.int .i64 ((absS a b).1), .int .i64 ((absS a b).2.1)] := Blk.steps (by (repeat' first | with_reducible assumption | (with_reducible refine Blk.new' ?_; first | with_reducible rfl | (simp only [World.size_alloc, World.size_setCell, World.size_drew]; done)) | with_reducible refine Blk.alloc ?_ _ | with_reducible refine Blk.drew ?_ | with_reducible refine Blk.drewN ?_ _ | with_reducible apply Blk.both | with_reducible refine Blk.far' ?_ ?_ | (show _ ≠ _; omega))) st
  have nX8 : Blk w10 (w8.heap.size) 23 #[.int .i64 ((absS a b).1), .int .i64 ((absS a b).2.1)] := Blk.steps (by (repeat' first | with_reducible assumption | (with_reducible refine Blk.new' ?_; first | with_reducible rfl | (simp only [World.size_alloc, World.size_setCell, World.size_drew]; done)) | with_reducible refine Blk.alloc ?_ _ | with_reducible refine Blk.drew ?_ | with_reducible refine Blk.drewN ?_ _ | with_reducible apply Blk.both | with_reducible refine Blk.far' ?_ ?_ | (show _ ≠ _; omega))) st
  have nX9 : Blk w10 (w9.heap.size) 23 #[.int .i64 ((scaleS a b num den).1), .int .i64 ((scaleS a b num den).2.1)] := Blk.steps (by (repeat' first | with_reducible assumption | (with_reducible refine Blk.new' ?_; first | with_reducible rfl | (simp only [World.size_alloc, World.size_setCell, World.size_drew]; done)) | with_reducible refine Blk.alloc ?_ _ | with_reducible refine Blk.drew ?_ | with_reducible refine Blk.drewN ?_ _ | with_reducible apply Blk.both | with_reducible refine Blk.far' ?_ ?_ | (show _ ≠ _; omega))) st
  clear B oA oX1 oX2 oX3 oX4 oX5 oX6 oX7 oX8 cA0 cA1 lA st hb10
  have B := Bn
  clear Bn
  have oA := nA
  clear nA
  have oX1 := nX1
  clear nX1
  have oX2 := nX2
  clear nX2
  have oX3 := nX3
  clear nX3
  have oX4 := nX4
  clear nX4
  have oX5 := nX5
  clear nX5
  have oX6 := nX6
  clear nX6
  have oX7 := nX7
  clear nX7
  have oX8 := nX8
  clear nX8
  have oX9 := nX9
  clear nX9
  have cA0 : World.cell? w10 ⟨w.heap.size, 0, none⟩ = some (.int .i64 (a)) := oA.c 0 rfl
  have cA1 : World.cell? w10 ⟨w.heap.size, 1, none⟩ = some (.int .i64 (b)) := oA.c 1 rfl
  have lA := oA.lt
  go_wp2_with fail
  refine (mid_p a b _).mono ?_
  rintro e w11 ⟨rfl, hb11⟩
  have st : Steps _ w11 := hb11
  have Bn : Below w.heap.size w w11 := below_steps (by (repeat' first | with_reducible assumption | with_reducible exact Below.refl _ _ | with_reducible refine Below.alloc ?_ ?_ _ | with_reducible refine Below.drew ?_ | with_reducible refine belowN ?_ _ | with_reducible refine Below.setCell ?_ ?_ _ | go_size)) (Nat.le_refl _) st
  have nA : Blk w11 (w.heap.size) 23 #[.int .i64 (a), .int .i64 (b)] := Blk.steps (by (repeat' first | with_reducible assumption | (with_reducible refine Blk.new' ?_; first | with_reducible rfl | (simp only [World.size_alloc, World.size_setCell, World.size_drew]; done)) | with_reducible refine Blk.alloc ?_ _ | with_reducible refine Blk.drew ?_ | with_reducible refine Blk.drewN ?_ _ | with_reducible apply Blk.both | with_reducible refine Blk.far' ?_ ?_ | (show _ ≠ _; omega))) st
  have nX1 : Blk w11 (w1.heap.size) 23 #[.int .i64 ((negS a b).1), .int .i64 ((negS a b).2.1)] := Blk.steps (by (repeat' first | with_reducible assumption | (with_reducible refine Blk.new' ?_; first | with_reducible rfl | (simp only [World.size_alloc, World.size_setCell, World.size_drew]; done)) | with_reducible refine Blk.alloc ?_ _ | with_reducible refine Blk.drew ?_ | with_reducible refine Blk.drewN ?_ _ | with_reducible apply Blk.both | with_reducible refine Blk.far' ?_ ?_ | (show _ ≠ _; omega))) st
  have nX2 : Blk w11 (w2.heap.size) 23 #[.int .i64 ((negS a b).1), .int .i64 ((negS a b).2.1)] := Blk.steps (by (repeat' first | with_reducible assumption | (with_reducible refine Blk.new' ?_; first | with_reducible rfl | (simp only [World.size_alloc, World.size_setCell, World.size_drew]; done)) | with_reducible refine Blk.alloc ?_ _ | with_reducible refine Blk.drew ?_ | with_reducible refine Blk.drewN ?_ _ | with_reducible apply Blk.both | with_reducible refine Blk.far' ?_ ?_ | (show _ ≠ _; omega))) st
  have nX3 : Blk w11 (w3.heap.size) 23 #[.int .i64 ((sqS a b).1), .int .i64 ((sqS a b).2.1)] := Blk.steps (by (repeat' first | with_reducible assumption | (with_reducible refine Blk.new' ?_; first | with_reducible rfl | (simp only [World.size_alloc, World.size_setCell, World.size_drew]; done)) | with_reducible refine Blk.alloc ?_ _ | with_reducible refine Blk.drew ?_ | with_reducible refine Blk.drewN ?_ _ | with_reducible apply Blk.both | with_reducible refine Blk.far' ?_ ?_ | (show _ ≠ _; omega))) st
  have nX4 : Blk w11 (w4.heap.size) 23 #[.int .i64 ((sqS a b).1), .int .i64 ((sqS a b).2.1)] := Blk.steps (by (repeat' first | with_reducible assumption | (with_reducible refine Blk.new' ?_; first | with_reducible rfl | (simp only [World.size_alloc, World.size_setCell, World.size_drew]; done)) | with_reducible refine Blk.alloc ?_ _ | with_reducible refine Blk.drew ?_ | with_reducible refine Blk.drewN ?_ _ | with_reducible apply Blk.both | with_reducible refine Blk.far' ?_ ?_ | (show _ ≠ _; omega))) st
  have nX5 : Blk w11 (w5.heap.size) 23 #[.int .i64 ((sqrtS a b).1), .int .i64 ((sqrtS a b).2.1)] := Blk.steps (by (repeat' first | with_reducible assumption | (with_reducible refine Blk.new' ?_; first | with_reducible rfl | (simp only [World.size_alloc, World.size_setCell, World.size_drew]; done)) | with_reducible refine Blk.alloc ?_ _ | with_reducible refine Blk.drew ?_ | with_reducible refine Blk.drewN ?_ _ | with_reducible apply Blk.both | with_reducible refine Blk.far' ?_ ?_ | (show _ ≠ _; omega))) st
  have nX6 : Blk w11 (w6.heap.size) 23 #[.int .i64 ((sqrtS a b).1), .int .i64 ((sqrtS a b).2.1)] := Blk.steps (by (repeat' first | with_reducible assumption | (with_reducible refine Blk.new' ?_; first | with_reducible rfl | (simp only [World.size_alloc, World.size_setCell, World.size_drew]; done)) | with_reducible refine Blk.alloc ?_ _ | with_reducible refine Blk.drew ?_ | with_reducible refine Blk.drewN ?_ _ | with_reducible apply Blk.both | with_reducible refine Blk.far' ?_ ?_ | (show _ ≠ _; omega))) st
  have nX7 : Blk w11 (w7.heap.size) 23 #[.int .i64 ((absS a b).1), .int .i64 ((absS a b).2.1)] := Blk.steps (by (repeat' first | with_reducible assumption | (with_reducible refine Blk.new' ?_; first | with_reducible rfl | (simp only [World.size_alloc, World.size_setCell, World.size_drew]; done)) | with_reducible refine Blk.alloc ?_ _ | with_reducible refine Blk.drew ?_ | with_reducible refine Blk.drewN ?_ _ | with_reducible apply Blk.both | with_reducible refine Blk.far' ?_ ?_ | (show _ ≠ _; omega))) st
  have nX8 : Blk w11 (w8.heap.size) 23 #[.int .i64 ((absS a b).1), .int .i64 ((absS a b).2.1)] := Blk.steps (by (repeat' first | with_reducible assumption | (with_reducible refine Blk.new' ?_; first | with_reducible rfl | (simp only [World.size_alloc, World.size_setCell, World.size_drew]; done)) | with_reducible refine Blk.alloc ?_ _ | with_reducible refine Blk.drew ?_ | with_reducible refine Blk.drewN ?_ _ | with_reducible apply Blk.both | with_reducible refine Blk.far' ?_ ?_ | (show _ ≠ _; omega))) st
  have nX9 : Blk w11 (w9.heap.size) 23 #[.int .i64 ((scaleS a b num den).1), .int .i64 ((scaleS a b num den).2.1)] := Blk.steps (by (repeat' first | with_reducible assumption | (with_reducible refine Blk.new' ?_; first | with_reducible rfl | (simp only [World.size_alloc, World.size_setCell, World.size_drew]; done)) | with_reducible refine Blk.alloc ?_ _ | with_reducible refine Blk.drew ?_ | with_reducible refine Blk.drewN ?_ _ | with_reducible apply Blk.both | with_reducible refine Blk.far' ?_ ?_ | (show _ ≠ _; omega))) st
  have nX10 : Blk w11 (w10.heap.size) 23 #[.int .i64 ((scaleS a b num den).1), .int .i64 ((scaleS a b num den).2.1)] := Blk.steps (by (repeat' first | with_reducible assumption | (with_reducible refine Blk.new' ?_; first | with_reducible rfl | (simp only [World.size_alloc, World.size_setCell, World.size_drew]; done)) | with_reducible refine Blk.alloc ?_ _ | with_reducible refine Blk.drew ?_ | with_reducible refine Blk.drewN ?_ _ | with_reducible apply Blk.both | with_reducible refine Blk.far' ?_ ?_ | (show _ ≠ _; omega))) st
  clear B oA oX1 oX2 oX3 oX4 oX5 oX6 oX7 oX8 oX9 cA0 cA1 lA st hb11
  have B := Bn
  clear Bn
  have oA := nA
  clear nA
  have oX1 := nX1
  clear nX1
  have oX2 := nX2
  clear nX2
  have oX3 := nX3
  clear nX3
  have oX4 := nX4
  clear nX4
  have oX5 := nX5
  clear nX5
  have oX6 := nX6
  clear nX6
  have oX7 := nX7
  clear nX7
  have oX8 := nX8
  clear nX8
  have oX9 := nX9
  clear nX9
  have oX10 := nX10
  clear nX10
  have cA0 : World.cell? w11 ⟨w.heap.size, 0, none⟩ = some (.int .i64 (a)) := oA.c 0 rfl
  have cA1 : World.cell? w11 ⟨w.heap.size, 1, none⟩ = some (.int .i64 (b)) := oA.c 1 rfl
  have lA := oA.lt
  go_wp2_with fail
  refine (rmid a b _).mono ?_
  rintro e w12 ⟨rfl, hb12⟩
  have st : Steps _ w12 := hb12
  have Bn : Below w.heap.size w w12 := below_steps (by (repeat' first | with_reducible assumption | with_reducible exact Below.refl _ _ | with_reducible refine Below.alloc ?_ ?_ _ | with_reducible refine Below.drew ?_ | with_reducible refine belowN ?_ _ | with_reducible refine Below.setCell ?_ ?_ _ | go_size)) (Nat.le_refl _) st
  have nA : Blk w12 (w.heap.size) 23 #[.int .i64 (a), .int .i64 (b)] := Blk.steps (by (repeat' first | with_reducible assumption | (with_reducible refine Blk.new' ?_; first | with_reducible rfl | (simp only [World.size_alloc, World.size_setCell, World.size_drew]; done)) | with_reducible refine Blk.alloc ?_ _ | with_reducible refine Blk.drew ?_ | with_reducible refine Blk.drewN ?_ _ | with_reducible apply Blk.both | with_reducible refine Blk.far' ?_ ?_ | (show _ ≠ _; omega))) st
  have nX1 : Blk w12 (w1.heap.size) 23 #[.int .i64 ((negS a b).1), .int .i64 ((negS a b).2.1)] := Blk.steps (by (repeat' first | with_reducible assumption | (with_reducible refine Blk.new' ?_; first | with_reducible rfl | (simp only [World.size_alloc, World.size_setCell, World.size_drew]; done)) | with_reducible refine Blk.alloc ?_ _ | with_reducible refine Blk.drew ?_ | with_reducible refine Blk.drewN ?_ _ | with_reducible apply Blk.both | with_reducible refine Blk.far' ?_ ?_ | (show _ ≠ _; omega))) st
  have nX2 : Blk w12 (w2.heap.size) 23 #[.int .i64 ((negS a b).1), .int .i64 ((negS a b).2.1)] := Blk.steps (by (repeat' first | with_reducible assumption | (with_reducible refine Blk.new' ?_; first | with_reducible rfl | (simp only [World.size_alloc, World.size_setCell, World.size_drew]; done)) | with_reducible refine Blk.alloc ?_ _ | with_reducible refine Blk.drew ?_ | with_reducible refine Blk.drewN ?_ _ | with_reducible apply Blk.both | with_reducible refine Blk.far' ?_ ?_ | (show _ ≠ _; omega))) st
  have nX3 : Blk w12 (w3.heap.size) 23 #[.int .i64 ((sqS a b).1), .int .i64 ((sqS a b).2.1)] := Blk.steps (by (repeat' first | with_reducible assumption | (with_reducible refine Blk.new' ?_; first | with_reducible rfl | (simp only [World.size_alloc, World.size_setCell, World.size_drew]; done)) | with_reducible refine Blk.alloc ?_ _ | with_reducible refine Blk.drew ?_ | with_reducible refine Blk.drewN ?_ _ | with_reducible apply Blk.both | with_reducible refine Blk.far' ?_ ?_ | (show _ ≠ _; omega))) st
  have nX4 : Blk w12 (w4.heap.size) 23 #[.int .i64 ((sqS a b).1), .int .i64 ((sqS a b).2.1)] := Blk.steps (by (repeat' first | with_reducible assumption | (with_reducible refine Blk.new' ?_; first | with_reducible rfl | (simp only [World.size_alloc, World.size_setCell, World.size_drew]; done)) | with_reducible refine Blk.alloc ?_ _ | with_reducible refine Blk.drew ?_ | with_reducible refine Blk.drewN ?_ _ | with_reducible apply Blk.both | with_reducible refine Blk.far' ?_ ?_ | (show _ ≠ _; omega))) st
  have nX5 : Blk w12 (w5.heap.size) 23 #[.int .i64 ((sqrtS a b).1), .int .i64 ((sqrtS a b).2.1)] := Blk.steps (by (repeat' first | with_reducible assumption | (with_reducible refine Blk.new' ?_; first | with_reducible rfl | (simp only [World.size_alloc, World.size_setCell, World.size_drew]; done)) | with_reducible refine Blk.alloc ?_ _ | with_reducible refine Blk.drew ?_ | with_reducible refine Blk.drewN ?_ _ | with_reducible apply Blk.both | with_reducible refine Blk.far' ?_ ?_ | (show _ ≠ _; omega))) st
  have nX6 : Blk w12 (w6.heap.size) 23 #[.int .i64 ((sqrtS a b).1), .int .i64 ((sqrtS a b).2.1)] := Blk.steps (by (repeat' first | with_reducible assumption | (with_reducible refine Blk.new' ?_; first | with_reducible rfl | (simp only [World.size_alloc, World.size_setCell, World.size_drew]; done)) | with_reducible refine Blk.alloc ?_ _ | with_reducible refine Blk.drew ?_ | with_reducible refine Blk.drewN ?_ _ | with_reducible apply Blk.both | with_reducible refine Blk.far' ?_ ?_ | (show _ ≠ _; omega))) st
  have nX7 : Blk w12 (w7.heap.size) 23 #[.int .i64 ((absS a b).1), .int .i64 ((absS a b).2.1)] := Blk.steps (by (repeat' first | with_reducible assumption | (with_reducible refine Blk.new' ?_; first | with_reducible rfl | (simp only [World.size_alloc, World.size_setCell, World.size_drew]; done)) | with_reducible refine Blk.alloc ?_ _ | with_reducible refine Blk.drew ?_ | with_reducible refine Blk.drewN ?_ _ | with_reducible apply Blk.both | with_reducible refine Blk.far' ?_ ?_ | (show _ ≠ _; omega))) st
  have nX8 : Blk w12 (w8.heap.size) 23 #[.int .i64 ((absS a b).1), .int .i64 ((absS a b).2.1)] := Blk.steps (by (repeat' first | with_reducible assumption | (with_reducible refine Blk.new' ?_; first | with_reducible rfl | (simp only [World.size_alloc, World.size_setCell, World.size_drew]; done)) | with_reducible refine Blk.alloc ?_ _ | with_reducible refine Blk.drew ?_ | with_reducible refine Blk.drewN ?_ _ | with_reducible apply Blk.both | with_reducible refine Blk.far' ?_ ?_ | (show _ ≠ _; omega))) st
  have nX9 : Blk w12 (w9.heap.size) 23 #[.int .i64 ((scaleS a b num den).1), .int .i64 ((scaleS a b num den).2.1)] := Blk.steps (by (repeat' first | with_reducible assumption | (with_reducible refine Blk.new' ?_; first | with_reducible rfl | (simp only [World.size_alloc, World.size_setCell, World.size_drew]; done)) | with_reducible refine Blk.alloc ?_ _ | with_reducible refine Blk.drew ?_ | with_reducible refine Blk.drewN ?_ _ | with_reducible apply Blk.both | with_reducible refine Blk.far' ?_ ?_ | (show _ ≠ _; omega))) st
  have nX10 : Blk w12 (w10.heap.size) 23 #[.int .i64 ((scaleS a b num den).1), .int .i64 ((scaleS a b num den).2.1)] := Blk.steps (by (repeat' first | with_reducible assumption | (with_reducible refine Blk.new' ?_; first | with_reducible rfl | (simp only [World.size_alloc, World.size_setCell, World.size_drew]; done)) | with_reducible refine Blk.alloc ?_ _ | with_reducible refine Blk.drew ?_ | with_reducible refine Blk.drewN ?_ _ | with_reducible apply Blk.both | with_reducible refine Blk.far' ?_ ?_ | (show _ ≠ _; omega))) st
  clear B oA oX1 oX2 oX3 oX4 oX5 oX6 oX7 oX8 oX9 oX10 cA0 cA1 lA st hb12
  have B := Bn
  clear Bn
  have oA := nA
  clear nA
  have oX1 := nX1
  clear nX1
  have oX2 := nX2
  clear nX2
  have oX3 := nX3
  clear nX3
  have oX4 := nX4
  clear nX4
  have oX5 := nX5
  clear nX5
  have oX6 := nX6
  clear nX6
  have oX7 := nX7
  clear nX7
  have oX8 := nX8
  clear nX8
  have oX9 := nX9
  clear nX9
  have oX10 := nX10
  clear nX10
  have cA0 : World.cell? w12 ⟨w.heap.size, 0, none⟩ = some (.int .i64 (a)) := oA.c 0 rfl
  have cA1 : World.cell? w12 ⟨w.heap.size, 1, none⟩ = some (.int .i64 (b)) := oA.c 1 rfl
  have lA := oA.lt
  go_wp2_with fail
  clear cA0 cA1 lA
  refine Reg.wp_chain (fun D v W => Below w.heap.size w W ∧ Blk W (w.heap.size) 23 #[.int .i64 (a), .int .i64 (b)] ∧ Blk W (w1.heap.size) 23 #[.int .i64 ((negS a b).1), .int .i64 ((negS a b).2.1)] ∧ Blk W (w2.heap.size) 23 #[.int .i64 ((negS a b).1), .int .i64 ((negS a b).2.1)] ∧ Blk W (w3.heap.size) 23 #[.int .i64 ((sqS a b).1), .int .i64 ((sqS a b).2.1)] ∧ Blk W (w4.heap.size) 23 #[.int .i64 ((sqS a b).1), .int .i64 ((sqS a b).2.1)] ∧ Blk W (w5.heap.size) 23 #[.int .i64 ((sqrtS a b).1), .int .i64 ((sqrtS a b).2.1)] ∧ Blk W (w6.heap.size) 23 #[.int .i64 ((sqrtS a b).1), .int .i64 ((sqrtS a b).2.1)] ∧ Blk W (w7.heap.size) 23 #[.int .i64 ((absS a b).1), .int .i64 ((absS a b).2.1)] ∧ Blk W (w8.heap.size) 23 #[.int .i64 ((absS a b).1), .int .i64 ((absS a b).2.1)] ∧ Blk W (w9.heap.size) 23 #[.int .i64 ((scaleS a b num den).1), .int .i64 ((scaleS a b num den).2.1)] ∧ Blk W (w10.heap.size) 23 #[.int .i64 ((scaleS a b num den).1), .int .i64 ((scaleS a b num den).2.1)])
    (Reg.inl [1, 3]) (Reg.ge [(1, .int .i64 (errV (V a b))), (3, .int .i64 (errV (V a b)))]) Reg.None_ (fun _ => Reg.Any) (fun _ _ => False) (Reg.pl []) (Reg.pl [])
    (by kernel_rfl) (by kernel_rfl) (by kernel_rfl) (Reg.ge_some _) (fun v => ?_) (fun _ _ _ _ _ h => h) (fun _ _ _ _ _ _ _ _ _ _ _ _ _ => Reg.none_) (fun _ _ _ _ h => h.elim) (fun ops' Q' hops hQ => ?_)
  · exact ⟨(by first | with_reducible exact Below.drew B | with_reducible exact Below.drew (belowN B _) | (repeat' first | with_reducible assumption | with_reducible exact Below.refl _ _ | with_reducible refine Below.alloc ?_ ?_ _ | with_reducible refine Below.drew ?_ | with_reducible refine belowN ?_ _ | with_reducible refine Below.setCell ?_ ?_ _ | go_size)), (show Blk _ _ _ #[.int .i64 (a), .int .i64 (b)] from (by first | with_reducible exact oA | (repeat' first | with_reducible assumption | (with_reducible refine Blk.new' ?_; first | with_reducible rfl | (simp only [World.size_alloc, World.size_setCell, World.size_drew]; done)) | with_reducible refine Blk.alloc ?_ _ | with_reducible refine Blk.drew ?_ | with_reducible refine Blk.drewN ?_ _ | with_reducible apply Blk.both | with_reducible refine Blk.far' ?_ ?_ | (show _ ≠ _; omega)))), (show Blk _ _ _ #[.int .i64 ((negS a b).1), .int .i64 ((negS a b).2.1)] from (by first | with_reducible exact oX1 | (repeat' first | with_reducible assumption | (with_reducible refine Blk.new' ?_; first | with_reducible rfl | (simp only [World.size_alloc, World.size_setCell, World.size_drew]; done)) | with_reducible refine Blk.alloc ?_ _ | with_reducible refine Blk.drew ?_ | with_reducible refine Blk.drewN ?_ _ | with_reducible apply Blk.both | with_reducible refine Blk.far' ?_ ?_ | (show _ ≠ _; omega)))), (show Blk _ _ _ #[.int .i64 ((negS a b).1), .int .i64 ((negS a b).2.1)] from (by first | with_reducible exact oX2 | (repeat' first | with_reducible assumption | (with_reducible refine Blk.new' ?_; first | with_reducible rfl | (simp only [World.size_alloc, World.size_setCell, World.size_drew]; done)) | with_reducible refine Blk.alloc ?_ _ | with_reducible refine Blk.drew ?_ | with_reducible refine Blk.drewN ?_ _ | with_reducible apply Blk.both | with_reducible refine Blk.far' ?_ ?_ | (show _ ≠ _; omega)))), (show Blk _ _ _ #[.int .i64 ((sqS a b).1), .int .i64 ((sqS a b).2.1)] from (by first | with_reducible exact oX3 | (repeat' first | with_reducible assumption | (with_reducible refine Blk.new' ?_; first | with_reducible rfl | (simp only [World.size_alloc, World.size_setCell, World.size_drew]; done)) | with_reducible refine Blk.alloc ?_ _ | with_reducible refine Blk.drew ?_ | with_reducible refine Blk.drewN ?_ _ | with_reducible apply Blk.both | with_reducible refine Blk.far' ?_ ?_ | (show _ ≠ _; omega)))), (show Blk _ _ _ #[.int .i64 ((sqS a b).1), .int .i64 ((sqS a b).2.1)] from (by first | with_reducible exact oX4 | (repeat' first | with_reducible assumption | (with_reducible refine Blk.new' ?_; first | with_reducible rfl | (simp only [World.size_alloc, World.size_setCell, World.size_drew]; done)) | with_reducible refine Blk.alloc ?_ _ | with_reducible refine Blk.drew ?_ | with_reducible refine Blk.drewN ?_ _ | with_reducible apply Blk.both | with_reducible refine Blk.far' ?_ ?_ | (show _ ≠ _; omega)))), (show Blk _ _ _ #[.int .i64 ((sqrtS a b).1), .int .i64 ((sqrtS a b).2.1)] from (by first | with_reducible exact oX5 | (repeat' first | with_reducible assumption | (with_reducible refine Blk.new' ?_; first | with_reducible rfl | (simp only [World.size_alloc, World.size_setCell, World.size_drew]; done)) | with_reducible refine Blk.alloc ?_ _ | with_reducible refine Blk.drew ?_ | with_reducible refine Blk.drewN ?_ _ | with_reducible apply Blk.both | with_reducible refine Blk.far' ?_ ?_ | (show _ ≠ _; omega)))), (show Blk _ _ _ #[.int .i64 ((sqrtS a b).1), .int .i64 ((sqrtS a b).2.1)] from (by first | with_reducible exact oX6 | (repeat' first | with_reducible assumption | (with_reducible refine Blk.new' ?_; first | with_reducible rfl | (simp only [World.size_alloc, World.size_setCell, World.size_drew]; done)) | with_reducible refine Blk.alloc ?_ _ | with_reducible refine Blk.drew ?_ | with_reducible refine Blk.drewN ?_ _ | with_reducible apply Blk.both | with_reducible refine Blk.far' ?_ ?_ | (show _ ≠ _; omega)))), (show Blk _ _ _ #[.int .i64 ((absS a b).1), .int .i64 ((absS a b).2.1)] from (by first | with_reducible exact oX7 | (repeat' first | with_reducible assumption | (with_reducible refine Blk.new' ?_; first | with_reducible rfl | (simp only [World.size_alloc, World.size_setCell, World.size_drew]; done)) | with_reducible refine Blk.alloc ?_ _ | with_reducible refine Blk.drew ?_ | with_reducible refine Blk.drewN ?_ _ | with_reducible apply Blk.both | with_reducible refine Blk.far' ?_ ?_ | (show _ ≠ _; omega)))), (show Blk _ _ _ #[.int .i64 ((absS a b).1), .int .i64 ((absS a b).2.1)] from (by first | with_reducible exact oX8 | (repeat' first | with_reducible assumption | (with_reducible refine Blk.new' ?_; first | with_reducible rfl | (simp only [World.size_alloc, World.size_setCell, World.size_drew]; done)) | with_reducible refine Blk.alloc ?_ _ | with_reducible refine Blk.drew ?_ | with_reducible refine Blk.drewN ?_ _ | with_reducible apply Blk.both | with_reducible refine Blk.far' ?_ ?_ | (show _ ≠ _; omega)))), (show Blk _ _ _ #[.int .i64 ((scaleS a b num den).1), .int .i64 ((scaleS a b num den).2.1)] from (by first | with_reducible exact oX9 | (repeat' first | with_reducible assumption | (with_reducible refine Blk.new' ?_; first | with_reducible rfl | (simp only [World.size_alloc, World.size_setCell, World.size_drew]; done)) | with_reducible refine Blk.alloc ?_ _ | with_reducible refine Blk.drew ?_ | with_reducible refine Blk.drewN ?_ _ | with_reducible apply Blk.both | with_reducible refine Blk.far' ?_ ?_ | (show _ ≠ _; omega)))), (show Blk _ _ _ #[.int .i64 ((scaleS a b num den).1), .int .i64 ((scaleS a b num den).2.1)] from (by first | with_reducible exact oX10 | (repeat' first | with_reducible assumption | (with_reducible refine Blk.new' ?_; first | with_reducible rfl | (simp only [World.size_alloc, World.size_setCell, World.size_drew]; done)) | with_reducible refine Blk.alloc ?_ _ | with_reducible refine Blk.drew ?_ | with_reducible refine Blk.drewN ?_ _ | with_reducible apply Blk.both | with_reducible refine Blk.far' ?_ ?_ | (show _ ≠ _; omega))))⟩
  clear B oA oX1 oX2 oX3 oX4 oX5 oX6 oX7 oX8 oX9 oX10
  apply Reg.RC_pure (hc := rfl) (hst := rfl) (hw := rfl) (t := 96) (hd := rfl) (ht := Nat.le_of_ble_eq_true rfl)
  · intro D v W hc hj hf K hK
    obtain ⟨B, oA, oX1, oX2, oX3, oX4, oX5, oX6, oX7, oX8, oX9, oX10⟩ := hj
    have cA0 : World.cell? W ⟨w.heap.size, 0, none⟩ = some (.int .i64 (a)) := oA.c 0 rfl
    have cA1 : World.cell? W ⟨w.heap.size, 1, none⟩ = some (.int .i64 (b)) := oA.c 1 rfl
    go_step
    exact hK.out
  · rfl
  refine Reg.RC_exact _ (fun _ h => h) rfl (by intro t ht; cases ht; exact Nat.le_of_ble_eq_true rfl) rfl (fun D v W hc hj hf K hK => ?_) (Reg.RC_at (b := ⟨#[_, _, _, _, _, _, _, _, _, _, _, _, _, _, _, _, _, _, _, _, _, _, _, _, _, _, _, _, _, _, _, _, _, _, _, _, _, _, _, _, _, _, _, _, _, _, _, _, _, _, _, _, _, _, _, _, _, _, _, _, _, _, _, _, _, _, _, _, _, _, _, _, _, _, _, _, _, _, _, _, _, _, _, _, _, _, _, _, _, _, _, _, _, _, _, _, _, _, _, _, _, _, _, _, _, _, _, _, _, _, _, _, _, _, _, _, _, _, _, _, _, _, _, _, _, _, _, _, _, _, _, _, _, _, _, _, _, _, _, _, _, _, _, _, _, _, _, _, _, _, _, _, _, _, _, _, _, _, _, _, _, _], []⟩) rfl ?_)
  · obtain ⟨B, oA, oX1, oX2, oX3, oX4, oX5, oX6, oX7, oX8, oX9, oX10⟩ := hj
    go_step
    refine (check_p a b _).mono ?_
    rintro e W' ⟨rfl, hb⟩
    have st : Steps W W' := hb
    exact hK.out _ _ Reg.any ⟨below_steps B (Nat.le_refl _) st, oA.steps st, oX1.steps st, oX2.steps st, oX3.steps st, oX4.steps st, oX5.steps st, oX6.steps st, oX7.steps st, oX8.steps st, oX9.steps st, oX10.steps st⟩ Reg.none_ rfl
  apply Reg.RC_pure (hc := rfl) (hst := rfl) (hw := rfl) (t := 98) (hd := rfl) (ht := Nat.le_of_ble_eq_true rfl)
  · intro D v W hc hj hf K hK
    obtain ⟨B, oA, oX1, oX2, oX3, oX4, oX5, oX6, oX7, oX8, oX9, oX10⟩ := hj
    have cA0 : World.cell? W ⟨w.heap.size, 0, none⟩ = some (.int .i64 (a)) := oA.c 0 rfl
    have cA1 : World.cell? W ⟨w.heap.size, 1, none⟩ = some (.int .i64 (b)) := oA.c 1 rfl
    go_step
    exact hK.out
  · rfl
  refine Reg.RC_exact _ (fun _ h => h) rfl (by intro t ht; cases ht; exact Nat.le_of_ble_eq_true rfl) rfl (fun D v W hc hj hf K hK => ?_) (Reg.RC_at (b := ⟨#[_, _, _, _, _, _, _, _, _, _, _, _, _, _, _, _, _, _, _, _, _, _, _, _, _, _, _, _, _, _, _, _, _, _, _, _, _, _, _, _, _, _, _, _, _, _, _, _, _, _, _, _, _, _, _, _, _, _, _, _, _, _, _, _, _, _, _, _, _, _, _, _, _, _, _, _, _, _, _, _, _, _, _, _, _, _, _, _, _, _, _, _, _, _, _, _, _, _, _, _, _, _, _, _, _, _, _, _, _, _, _, _, _, _, _, _, _, _, _, _, _, _, _, _, _, _, _, _, _, _, _, _, _, _, _, _, _, _, _, _, _, _, _, _, _, _, _, _, _, _, _, _, _, _, _, _, _, _, _, _, _, _], []⟩) rfl ?_)
  · obtain ⟨B, oA, oX1, oX2, oX3, oX4, oX5, oX6, oX7, oX8, oX9, oX10⟩ := hj
    go_step
    refine (rcheck a b _).mono ?_
    rintro e W' ⟨rfl, hb⟩
    have st : Steps W W' := hb
    exact hK.out _ _ Reg.any ⟨below_steps B (Nat.le_refl _) st, oA.steps st, oX1.steps st, oX2.steps st, oX3.steps st, oX4.steps st, oX5.steps st, oX6.steps st, oX7.steps st, oX8.steps st, oX9.steps st, oX10.steps st⟩ Reg.none_ rfl
  apply Reg.RC_pure (hc := rfl) (hst := rfl) (hw := rfl) (t := 100) (hd := rfl) (ht := Nat.le_of_ble_eq_true rfl)
  · intro D v W hc hj hf K hK
    go_step
    exact hK.out
  · rfl
  apply Reg.RC_pure (hc := rfl) (hst := rfl) (hw := rfl) (t := 101) (hd := rfl) (ht := Nat.le_of_ble_eq_true rfl)
  · intro D v W hc hj hf K hK
    go_step
    exact hK.out
  · rfl
  apply Reg.RC_pure (hc := rfl) (hst := rfl) (hw := by rw [hops]; rfl) (t := 102) (hd := rfl) (ht := Nat.le_of_ble_eq_true rfl)
  · intro D v W hc hj hf K hK
    obtain ⟨B, oA, oX1, oX2, oX3, oX4, oX5, oX6, oX7, oX8, oX9, oX10⟩ := hj
    have cX10 : World.cell? W ⟨w1.heap.size, 0, none⟩ = some (.int .i64 ((negS a b).1)) := oX1.c 0 rfl
    have cX11 : World.cell? W ⟨w1.heap.size, 1, none⟩ = some (.int .i64 ((negS a b).2.1)) := oX1.c 1 rfl
    go_step
    exact hK.out
  · rfl
  apply Reg.RC_pure (hc := rfl) (hst := rfl) (hw := by rw [hops]; rfl) (t := 103) (hd := rfl) (ht := Nat.le_of_ble_eq_true rfl)
  · intro D v W hc hj hf K hK
    obtain ⟨B, oA, oX1, oX2, oX3, oX4, oX5, oX6, oX7, oX8, oX9, oX10⟩ := hj
    have cX20 : World.cell? W ⟨w2.heap.size, 0, none⟩ = some (.int .i64 ((negS a b).1)) := oX2.c 0 rfl
    have cX21 : World.cell? W ⟨w2.heap.size, 1, none⟩ = some (.int .i64 ((negS a b).2.1)) := oX2.c 1 rfl
    go_step
    exact hK.out
  · rfl
  apply Reg.RC_pure (hc := rfl) (hst := rfl) (hw := by rw [hops]; rfl) (t := 104) (hd := rfl) (ht := Nat.le_of_ble_eq_true rfl)
  · intro D v W hc hj hf K hK
    go_step
    exact hK.out
  · rfl
  apply Reg.RC_pure (hc := rfl) (hst := rfl) (hw := rfl) (t := 105) (hd := rfl) (ht := Nat.le_of_ble_eq_true rfl)
  · intro D v W hc hj hf K hK
    go_step
    exact hK.out
  · rfl
  apply Reg.RC_pure (hc := rfl) (hst := rfl) (hw := rfl) (t := 106) (hd := rfl) (ht := Nat.le_of_ble_eq_true rfl)
  · intro D v W hc hj hf K hK
    go_step
    exact hK.out
  · rfl
  apply Reg.RC_pure (hc := rfl) (hst := rfl) (hw := by rw [hops]; rfl) (t := 107) (hd := rfl) (ht := Nat.le_of_ble_eq_true rfl)
  · intro D v W hc hj hf K hK
    go_step
    exact hK.out
  · rfl
  apply Reg.RC_pure (hc := rfl) (hst := rfl) (hw := by rw [hops]; rfl) (t := 108) (hd := rfl) (ht := Nat.le_of_ble_eq_true rfl)
  · intro D v W hc hj hf K hK
    go_step
    exact hK.out
  · rfl
  apply Reg.RC_pure (hc := rfl) (hst := rfl) (hw := by rw [hops]; rfl) (t := 109) (hd := rfl) (ht := Nat.le_of_ble_eq_true rfl)
  · intro D v W hc hj hf K hK
    go_step
    exact hK.out
  · rfl
  apply Reg.RC_pure (hc := rfl) (hst := rfl) (hw := rfl) (t := 110) (hd := rfl) (ht := Nat.le_of_ble_eq_true rfl)
  · intro D v W hc hj hf K hK
    go_step
    exact hK.out
  · rfl
  apply Reg.RC_pure (hc := rfl) (hst := rfl) (hw := rfl) (t := 111) (hd := rfl) (ht := Nat.le_of_ble_eq_true rfl)
  · intro D v W hc hj hf K hK
    go_step
    exact hK.out
  · rfl
  apply Reg.RC_pure (hc := rfl) (hst := rfl) (hw := by rw [hops]; rfl) (t := 112) (hd := rfl) (ht := Nat.le_of_ble_eq_true rfl)
  · intro D v W hc hj hf K hK
    obtain ⟨B, oA, oX1, oX2, oX3, oX4, oX5, oX6, oX7, oX8, oX9, oX10⟩ := hj
    have cX30 : World.cell? W ⟨w3.heap.size, 0, none⟩ = some (.int .i64 ((sqS a b).1)) := oX3.c 0 rfl
    have cX31 : World.cell? W ⟨w3.heap.size, 1, none⟩ = some (.int .i64 ((sqS a b).2.1)) := oX3.c 1 rfl
    go_step
    exact hK.out
  · rfl
  apply Reg.RC_pure (hc := rfl) (hst := rfl) (hw := by rw [hops]; rfl) (t := 113) (hd := rfl) (ht := Nat.le_of_ble_eq_true rfl)
  · intro D v W hc hj hf K hK
    obtain ⟨B, oA, oX1, oX2, oX3, oX4, oX5, oX6, oX7, oX8, oX9, oX10⟩ := hj
    have cX40 : World.cell? W ⟨w4.heap.size, 0, none⟩ = some (.int .i64 ((sqS a b).1)) := oX4.c 0 rfl
    have cX41 : World.cell? W ⟨w4.heap.size, 1, none⟩ = some (.int .i64 ((sqS a b).2.1)) := oX4.c 1 rfl
    go_step
    exact hK.out
  · rfl
  apply Reg.RC_pure (hc := rfl) (hst := rfl) (hw := by rw [hops]; rfl) (t := 114) (hd := rfl) (ht := Nat.le_of_ble_eq_true rfl)
  · intro D v W hc hj hf K hK
    go_step
    exact hK.out
  · rfl
  apply Reg.RC_pure (hc := rfl) (hst := rfl) (hw := rfl) (t := 115) (hd := rfl) (ht := Nat.le_of_ble_eq_true rfl)
  · intro D v W hc hj hf K hK
    go_step
    exact hK.out
  · rfl
  apply Reg.RC_pure (hc := rfl) (hst := rfl) (hw := rfl) (t := 116) (hd := rfl) (ht := Nat.le_of_ble_eq_true rfl)
  · intro D v W hc hj hf K hK
    go_step
    exact hK.out
  · rfl
  apply Reg.RC_pure (hc := rfl) (hst := rfl) (hw := by rw [hops]; rfl) (t := 117) (hd := rfl) (ht := Nat.le_of_ble_eq_true rfl)
  · intro D v W hc hj hf K hK
    go_step
    exact hK.out
  · rfl
  apply Reg.RC_pure (hc := rfl) (hst := rfl) (hw := by rw [hops]; rfl) (t := 118) (hd := rfl) (ht := Nat.le_of_ble_eq_true rfl)
  · intro D v W hc hj hf K hK
    go_step
    exact hK.out
  · rfl
  apply Reg.RC_pure (hc := rfl) (hst := rfl) (hw := by rw [hops]; rfl) (t := 119) (hd := rfl) (ht := Nat.le_of_ble_eq_true rfl)
  · intro D v W hc hj hf K hK
    go_step
    exact hK.out
  · rfl
  apply Reg.RC_pure (hc := rfl) (hst := rfl) (hw := rfl) (t := 120) (hd := rfl) (ht := Nat.le_of_ble_eq_true rfl)
  · intro D v W hc hj hf K hK
    go_step
    exact hK.out
  · rfl
  apply Reg.RC_pure (hc := rfl) (hst := rfl) (hw := rfl) (t := 121) (hd := rfl) (ht := Nat.le_of_ble_eq_true rfl)
  · intro D v W hc hj hf K hK
    go_step
    exact hK.out
  · rfl
  apply Reg.RC_pure (hc := rfl) (hst := rfl) (hw := by rw [hops]; rfl) (t := 122) (hd := rfl) (ht := Nat.le_of_ble_eq_true rfl)
  · intro D v W hc hj hf K hK
    obtain ⟨B, oA, oX1, oX2, oX3, oX4, oX5, oX6, oX7, oX8, oX9, oX10⟩ := hj
    have cX50 : World.cell? W ⟨w5.heap.size, 0, none⟩ = some (.int .i64 ((sqrtS a b).1)) := oX5.c 0 rfl
    have cX51 : World.cell? W ⟨w5.heap.size, 1, none⟩ = some (.int .i64 ((sqrtS a b).2.1)) := oX5.c 1 rfl
    go_step
    exact hK.out
  · rfl
  apply Reg.RC_pure (hc := rfl) (hst := rfl) (hw := by rw [hops]; rfl) (t := 123) (hd := rfl) (ht := Nat.le_of_ble_eq_true rfl)
  · intro D v W hc hj hf K hK
    obtain ⟨B, oA, oX1, oX2, oX3, oX4, oX5, oX6, oX7, oX8, oX9, oX10⟩ := hj
    have cX60 : World.cell? W ⟨w6.heap.size, 0, none⟩ = some (.int .i64 ((sqrtS a b).1)) := oX6.c 0 rfl
    have cX61 : World.cell? W ⟨w6.heap.size, 1, none⟩ = some (.int .i64 ((sqrtS a b).2.1)) := oX6.c 1 rfl
    go_step
    exact hK.out
  · rfl
  apply Reg.RC_pure (hc := rfl) (hst := rfl) (hw := by rw [hops]; rfl) (t := 124) (hd := rfl) (ht := Nat.le_of_ble_eq_true rfl)
  · intro D v W hc hj hf K hK
    go_step
    exact hK.out
  · rfl
  apply Reg.RC_pure (hc := rfl) (hst := rfl) (hw := rfl) (t := 125) (hd := rfl) (ht := Nat.le_of_ble_eq_true rfl)
  · intro D v W hc hj hf K hK
    go_step
    exact hK.out
  · rfl
  apply Reg.RC_pure (hc := rfl) (hst := rfl) (hw := rfl) (t := 126) (hd := rfl) (ht := Nat.le_of_ble_eq_true rfl)
  · intro D v W hc hj hf K hK
    go_step
    exact hK.out
  · rfl
  apply Reg.RC_pure (hc := rfl) (hst := rfl) (hw := by rw [hops]; rfl) (t := 127) (hd := rfl) (ht := Nat.le_of_ble_eq_true rfl)
  · intro D v W hc hj hf K hK
    go_step
    exact hK.out
  · rfl
  apply Reg.RC_pure (hc := rfl) (hst := rfl) (hw := by rw [hops]; rfl) (t := 128) (hd := rfl) (ht := Nat.le_of_ble_eq_true rfl)
  · intro D v W hc hj hf K hK
    go_step
    exact hK.out
  · rfl
  apply Reg.RC_pure (hc := rfl) (hst := rfl) (hw := by rw [hops]; rfl) (t := 129) (hd := rfl) (ht := Nat.le_of_ble_eq_true rfl)
  · intro D v W hc hj hf K hK
    go_step
    exact hK.out
  · rfl
  apply Reg.RC_pure (hc := rfl) (hst := rfl) (hw := rfl) (t := 130) (hd := rfl) (ht := Nat.le_of_ble_eq_true rfl)
  · intro D v W hc hj hf K hK
    go_step
    exact hK.out
  · rfl
  apply Reg.RC_pure (hc := rfl) (hst := rfl) (hw := rfl) (t := 31) (hd := rfl) (ht := Nat.le_of_ble_eq_true rfl)
  · intro D v W hc hj hf K hK
    go_step
    exact hK.out
  · rfl
  refine Reg.RC_end (fun D v W hd hj hf => ?_)
  obtain ⟨B, oA, oX1, oX2, oX3, oX4, oX5, oX6, oX7, oX8, oX9, oX10⟩ := hj
  clear hd hf
  refine hQ _ _ ?_
  clear hQ hops Q' ops'
  have cX70 : World.cell? _ ⟨w7.heap.size, 0, none⟩ = some (.int .i64 ((absS a b).1)) := oX7.c 0 rfl
  have cX71 : World.cell? _ ⟨w7.heap.size, 1, none⟩ = some (.int .i64 ((absS a b).2.1)) := oX7.c 1 rfl
  have lX7 := oX7.lt
  have cX80 : World.cell? _ ⟨w8.heap.size, 0, none⟩ = some (.int .i64 ((absS a b).1)) := oX8.c 0 rfl
  have cX81 : World.cell? _ ⟨w8.heap.size, 1, none⟩ = some (.int .i64 ((absS a b).2.1)) := oX8.c 1 rfl
  have lX8 := oX8.lt
  have cX90 : World.cell? _ ⟨w9.heap.size, 0, none⟩ = some (.int .i64 ((scaleS a b num den).1)) := oX9.c 0 rfl
  have cX91 : World.cell? _ ⟨w9.heap.size, 1, none⟩ = some (.int .i64 ((scaleS a b num den).2.1)) := oX9.c 1 rfl
  have lX9 := oX9.lt
  have cX100 : World.cell? _ ⟨w10.heap.size, 0, none⟩ = some (.int .i64 ((scaleS a b num den).1)) := oX10.c 0 rfl
  have cX101 : World.cell? _ ⟨w10.heap.size, 1, none⟩ = some (.int .i64 ((scaleS a b num den).2.1)) := oX10.c 1 rfl
  have lX10 := oX10.lt
  repeat' (first | go_values | go_skip | go_guarded | go_step | go_upon)
  go_returns
  exact ⟨rfl, B⟩
