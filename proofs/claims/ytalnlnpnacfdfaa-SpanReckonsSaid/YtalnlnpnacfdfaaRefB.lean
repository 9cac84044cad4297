import Derived.Test.YtalnlnpnacfdfaaRefA
import Derived.Test.YtalnlnpnacfdfaaSpanB
import Derived.Test.YtalnlnpnacfdfaaReg
namespace Go.Proofs.Ytalnlnpnacfdfaa
open Go.RowKit
/-- a quotient of a number given by sign and absolute value, rounded down or up, not beyond 2^62 -/
def overV (n : Bool) (m d : Int) (up : Bool) : Int :=
  let q := if 4611686018427387904 ≤ m / d then (4611686018427387904 : Int) else if 0 < m % d ∧ up ≠ n then m / d + 1 else m / d
  if n then -q else q
set_option maxRecDepth 100000 in
set_option maxHeartbeats 4000000 in
theorem rover0 (n up : Bool) (m d : Int) (w : World) (h0 : 0 ≤ m) (h1 : hi64 m < 18446744073709551616) (hd : 0 < d) (hd2 : d < 18446744073709551616) :
    Calls Try.prog 63 #[.agg #[.bool n, .int .u64 (hi64 m), .int .u64 (lo64 m)], .int .u64 d, .bool up] w fun e w' => e = .returned (.int .i64 (overV n m d up)) ∧ Below w.heap.size w w' := by
  have g0 := hi64_nonneg h0
  obtain ⟨l0, l1⟩ := lo64_b m
  have q0 := Int.ediv_nonneg h0 (Int.le_of_lt hd)
  have r0 := Int.emod_nonneg m (show d ≠ 0 by omega)
  by_cases h : d ≤ hi64 m
  · have hq : 4611686018427387904 ≤ m / d := by
      rw [Int.le_ediv_iff_mul_le hd]; unfold hi64 at h; omega
    have H : Hid (overV n m d up = if n then -4611686018427387904 else 4611686018427387904) := by show overV n m d up = _; unfold overV; simp only [hq, if_true]
    clear hq
    cases n <;> cases up
    all_goals
      go_enter Try.func63, Try.ntmps63
      go_wp2
      go_returns
      exact ⟨retI (by rw [H.out]; rfl), by go_grown⟩
  · by_cases hq : 4611686018427387904 ≤ m / d
    · have H : Hid (overV n m d up = if n then -4611686018427387904 else 4611686018427387904) := by show overV n m d up = _; unfold overV; simp only [hq, if_true]
      cases n
      · cases up
        · go_enter Try.func63, Try.ntmps63
          go_wp2_with fail
          refine (div64_t m d _ h0 (by omega) hd2).mono ?_
          rintro e w1 ⟨rfl, hb1⟩
          have st : Steps _ w1 := hb1
          have Bn : Below w.heap.size w w1 := below_steps (by (repeat' first | with_reducible assumption | with_reducible exact Below.refl _ _ | with_reducible refine Below.alloc ?_ ?_ _ | with_reducible refine Below.drew ?_ | with_reducible refine belowN ?_ _ | with_reducible refine Below.setCell ?_ ?_ _ | go_size)) (Nat.le_refl _) st
          have nA : Blk w1 (w.heap.size) 77 #[.bool false, .int .u64 (hi64 m), .int .u64 (lo64 m)] := Blk.steps (by (repeat' first | with_reducible assumption | (with_reducible refine Blk.new' ?_; first | with_reducible rfl | (simp only [World.size_alloc, World.size_setCell, World.size_drew]; done)) | with_reducible refine Blk.alloc ?_ _ | with_reducible refine Blk.drew ?_ | with_reducible refine Blk.drewN ?_ _ | with_reducible apply Blk.both | with_reducible refine Blk.far' ?_ ?_ | (show _ ≠ _; omega))) st
          clear st
          have B := Bn
          clear Bn
          have oA := nA
          clear nA
          have cA0 : World.cell? w1 ⟨w.heap.size, 0, none⟩ = some (.bool false) := oA.c 0 rfl
          have cA1 : World.cell? w1 ⟨w.heap.size, 1, none⟩ = some (.int .u64 (hi64 m)) := oA.c 1 rfl
          have cA2 : World.cell? w1 ⟨w.heap.size, 2, none⟩ = some (.int .u64 (lo64 m)) := oA.c 2 rfl
          have fA := oA.fr
          have lA := oA.lt
          go_wp2
          go_returns
          exact ⟨retI (by rw [H.out]; rfl), B⟩
        · go_enter Try.func63, Try.ntmps63
          go_wp2_with fail
          refine (div64_t m d _ h0 (by omega) hd2).mono ?_
          rintro e w1 ⟨rfl, hb1⟩
          have st : Steps _ w1 := hb1
          have Bn : Below w.heap.size w w1 := below_steps (by (repeat' first | with_reducible assumption | with_reducible exact Below.refl _ _ | with_reducible refine Below.alloc ?_ ?_ _ | with_reducible refine Below.drew ?_ | with_reducible refine belowN ?_ _ | with_reducible refine Below.setCell ?_ ?_ _ | go_size)) (Nat.le_refl _) st
          have nA : Blk w1 (w.heap.size) 77 #[.bool false, .int .u64 (hi64 m), .int .u64 (lo64 m)] := Blk.steps (by (repeat' first | with_reducible assumption | (with_reducible refine Blk.new' ?_; first | with_reducible rfl | (simp only [World.size_alloc, World.size_setCell, World.size_drew]; done)) | with_reducible refine Blk.alloc ?_ _ | with_reducible refine Blk.drew ?_ | with_reducible refine Blk.drewN ?_ _ | with_reducible apply Blk.both | with_reducible refine Blk.far' ?_ ?_ | (show _ ≠ _; omega))) st
          clear st
          have B := Bn
          clear Bn
          have oA := nA
          clear nA
          have cA0 : World.cell? w1 ⟨w.heap.size, 0, none⟩ = some (.bool false) := oA.c 0 rfl
          have cA1 : World.cell? w1 ⟨w.heap.size, 1, none⟩ = some (.int .u64 (hi64 m)) := oA.c 1 rfl
          have cA2 : World.cell? w1 ⟨w.heap.size, 2, none⟩ = some (.int .u64 (lo64 m)) := oA.c 2 rfl
          have fA := oA.fr
          have lA := oA.lt
          go_wp2
          go_returns
          exact ⟨retI (by rw [H.out]; rfl), B⟩
      · cases up
        · go_enter Try.func63, Try.ntmps63
          go_wp2_with fail
          refine (div64_t m d _ h0 (by omega) hd2).mono ?_
          rintro e w1 ⟨rfl, hb1⟩
          have st : Steps _ w1 := hb1
          have Bn : Below w.heap.size w w1 := below_steps (by (repeat' first | with_reducible assumption | with_reducible exact Below.refl _ _ | with_reducible refine Below.alloc ?_ ?_ _ | with_reducible refine Below.drew ?_ | with_reducible refine belowN ?_ _ | with_reducible refine Below.setCell ?_ ?_ _ | go_size)) (Nat.le_refl _) st
          have nA : Blk w1 (w.heap.size) 77 #[.bool true, .int .u64 (hi64 m), .int .u64 (lo64 m)] := Blk.steps (by (repeat' first | with_reducible assumption | (with_reducible refine Blk.new' ?_; first | with_reducible rfl | (simp only [World.size_alloc, World.size_setCell, World.size_drew]; done)) | with_reducible refine Blk.alloc ?_ _ | with_reducible refine Blk.drew ?_ | with_reducible refine Blk.drewN ?_ _ | with_reducible apply Blk.both | with_reducible refine Blk.far' ?_ ?_ | (show _ ≠ _; omega))) st
          clear st
          have B := Bn
          clear Bn
          have oA := nA
          clear nA
          have cA0 : World.cell? w1 ⟨w.heap.size, 0, none⟩ = some (.bool true) := oA.c 0 rfl
          have cA1 : World.cell? w1 ⟨w.heap.size, 1, none⟩ = some (.int .u64 (hi64 m)) := oA.c 1 rfl
          have cA2 : World.cell? w1 ⟨w.heap.size, 2, none⟩ = some (.int .u64 (lo64 m)) := oA.c 2 rfl
          have fA := oA.fr
          have lA := oA.lt
          go_wp2
          go_returns
          exact ⟨retI (by rw [H.out]; rfl), B⟩
        · go_enter Try.func63, Try.ntmps63
          go_wp2_with fail
          refine (div64_t m d _ h0 (by omega) hd2).mono ?_
          rintro e w1 ⟨rfl, hb1⟩
          have st : Steps _ w1 := hb1
          have Bn : Below w.heap.size w w1 := below_steps (by (repeat' first | with_reducible assumption | with_reducible exact Below.refl _ _ | with_reducible refine Below.alloc ?_ ?_ _ | with_reducible refine Below.drew ?_ | with_reducible refine belowN ?_ _ | with_reducible refine Below.setCell ?_ ?_ _ | go_size)) (Nat.le_refl _) st
          have nA : Blk w1 (w.heap.size) 77 #[.bool true, .int .u64 (hi64 m), .int .u64 (lo64 m)] := Blk.steps (by (repeat' first | with_reducible assumption | (with_reducible refine Blk.new' ?_; first | with_reducible rfl | (simp only [World.size_alloc, World.size_setCell, World.size_drew]; done)) | with_reducible refine Blk.alloc ?_ _ | with_reducible refine Blk.drew ?_ | with_reducible refine Blk.drewN ?_ _ | with_reducible apply Blk.both | with_reducible refine Blk.far' ?_ ?_ | (show _ ≠ _; omega))) st
          clear st
          have B := Bn
          clear Bn
          have oA := nA
          clear nA
          have cA0 : World.cell? w1 ⟨w.heap.size, 0, none⟩ = some (.bool true) := oA.c 0 rfl
          have cA1 : World.cell? w1 ⟨w.heap.size, 1, none⟩ = some (.int .u64 (hi64 m)) := oA.c 1 rfl
          have cA2 : World.cell? w1 ⟨w.heap.size, 2, none⟩ = some (.int .u64 (lo64 m)) := oA.c 2 rfl
          have fA := oA.fr
          have lA := oA.lt
          go_wp2
          go_returns
          exact ⟨retI (by rw [H.out]; rfl), B⟩
    · by_cases hr : 0 < m % d
      · have H : Hid (overV n m d up = if n then -(if up ≠ n then m / d + 1 else m / d) else (if up ≠ n then m / d + 1 else m / d)) := by show overV n m d up = _; unfold overV; simp only [hq, hr, if_false, true_and]
        cases n
        · cases up
          · go_enter Try.func63, Try.ntmps63
            go_wp2_with fail
            refine (div64_t m d _ h0 (by omega) hd2).mono ?_
            rintro e w1 ⟨rfl, hb1⟩
            have st : Steps _ w1 := hb1
            have Bn : Below w.heap.size w w1 := below_steps (by (repeat' first | with_reducible assumption | with_reducible exact Below.refl _ _ | with_reducible refine Below.alloc ?_ ?_ _ | with_reducible refine Below.drew ?_ | with_reducible refine belowN ?_ _ | with_reducible refine Below.setCell ?_ ?_ _ | go_size)) (Nat.le_refl _) st
            have nA : Blk w1 (w.heap.size) 77 #[.bool false, .int .u64 (hi64 m), .int .u64 (lo64 m)] := Blk.steps (by (repeat' first | with_reducible assumption | (with_reducible refine Blk.new' ?_; first | with_reducible rfl | (simp only [World.size_alloc, World.size_setCell, World.size_drew]; done)) | with_reducible refine Blk.alloc ?_ _ | with_reducible refine Blk.drew ?_ | with_reducible refine Blk.drewN ?_ _ | with_reducible apply Blk.both | with_reducible refine Blk.far' ?_ ?_ | (show _ ≠ _; omega))) st
            clear st
            have B := Bn
            clear Bn
            have oA := nA
            clear nA
            have cA0 : World.cell? w1 ⟨w.heap.size, 0, none⟩ = some (.bool false) := oA.c 0 rfl
            have cA1 : World.cell? w1 ⟨w.heap.size, 1, none⟩ = some (.int .u64 (hi64 m)) := oA.c 1 rfl
            have cA2 : World.cell? w1 ⟨w.heap.size, 2, none⟩ = some (.int .u64 (lo64 m)) := oA.c 2 rfl
            have fA := oA.fr
            have lA := oA.lt
            go_wp2
            go_returns
            exact ⟨retI (by rw [H.out]; rfl), B⟩
          · go_enter Try.func63, Try.ntmps63
            go_wp2_with fail
            refine (div64_t m d _ h0 (by omega) hd2).mono ?_
            rintro e w1 ⟨rfl, hb1⟩
            have st : Steps _ w1 := hb1
            have Bn : Below w.heap.size w w1 := below_steps (by (repeat' first | with_reducible assumption | with_reducible exact Below.refl _ _ | with_reducible refine Below.alloc ?_ ?_ _ | with_reducible refine Below.drew ?_ | with_reducible refine belowN ?_ _ | with_reducible refine Below.setCell ?_ ?_ _ | go_size)) (Nat.le_refl _) st
            have nA : Blk w1 (w.heap.size) 77 #[.bool false, .int .u64 (hi64 m), .int .u64 (lo64 m)] := Blk.steps (by (repeat' first | with_reducible assumption | (with_reducible refine Blk.new' ?_; first | with_reducible rfl | (simp only [World.size_alloc, World.size_setCell, World.size_drew]; done)) | with_reducible refine Blk.alloc ?_ _ | with_reducible refine Blk.drew ?_ | with_reducible refine Blk.drewN ?_ _ | with_reducible apply Blk.both | with_reducible refine Blk.far' ?_ ?_ | (show _ ≠ _; omega))) st
            clear st
            have B := Bn
            clear Bn
            have oA := nA
            clear nA
            have cA0 : World.cell? w1 ⟨w.heap.size, 0, none⟩ = some (.bool false) := oA.c 0 rfl
            have cA1 : World.cell? w1 ⟨w.heap.size, 1, none⟩ = some (.int .u64 (hi64 m)) := oA.c 1 rfl
            have cA2 : World.cell? w1 ⟨w.heap.size, 2, none⟩ = some (.int .u64 (lo64 m)) := oA.c 2 rfl
            have fA := oA.fr
            have lA := oA.lt
            go_wp2
            go_returns
            exact ⟨retI (by rw [H.out]; rfl), B⟩
        · cases up
          · go_enter Try.func63, Try.ntmps63
            go_wp2_with fail
            refine (div64_t m d _ h0 (by omega) hd2).mono ?_
            rintro e w1 ⟨rfl, hb1⟩
            have st : Steps _ w1 := hb1
            have Bn : Below w.heap.size w w1 := below_steps (by (repeat' first | with_reducible assumption | with_reducible exact Below.refl _ _ | with_reducible refine Below.alloc ?_ ?_ _ | with_reducible refine Below.drew ?_ | with_reducible refine belowN ?_ _ | with_reducible refine Below.setCell ?_ ?_ _ | go_size)) (Nat.le_refl _) st
            have nA : Blk w1 (w.heap.size) 77 #[.bool true, .int .u64 (hi64 m), .int .u64 (lo64 m)] := Blk.steps (by (repeat' first | with_reducible assumption | (with_reducible refine Blk.new' ?_; first | with_reducible rfl | (simp only [World.size_alloc, World.size_setCell, World.size_drew]; done)) | with_reducible refine Blk.alloc ?_ _ | with_reducible refine Blk.drew ?_ | with_reducible refine Blk.drewN ?_ _ | with_reducible apply Blk.both | with_reducible refine Blk.far' ?_ ?_ | (show _ ≠ _; omega))) st
            clear st
            have B := Bn
            clear Bn
            have oA := nA
            clear nA
            have cA0 : World.cell? w1 ⟨w.heap.size, 0, none⟩ = some (.bool true) := oA.c 0 rfl
            have cA1 : World.cell? w1 ⟨w.heap.size, 1, none⟩ = some (.int .u64 (hi64 m)) := oA.c 1 rfl
            have cA2 : World.cell? w1 ⟨w.heap.size, 2, none⟩ = some (.int .u64 (lo64 m)) := oA.c 2 rfl
            have fA := oA.fr
            have lA := oA.lt
            go_wp2
            go_returns
            exact ⟨retI (by rw [H.out]; rfl), B⟩
          · go_enter Try.func63, Try.ntmps63
            go_wp2_with fail
            refine (div64_t m d _ h0 (by omega) hd2).mono ?_
            rintro e w1 ⟨rfl, hb1⟩
            have st : Steps _ w1 := hb1
            have Bn : Below w.heap.size w w1 := below_steps (by (repeat' first | with_reducible assumption | with_reducible exact Below.refl _ _ | with_reducible refine Below.alloc ?_ ?_ _ | with_reducible refine Below.drew ?_ | with_reducible refine belowN ?_ _ | with_reducible refine Below.setCell ?_ ?_ _ | go_size)) (Nat.le_refl _) st
            have nA : Blk w1 (w.heap.size) 77 #[.bool true, .int .u64 (hi64 m), .int .u64 (lo64 m)] := Blk.steps (by (repeat' first | with_reducible assumption | (with_reducible refine Blk.new' ?_; first | with_reducible rfl | (simp only [World.size_alloc, World.size_setCell, World.size_drew]; done)) | with_reducible refine Blk.alloc ?_ _ | with_reducible refine Blk.drew ?_ | with_reducible refine Blk.drewN ?_ _ | with_reducible apply Blk.both | with_reducible refine Blk.far' ?_ ?_ | (show _ ≠ _; omega))) st
            clear st
            have B := Bn
            clear Bn
            have oA := nA
            clear nA
            have cA0 : World.cell? w1 ⟨w.heap.size, 0, none⟩ = some (.bool true) := oA.c 0 rfl
            have cA1 : World.cell? w1 ⟨w.heap.size, 1, none⟩ = some (.int .u64 (hi64 m)) := oA.c 1 rfl
            have cA2 : World.cell? w1 ⟨w.heap.size, 2, none⟩ = some (.int .u64 (lo64 m)) := oA.c 2 rfl
            have fA := oA.fr
            have lA := oA.lt
            go_wp2
            go_returns
            exact ⟨retI (by rw [H.out]; rfl), B⟩
      · have H : Hid (overV n m d up = if n then -(m / d) else m / d) := by show overV n m d up = _; unfold overV; simp only [hq, hr, if_false, false_and]
        cases n
        · cases up
          · go_enter Try.func63, Try.ntmps63
            go_wp2_with fail
            refine (div64_t m d _ h0 (by omega) hd2).mono ?_
            rintro e w1 ⟨rfl, hb1⟩
            have st : Steps _ w1 := hb1
            have Bn : Below w.heap.size w w1 := below_steps (by (repeat' first | with_reducible assumption | with_reducible exact Below.refl _ _ | with_reducible refine Below.alloc ?_ ?_ _ | with_reducible refine Below.drew ?_ | with_reducible refine belowN ?_ _ | with_reducible refine Below.setCell ?_ ?_ _ | go_size)) (Nat.le_refl _) st
            have nA : Blk w1 (w.heap.size) 77 #[.bool false, .int .u64 (hi64 m), .int .u64 (lo64 m)] := Blk.steps (by (repeat' first | with_reducible assumption | (with_reducible refine Blk.new' ?_; first | with_reducible rfl | (simp only [World.size_alloc, World.size_setCell, World.size_drew]; done)) | with_reducible refine Blk.alloc ?_ _ | with_reducible refine Blk.drew ?_ | with_reducible refine Blk.drewN ?_ _ | with_reducible apply Blk.both | with_reducible refine Blk.far' ?_ ?_ | (show _ ≠ _; omega))) st
            clear st
            have B := Bn
            clear Bn
            have oA := nA
            clear nA
            have cA0 : World.cell? w1 ⟨w.heap.size, 0, none⟩ = some (.bool false) := oA.c 0 rfl
            have cA1 : World.cell? w1 ⟨w.heap.size, 1, none⟩ = some (.int .u64 (hi64 m)) := oA.c 1 rfl
            have cA2 : World.cell? w1 ⟨w.heap.size, 2, none⟩ = some (.int .u64 (lo64 m)) := oA.c 2 rfl
            have fA := oA.fr
            have lA := oA.lt
            go_wp2
            go_returns
            exact ⟨retI (by rw [H.out]; rfl), B⟩
          · go_enter Try.func63, Try.ntmps63
            go_wp2_with fail
            refine (div64_t m d _ h0 (by omega) hd2).mono ?_
            rintro e w1 ⟨rfl, hb1⟩
            have st : Steps _ w1 := hb1
            have Bn : Below w.heap.size w w1 := below_steps (by (repeat' first | with_reducible assumption | with_reducible exact Below.refl _ _ | with_reducible refine Below.alloc ?_ ?_ _ | with_reducible refine Below.drew ?_ | with_reducible refine belowN ?_ _ | with_reducible refine Below.setCell ?_ ?_ _ | go_size)) (Nat.le_refl _) st
            have nA : Blk w1 (w.heap.size) 77 #[.bool false, .int .u64 (hi64 m), .int .u64 (lo64 m)] := Blk.steps (by (repeat' first | with_reducible assumption | (with_reducible refine Blk.new' ?_; first | with_reducible rfl | (simp only [World.size_alloc, World.size_setCell, World.size_drew]; done)) | with_reducible refine Blk.alloc ?_ _ | with_reducible refine Blk.drew ?_ | with_reducible refine Blk.drewN ?_ _ | with_reducible apply Blk.both | with_reducible refine Blk.far' ?_ ?_ | (show _ ≠ _; omega))) st
            clear st
            have B := Bn
            clear Bn
            have oA := nA
            clear nA
            have cA0 : World.cell? w1 ⟨w.heap.size, 0, none⟩ = some (.bool false) := oA.c 0 rfl
            have cA1 : World.cell? w1 ⟨w.heap.size, 1, none⟩ = some (.int .u64 (hi64 m)) := oA.c 1 rfl
            have cA2 : World.cell? w1 ⟨w.heap.size, 2, none⟩ = some (.int .u64 (lo64 m)) := oA.c 2 rfl
            have fA := oA.fr
            have lA := oA.lt
            go_wp2
            go_returns
            exact ⟨retI (by rw [H.out]; rfl), B⟩
        · cases up
          · go_enter Try.func63, Try.ntmps63
            go_wp2_with fail
            refine (div64_t m d _ h0 (by omega) hd2).mono ?_
            rintro e w1 ⟨rfl, hb1⟩
            have st : Steps _ w1 := hb1
            have Bn : Below w.heap.size w w1 := below_steps (by (repeat' first | with_reducible assumption | with_reducible exact Below.refl _ _ | with_reducible refine Below.alloc ?_ ?_ _ | with_reducible refine Below.drew ?_ | with_reducible refine belowN ?_ _ | with_reducible refine Below.setCell ?_ ?_ _ | go_size)) (Nat.le_refl _) st
            have nA : Blk w1 (w.heap.size) 77 #[.bool true, .int .u64 (hi64 m), .int .u64 (lo64 m)] := Blk.steps (by (repeat' first | with_reducible assumption | (with_reducible refine Blk.new' ?_; first | with_reducible rfl | (simp only [World.size_alloc, World.size_setCell, World.size_drew]; done)) | with_reducible refine Blk.alloc ?_ _ | with_reducible refine Blk.drew ?_ | with_reducible refine Blk.drewN ?_ _ | with_reducible apply Blk.both | with_reducible refine Blk.far' ?_ ?_ | (show _ ≠ _; omega))) st
            clear st
            have B := Bn
            clear Bn
            have oA := nA
            clear nA
            have cA0 : World.cell? w1 ⟨w.heap.size, 0, none⟩ = some (.bool true) := oA.c 0 rfl
            have cA1 : World.cell? w1 ⟨w.heap.size, 1, none⟩ = some (.int .u64 (hi64 m)) := oA.c 1 rfl
            have cA2 : World.cell? w1 ⟨w.heap.size, 2, none⟩ = some (.int .u64 (lo64 m)) := oA.c 2 rfl
            have fA := oA.fr
            have lA := oA.lt
            go_wp2
            go_returns
            exact ⟨retI (by rw [H.out]; rfl), B⟩
          · go_enter Try.func63, Try.ntmps63
            go_wp2_with fail
            refine (div64_t m d _ h0 (by omega) hd2).mono ?_
            rintro e w1 ⟨rfl, hb1⟩
            have st : Steps _ w1 := hb1
            have Bn : Below w.heap.size w w1 := below_steps (by (repeat' first | with_reducible assumption | with_reducible exact Below.refl _ _ | with_reducible refine Below.alloc ?_ ?_ _ | with_reducible refine Below.drew ?_ | with_reducible refine belowN ?_ _ | with_reducible refine Below.setCell ?_ ?_ _ | go_size)) (Nat.le_refl _) st
            have nA : Blk w1 (w.heap.size) 77 #[.bool true, .int .u64 (hi64 m), .int .u64 (lo64 m)] := Blk.steps (by (repeat' first | with_reducible assumption | (with_reducible refine Blk.new' ?_; first | with_reducible rfl | (simp only [World.size_alloc, World.size_setCell, World.size_drew]; done)) | with_reducible refine Blk.alloc ?_ _ | with_reducible refine Blk.drew ?_ | with_reducible refine Blk.drewN ?_ _ | with_reducible apply Blk.both | with_reducible refine Blk.far' ?_ ?_ | (show _ ≠ _; omega))) st
            clear st
            have B := Bn
            clear Bn
            have oA := nA
            clear nA
            have cA0 : World.cell? w1 ⟨w.heap.size, 0, none⟩ = some (.bool true) := oA.c 0 rfl
            have cA1 : World.cell? w1 ⟨w.heap.size, 1, none⟩ = some (.int .u64 (hi64 m)) := oA.c 1 rfl
            have cA2 : World.cell? w1 ⟨w.heap.size, 2, none⟩ = some (.int .u64 (lo64 m)) := oA.c 2 rfl
            have fA := oA.fr
            have lA := oA.lt
            go_wp2
            go_returns
            exact ⟨retI (by rw [H.out]; rfl), B⟩
def lessV (n1 n2 : Bool) (m1 m2 : Int) : Bool := if n1 ≠ n2 then n1 else if n1 then decide (m2 < m1) else decide (m1 < m2)
theorem words_cases (a b : Int) : (a < b ∧ hi64 a < hi64 b) ∨ (a < b ∧ hi64 a = hi64 b ∧ lo64 a < lo64 b) ∨ (a = b) ∨ (b < a ∧ hi64 b < hi64 a) ∨ (b < a ∧ hi64 b = hi64 a ∧ lo64 b < lo64 a) := by
  unfold hi64 lo64; omega
theorem rless_ne (n : Bool) (m1 m2 : Int) (w : World) : Calls Try.prog 61 #[.agg #[.bool n, .int .u64 (hi64 m1), .int .u64 (lo64 m1)], .agg #[.bool (!n), .int .u64 (hi64 m2), .int .u64 (lo64 m2)]] w fun e w' => e = .returned (.bool (lessV n (!n) m1 m2)) ∧ Below w.heap.size w w' := by
  have H : Hid (lessV n (!n) m1 m2 = n) := by show lessV n (!n) m1 m2 = n; cases n <;> rfl
  cases n
  all_goals
    go_enter Try.func61, Try.ntmps61
    go_wp2
    go_returns
    exact ⟨by rw [H.out]; rfl, by go_grown⟩
set_option maxRecDepth 100000 in
set_option maxHeartbeats 4000000 in
theorem rless_false (m1 m2 : Int) (w : World) (b0 : 0 ≤ hi64 m1) (b1 : 0 ≤ hi64 m2) : Calls Try.prog 61 #[.agg #[.bool false, .int .u64 (hi64 m1), .int .u64 (lo64 m1)], .agg #[.bool false, .int .u64 (hi64 m2), .int .u64 (lo64 m2)]] w fun e w' => e = .returned (.bool (lessV false false m1 m2)) ∧ Below w.heap.size w w' := by
  obtain ⟨l0, l1⟩ := lo64_b m1
  obtain ⟨l2, l3⟩ := lo64_b m2
  go_enter Try.func61, Try.ntmps61
  go_wp2_with fail
  have oA : Blk ((w.alloc (.cells #[.bool false, .int .u64 (hi64 m1), .int .u64 (lo64 m1)] 77)).alloc (.cells #[.bool false, .int .u64 (hi64 m2), .int .u64 (lo64 m2)] 77)) w.heap.size 77 #[.bool false, .int .u64 (hi64 m1), .int .u64 (lo64 m1)] := (Blk.new w _ _).alloc _
  have oB : Blk ((w.alloc (.cells #[.bool false, .int .u64 (hi64 m1), .int .u64 (lo64 m1)] 77)).alloc (.cells #[.bool false, .int .u64 (hi64 m2), .int .u64 (lo64 m2)] 77)) (w.heap.size + 1) 77 #[.bool false, .int .u64 (hi64 m2), .int .u64 (lo64 m2)] := Blk.new1 w _ _ _
  have B : Below w.heap.size w ((w.alloc (.cells #[.bool false, .int .u64 (hi64 m1), .int .u64 (lo64 m1)] 77)).alloc (.cells #[.bool false, .int .u64 (hi64 m2), .int .u64 (lo64 m2)] 77)) := by go_grown
  refine Reg.wp_chain_n (fun N0 => fun D v W => Below w.heap.size w W ∧ Blk W (w.heap.size) 77 #[.bool false, .int .u64 (hi64 m1), .int .u64 (lo64 m1)] ∧ Blk W (w.heap.size + 1) 77 #[.bool false, .int .u64 (hi64 m2), .int .u64 (lo64 m2)] ∧ (D 2 = true → ∃ g : Nat, v 2 = .pointer (some ⟨g, 0, none⟩) ∧ N0 ≤ g ∧ Blk W g 77 #[Reg.sel (D 4) (.bool false) (.bool false), Reg.sel (D 4) (.int .u64 0) (.int .u64 (hi64 m1)), Reg.sel (D 4) (.int .u64 0) (.int .u64 (lo64 m1))]) ∧ (D 3 = true → ∃ g : Nat, v 3 = .pointer (some ⟨g, 0, none⟩) ∧ N0 ≤ g ∧ Blk W g 77 #[Reg.sel (D 5) (.bool false) (.bool false), Reg.sel (D 5) (.int .u64 0) (.int .u64 (hi64 m2)), Reg.sel (D 5) (.int .u64 0) (.int .u64 (lo64 m2))]) ∧ (D 2 = true → D 3 = true → v 2 ≠ v 3) ∧ N0 ≤ W.heap.size)
    (Reg.inl [2, 3, 4, 5]) (Reg.gv [(2, fun x => ∃ g : Nat, x = .pointer (some ⟨g, 0, none⟩)), (3, fun x => ∃ g : Nat, x = .pointer (some ⟨g, 0, none⟩))]) Reg.None_ (fun _ => Reg.Any) (fun _ _ => False) (Reg.pl [(4, [(2, some 5)]), (5, [(3, some 6)]), (6, [(2, some 5), (3, some 6)])]) (Reg.pl [(2, [4]), (3, [5])])
    (by kernel_rfl) (by kernel_rfl) (by kernel_rfl) (Reg.gv_some _ (fun p hp => by simp only [List.mem_cons, List.not_mem_nil, or_false] at hp; rcases hp with rfl | rfl; exact ⟨_, 0, rfl⟩; exact ⟨_, 0, rfl⟩)) (fun N0 hN0 => ⟨fun v => ?_, (fun D v v' W hv hj => ?_), fun _ _ _ _ _ _ _ _ _ _ _ _ _ => Reg.none_, fun _ _ _ _ h => h.elim, fun ops' Q' hops hQ => ?_⟩)
  · exact ⟨(by first | with_reducible exact Below.drew B | with_reducible exact Below.drew (belowN B _) | (repeat' first | with_reducible assumption | with_reducible exact Below.refl _ _ | with_reducible refine Below.alloc ?_ ?_ _ | with_reducible refine Below.drew ?_ | with_reducible refine belowN ?_ _ | with_reducible refine Below.setCell ?_ ?_ _ | go_size)), (show Blk _ _ _ #[.bool false, .int .u64 (hi64 m1), .int .u64 (lo64 m1)] from (by first | with_reducible exact oA | (repeat' first | with_reducible assumption | (with_reducible refine Blk.new' ?_; first | with_reducible rfl | (simp only [World.size_alloc, World.size_setCell, World.size_drew]; done)) | with_reducible refine Blk.alloc ?_ _ | with_reducible refine Blk.drew ?_ | with_reducible refine Blk.drewN ?_ _ | with_reducible apply Blk.both | with_reducible refine Blk.far' ?_ ?_ | (show _ ≠ _; omega)))), (show Blk _ _ _ #[.bool false, .int .u64 (hi64 m2), .int .u64 (lo64 m2)] from (by first | with_reducible exact oB | (repeat' first | with_reducible assumption | (with_reducible refine Blk.new' ?_; first | with_reducible rfl | (simp only [World.size_alloc, World.size_setCell, World.size_drew]; done)) | with_reducible refine Blk.alloc ?_ _ | with_reducible refine Blk.drew ?_ | with_reducible refine Blk.drewN ?_ _ | with_reducible apply Blk.both | with_reducible refine Blk.far' ?_ ?_ | (show _ ≠ _; omega)))), (fun h => by cases h), (fun h => by cases h), (fun h => by cases h), (Nat.le_of_eq hN0.out)⟩
  · obtain ⟨B, oA, oB, pa2, pa3, q2_3, zN0⟩ := hj
    exact ⟨B, oA, oB, (fun h => hv 2 h ▸ pa2 h), (fun h => hv 3 h ▸ pa3 h), (fun h h' => hv 2 h ▸ hv 3 h' ▸ q2_3 h h'), zN0⟩
  have iA : w.heap.size < N0 := by have h := oA.lt; have e := hN0.out; (try simp only [World.size_alloc, World.size_setCell, World.size_drew, World.heap_drewN] at e); omega
  have iB : w.heap.size + 1 < N0 := by have h := oB.lt; have e := hN0.out; (try simp only [World.size_alloc, World.size_setCell, World.size_drew, World.heap_drewN] at e); omega
  have uN0 : w.heap.size ≤ N0 := by have h := Below.size B; have e := hN0.out; (try simp only [World.size_alloc, World.size_setCell, World.size_drew, World.heap_drewN] at e); (try simp only [World.size_alloc, World.size_setCell, World.size_drew, World.heap_drewN] at h); omega
  clear B oA oB hN0
  apply Reg.RC_pure (hc := rfl) (hst := rfl) (hw := rfl) (t := 14) (hd := rfl) (ht := Nat.le_of_ble_eq_true rfl)
  · intro D v W hc hj hf K hK
    obtain ⟨B, oA, oB, pa2, pa3, q2_3, zN0⟩ := hj
    have cA0 : World.cell? W ⟨w.heap.size, 0, none⟩ = some (.bool false) := oA.c 0 rfl
    have cA1 : World.cell? W ⟨w.heap.size, 1, none⟩ = some (.int .u64 (hi64 m1)) := oA.c 1 rfl
    have cA2 : World.cell? W ⟨w.heap.size, 2, none⟩ = some (.int .u64 (lo64 m1)) := oA.c 2 rfl
    go_step
    exact hK.out
  · rfl
  apply Reg.RC_pure (hc := rfl) (hst := rfl) (hw := rfl) (t := 15) (hd := rfl) (ht := Nat.le_of_ble_eq_true rfl)
  · intro D v W hc hj hf K hK
    obtain ⟨B, oA, oB, pa2, pa3, q2_3, zN0⟩ := hj
    have cB0 : World.cell? W ⟨w.heap.size + 1, 0, none⟩ = some (.bool false) := oB.c 0 rfl
    have cB1 : World.cell? W ⟨w.heap.size + 1, 1, none⟩ = some (.int .u64 (hi64 m2)) := oB.c 1 rfl
    have cB2 : World.cell? W ⟨w.heap.size + 1, 2, none⟩ = some (.int .u64 (lo64 m2)) := oB.c 2 rfl
    go_step
    exact hK.out
  · rfl
  refine Reg.RC_call rfl (by intro t ht; cases ht; exact Nat.le_of_ble_eq_true rfl) rfl (fun D v W hc hj hf K hK => ?_) (fun x hx => ?_)
  · obtain ⟨B, oA, oB, pa2, pa3, q2_3, zN0⟩ := hj
    have hs : D 4 = false := hc.2 4 (.head _)
    go_step
    exact hK.out _ _ Reg.any ⟨Below.alloc B B.size _, oA.alloc _, oB.alloc _, (fun _ => ⟨W.heap.size, rfl, zN0, (by show Blk _ _ _ #[Reg.sel (D 4) (.bool false) (.bool false), Reg.sel (D 4) (.int .u64 0) (.int .u64 (hi64 m1)), Reg.sel (D 4) (.int .u64 0) (.int .u64 (lo64 m1))]; simp only [hs, Reg.sel_false]; exact Blk.new W _ _)⟩), (fun h => let ⟨g, h1, h2, h3⟩ := pa3 h; ⟨g, h1, h2, h3.alloc _⟩), (fun _ h' => let ⟨g, h1, _, h3⟩ := pa3 h'; fun e => Reg.ptr_ne h3.lt (e.trans h1)), (Nat.le_trans zN0 (by rw [World.size_alloc]; exact Nat.le_succ _))⟩ Reg.none_ ⟨_, rfl⟩
  obtain ⟨gX, hx⟩ : ∃ g : Nat, x = .pointer (some ⟨g, 0, none⟩) := hx
  subst hx
  refine Reg.RC_at (b := ⟨#[_, _, _, _, _, _, _, _, _, _, _, _, _, _, _, _, _, _, _, _, _, _, _, _, _, _, _, _, _, _, _, _, _, _, _, _, _, _, _], []⟩) rfl ?_
  refine Reg.RC_call rfl (by intro t ht; cases ht; exact Nat.le_of_ble_eq_true rfl) rfl (fun D v W hc hj hf K hK => ?_) (fun x hx => ?_)
  · obtain ⟨B, oA, oB, pa2, pa3, q2_3, zN0⟩ := hj
    have hs : D 5 = false := hc.2 5 (.head _)
    go_step
    exact hK.out _ _ Reg.any ⟨Below.alloc B B.size _, oA.alloc _, oB.alloc _, (fun h => let ⟨g, h1, h2, h3⟩ := pa2 h; ⟨g, h1, h2, h3.alloc _⟩), (fun _ => ⟨W.heap.size, rfl, zN0, (by show Blk _ _ _ #[Reg.sel (D 5) (.bool false) (.bool false), Reg.sel (D 5) (.int .u64 0) (.int .u64 (hi64 m2)), Reg.sel (D 5) (.int .u64 0) (.int .u64 (lo64 m2))]; simp only [hs, Reg.sel_false]; exact Blk.new W _ _)⟩), (fun h _ => let ⟨g, h1, _, h3⟩ := pa2 h; fun e => Reg.ptr_ne h3.lt (e.symm.trans h1)), (Nat.le_trans zN0 (by rw [World.size_alloc]; exact Nat.le_succ _))⟩ Reg.none_ ⟨_, rfl⟩
  obtain ⟨gY, hx⟩ : ∃ g : Nat, x = .pointer (some ⟨g, 0, none⟩) := hx
  subst hx
  refine Reg.RC_at (b := ⟨#[_, _, _, _, _, _, _, _, _, _, _, _, _, _, _, _, _, _, _, _, _, _, _, _, _, _, _, _, _, _, _, _, _, _, _, _, _, _, _], []⟩) rfl ?_
  refine Reg.RC_call rfl (by intro t ht; cases ht) rfl (fun D v W hc hj hf K hK => ?_) (fun _ _ => Reg.RC_at (b := ⟨_, []⟩) rfl ?_)
  · obtain ⟨B, oA, oB, pa2, pa3, q2_3, zN0⟩ := hj
    have hs : D 4 = false := hc.1
    obtain ⟨hd, he, -⟩ := hf (2, some 5) (.head _) rfl
    obtain ⟨g, h1, h2, h3⟩ := pa2 hd
    obtain rfl : gX = g := Reg.ptr_eq ((show v 2 = Value.pointer (some ⟨gX, 0, none⟩) from he).symm.trans h1)
    have oo : Blk W gX 77 #[.bool false, .int .u64 0, .int .u64 0] := by have o := h3; simp only [hs, Reg.sel_false] at o; exact o
    have cc0 : World.cell? W ⟨gX, 0, none⟩ = some (.bool false) := oo.c 0 rfl
    have cc1 : World.cell? W ⟨gX, 1, none⟩ = some (.int .u64 0) := oo.c 1 rfl
    have cc2 : World.cell? W ⟨gX, 2, none⟩ = some (.int .u64 0) := oo.c 2 rfl
    have ff := oo.fr
    have ll := oo.lt
    go_step
    have nn := h2
    exact hK.out undef _ Reg.any ⟨(by (repeat' first | with_reducible assumption | with_reducible exact Below.refl _ _ | with_reducible refine Below.alloc ?_ ?_ _ | with_reducible refine Below.drew ?_ | with_reducible refine belowN ?_ _ | with_reducible refine Below.setCell ?_ ?_ _ | go_size)), (show Blk _ _ _ #[.bool false, .int .u64 (hi64 m1), .int .u64 (lo64 m1)] from (by (repeat' first | with_reducible assumption | (with_reducible refine Blk.new' ?_; first | with_reducible rfl | (simp only [World.size_alloc, World.size_setCell, World.size_drew]; done)) | with_reducible refine Blk.alloc ?_ _ | with_reducible refine Blk.drew ?_ | with_reducible refine Blk.drewN ?_ _ | with_reducible apply Blk.both | with_reducible refine Blk.far' ?_ ?_ | (show _ ≠ _; omega)))), (show Blk _ _ _ #[.bool false, .int .u64 (hi64 m2), .int .u64 (lo64 m2)] from (by (repeat' first | with_reducible assumption | (with_reducible refine Blk.new' ?_; first | with_reducible rfl | (simp only [World.size_alloc, World.size_setCell, World.size_drew]; done)) | with_reducible refine Blk.alloc ?_ _ | with_reducible refine Blk.drew ?_ | with_reducible refine Blk.drewN ?_ _ | with_reducible apply Blk.both | with_reducible refine Blk.far' ?_ ?_ | (show _ ≠ _; omega)))), (fun _ => ⟨gX, h1, h2, (show Blk _ _ _ #[.bool false, .int .u64 (hi64 m1), .int .u64 (lo64 m1)] from (Blk.set2 (cs' := #[.bool false, .int .u64 (hi64 m1), .int .u64 (lo64 m1)]) (Blk.set2 (cs' := #[.bool false, .int .u64 (hi64 m1), .int .u64 0]) (Blk.set2 (cs' := #[.bool false, .int .u64 0, .int .u64 0]) oo (i := 0) rfl) (i := 1) rfl) (i := 2) rfl))⟩), (fun h => let ⟨g', h1', h2', h3'⟩ := pa3 h; have hne : g' ≠ gX := (fun e => q2_3 hd h (h1.trans ((congrArg (fun n => Value.pointer (some ⟨n, 0, none⟩)) e.symm).trans h1'.symm))); ⟨g', h1', h2', (show Blk _ _ _ #[Reg.sel (D 5) (.bool false) (.bool false), Reg.sel (D 5) (.int .u64 0) (.int .u64 (hi64 m2)), Reg.sel (D 5) (.int .u64 0) (.int .u64 (lo64 m2))] from (by (repeat' first | with_reducible assumption | (with_reducible refine Blk.new' ?_; first | with_reducible rfl | (simp only [World.size_alloc, World.size_setCell, World.size_drew]; done)) | with_reducible refine Blk.alloc ?_ _ | with_reducible refine Blk.drew ?_ | with_reducible refine Blk.drewN ?_ _ | with_reducible apply Blk.both | with_reducible refine Blk.far' ?_ ?_ | (show _ ≠ _; omega))))⟩), (fun h h' => q2_3 h h'), (by simpa using zN0)⟩ Reg.none_ trivial
  refine Reg.RC_call rfl (by intro t ht; cases ht) rfl (fun D v W hc hj hf K hK => ?_) (fun _ _ => Reg.RC_at (b := ⟨_, []⟩) rfl ?_)
  · obtain ⟨B, oA, oB, pa2, pa3, q2_3, zN0⟩ := hj
    have hs : D 5 = false := hc.1
    obtain ⟨hd, he, -⟩ := hf (3, some 6) (.head _) rfl
    obtain ⟨g, h1, h2, h3⟩ := pa3 hd
    obtain rfl : gY = g := Reg.ptr_eq ((show v 3 = Value.pointer (some ⟨gY, 0, none⟩) from he).symm.trans h1)
    have oo : Blk W gY 77 #[.bool false, .int .u64 0, .int .u64 0] := by have o := h3; simp only [hs, Reg.sel_false] at o; exact o
    have cc0 : World.cell? W ⟨gY, 0, none⟩ = some (.bool false) := oo.c 0 rfl
    have cc1 : World.cell? W ⟨gY, 1, none⟩ = some (.int .u64 0) := oo.c 1 rfl
    have cc2 : World.cell? W ⟨gY, 2, none⟩ = some (.int .u64 0) := oo.c 2 rfl
    have ff := oo.fr
    have ll := oo.lt
    go_step
    have nn := h2
    exact hK.out undef _ Reg.any ⟨(by (repeat' first | with_reducible assumption | with_reducible exact Below.refl _ _ | with_reducible refine Below.alloc ?_ ?_ _ | with_reducible refine Below.drew ?_ | with_reducible refine belowN ?_ _ | with_reducible refine Below.setCell ?_ ?_ _ | go_size)), (show Blk _ _ _ #[.bool false, .int .u64 (hi64 m1), .int .u64 (lo64 m1)] from (by (repeat' first | with_reducible assumption | (with_reducible refine Blk.new' ?_; first | with_reducible rfl | (simp only [World.size_alloc, World.size_setCell, World.size_drew]; done)) | with_reducible refine Blk.alloc ?_ _ | with_reducible refine Blk.drew ?_ | with_reducible refine Blk.drewN ?_ _ | with_reducible apply Blk.both | with_reducible refine Blk.far' ?_ ?_ | (show _ ≠ _; omega)))), (show Blk _ _ _ #[.bool false, .int .u64 (hi64 m2), .int .u64 (lo64 m2)] from (by (repeat' first | with_reducible assumption | (with_reducible refine Blk.new' ?_; first | with_reducible rfl | (simp only [World.size_alloc, World.size_setCell, World.size_drew]; done)) | with_reducible refine Blk.alloc ?_ _ | with_reducible refine Blk.drew ?_ | with_reducible refine Blk.drewN ?_ _ | with_reducible apply Blk.both | with_reducible refine Blk.far' ?_ ?_ | (show _ ≠ _; omega)))), (fun h => let ⟨g', h1', h2', h3'⟩ := pa2 h; have hne : g' ≠ gY := (fun e => q2_3 h hd (h1'.trans ((congrArg (fun n => Value.pointer (some ⟨n, 0, none⟩)) e).trans h1.symm))); ⟨g', h1', h2', (show Blk _ _ _ #[Reg.sel (D 4) (.bool false) (.bool false), Reg.sel (D 4) (.int .u64 0) (.int .u64 (hi64 m1)), Reg.sel (D 4) (.int .u64 0) (.int .u64 (lo64 m1))] from (by (repeat' first | with_reducible assumption | (with_reducible refine Blk.new' ?_; first | with_reducible rfl | (simp only [World.size_alloc, World.size_setCell, World.size_drew]; done)) | with_reducible refine Blk.alloc ?_ _ | with_reducible refine Blk.drew ?_ | with_reducible refine Blk.drewN ?_ _ | with_reducible apply Blk.both | with_reducible refine Blk.far' ?_ ?_ | (show _ ≠ _; omega))))⟩), (fun _ => ⟨gY, h1, h2, (show Blk _ _ _ #[.bool false, .int .u64 (hi64 m2), .int .u64 (lo64 m2)] from (Blk.set2 (cs' := #[.bool false, .int .u64 (hi64 m2), .int .u64 (lo64 m2)]) (Blk.set2 (cs' := #[.bool false, .int .u64 (hi64 m2), .int .u64 0]) (Blk.set2 (cs' := #[.bool false, .int .u64 0, .int .u64 0]) oo (i := 0) rfl) (i := 1) rfl) (i := 2) rfl))⟩), (fun h h' => q2_3 h h'), (by simpa using zN0)⟩ Reg.none_ trivial
  refine Reg.RC_end (fun D v W hd hj hf => ?_)
  obtain ⟨B, oA, oB, pa2, pa3, q2_3, zN0⟩ := hj
  obtain ⟨-, he, -⟩ := hf (2, some 5) (.head _) rfl
  obtain ⟨g, h1, hXn, h3⟩ := pa2 (hd 2 (by decide))
  obtain rfl : gX = g := Reg.ptr_eq ((show v 2 = Value.pointer (some ⟨gX, 0, none⟩) from he).symm.trans h1)
  have oX : Blk W gX 77 #[.bool false, .int .u64 (hi64 m1), .int .u64 (lo64 m1)] := by have o := h3; simp only [hd 4 (by decide), Reg.inl, Reg.sel_true] at o; exact o
  have lowX : w.heap.size ≤ gX := Nat.le_trans uN0 hXn
  have sAX : w.heap.size ≠ gX := by have := iA; have := hXn; omega
  have sBX : w.heap.size + 1 ≠ gX := by have := iB; have := hXn; omega
  have he2 := h1
  clear he h1 h3 pa2 hXn
  obtain ⟨-, he, -⟩ := hf (3, some 6) (.tail _ (.head _)) rfl
  obtain ⟨g, h1, hYn, h3⟩ := pa3 (hd 3 (by decide))
  obtain rfl : gY = g := Reg.ptr_eq ((show v 3 = Value.pointer (some ⟨gY, 0, none⟩) from he).symm.trans h1)
  have oY : Blk W gY 77 #[.bool false, .int .u64 (hi64 m2), .int .u64 (lo64 m2)] := by have o := h3; simp only [hd 5 (by decide), Reg.inl, Reg.sel_true] at o; exact o
  have lowY : w.heap.size ≤ gY := Nat.le_trans uN0 hYn
  have sAY : w.heap.size ≠ gY := by have := iA; have := hYn; omega
  have sBY : w.heap.size + 1 ≠ gY := by have := iB; have := hYn; omega
  have he3 := h1
  clear he h1 h3 pa3 hYn
  have nXY : gX ≠ gY := fun e => q2_3 (hd 2 (by decide)) (hd 3 (by decide)) (he2.trans ((congrArg (fun n => Value.pointer (some ⟨n, 0, none⟩)) e).trans he3.symm))
  have nYX : gY ≠ gX := Ne.symm nXY
  clear he2 he3 zN0 uN0
  clear hd hf q2_3 iA iB
  refine hQ _ _ ?_
  clear hQ hops Q' ops'
  have lA := oA.lt
  have fA := oA.fr
  have cA0 := oA.c 0 rfl
  have cA1 := oA.c 1 rfl
  have cA2 := oA.c 2 rfl
  have lX := oX.lt
  have fX := oX.fr
  have cX0 := oX.c 0 rfl
  have cX1 := oX.c 1 rfl
  have cX2 := oX.c 2 rfl
  have lY := oY.lt
  have fY := oY.fr
  have cY0 := oY.c 0 rfl
  have cY1 := oY.c 1 rfl
  have cY2 := oY.c 2 rfl
  rcases words_cases m1 m2 with ⟨hl, k⟩ | ⟨hl, k, k'⟩ | hl | ⟨hl, k⟩ | ⟨hl, k, k'⟩
  · have H : Hid (lessV false false m1 m2 = true) := by show lessV false false m1 m2 = true; simp [lessV] <;> omega
    clear hl
    go_wp2
    go_returns
    refine ⟨?_, B⟩
    rw [H.out]
    show Ending.returned (.bool _) = Ending.returned (.bool _)
    first | rfl | (congr 2; simp <;> omega)
  · have H : Hid (lessV false false m1 m2 = true) := by show lessV false false m1 m2 = true; simp [lessV] <;> omega
    clear hl
    go_wp2
    go_returns
    refine ⟨?_, B⟩
    rw [H.out]
    show Ending.returned (.bool _) = Ending.returned (.bool _)
    first | rfl | (congr 2; simp <;> omega)
  · have H : Hid (lessV false false m1 m2 = false) := by show lessV false false m1 m2 = false; simp [lessV] <;> omega
    subst hl
    go_wp2
    go_returns
    refine ⟨?_, B⟩
    rw [H.out]
    show Ending.returned (.bool _) = Ending.returned (.bool _)
    first | rfl | (congr 2; simp <;> omega)
  · have H : Hid (lessV false false m1 m2 = false) := by show lessV false false m1 m2 = false; simp [lessV] <;> omega
    clear hl
    go_wp2
    go_returns
    refine ⟨?_, B⟩
    rw [H.out]
    show Ending.returned (.bool _) = Ending.returned (.bool _)
    first | rfl | (congr 2; simp <;> omega)
  · have H : Hid (lessV false false m1 m2 = false) := by show lessV false false m1 m2 = false; simp [lessV] <;> omega
    clear hl
    go_wp2
    go_returns
    refine ⟨?_, B⟩
    rw [H.out]
    show Ending.returned (.bool _) = Ending.returned (.bool _)
    first | rfl | (congr 2; simp <;> omega)
set_option maxRecDepth 100000 in
set_option maxHeartbeats 4000000 in
theorem rless_true (m1 m2 : Int) (w : World) (b0 : 0 ≤ hi64 m1) (b1 : 0 ≤ hi64 m2) : Calls Try.prog 61 #[.agg #[.bool true, .int .u64 (hi64 m1), .int .u64 (lo64 m1)], .agg #[.bool true, .int .u64 (hi64 m2), .int .u64 (lo64 m2)]] w fun e w' => e = .returned (.bool (lessV true true m1 m2)) ∧ Below w.heap.size w w' := by
  obtain ⟨l0, l1⟩ := lo64_b m1
  obtain ⟨l2, l3⟩ := lo64_b m2
  go_enter Try.func61, Try.ntmps61
  go_wp2_with fail
  have oA : Blk ((w.alloc (.cells #[.bool true, .int .u64 (hi64 m1), .int .u64 (lo64 m1)] 77)).alloc (.cells #[.bool true, .int .u64 (hi64 m2), .int .u64 (lo64 m2)] 77)) w.heap.size 77 #[.bool true, .int .u64 (hi64 m1), .int .u64 (lo64 m1)] := (Blk.new w _ _).alloc _
  have oB : Blk ((w.alloc (.cells #[.bool true, .int .u64 (hi64 m1), .int .u64 (lo64 m1)] 77)).alloc (.cells #[.bool true, .int .u64 (hi64 m2), .int .u64 (lo64 m2)] 77)) (w.heap.size + 1) 77 #[.bool true, .int .u64 (hi64 m2), .int .u64 (lo64 m2)] := Blk.new1 w _ _ _
  have B : Below w.heap.size w ((w.alloc (.cells #[.bool true, .int .u64 (hi64 m1), .int .u64 (lo64 m1)] 77)).alloc (.cells #[.bool true, .int .u64 (hi64 m2), .int .u64 (lo64 m2)] 77)) := by go_grown
  refine Reg.wp_chain_n (fun N0 => fun D v W => Below w.heap.size w W ∧ Blk W (w.heap.size) 77 #[.bool true, .int .u64 (hi64 m1), .int .u64 (lo64 m1)] ∧ Blk W (w.heap.size + 1) 77 #[.bool true, .int .u64 (hi64 m2), .int .u64 (lo64 m2)] ∧ (D 2 = true → ∃ g : Nat, v 2 = .pointer (some ⟨g, 0, none⟩) ∧ N0 ≤ g ∧ Blk W g 77 #[Reg.sel (D 4) (.bool false) (.bool true), Reg.sel (D 4) (.int .u64 0) (.int .u64 (hi64 m1)), Reg.sel (D 4) (.int .u64 0) (.int .u64 (lo64 m1))]) ∧ (D 3 = true → ∃ g : Nat, v 3 = .pointer (some ⟨g, 0, none⟩) ∧ N0 ≤ g ∧ Blk W g 77 #[Reg.sel (D 5) (.bool false) (.bool true), Reg.sel (D 5) (.int .u64 0) (.int .u64 (hi64 m2)), Reg.sel (D 5) (.int .u64 0) (.int .u64 (lo64 m2))]) ∧ (D 2 = true → D 3 = true → v 2 ≠ v 3) ∧ N0 ≤ W.heap.size)
    (Reg.inl [2, 3, 4, 5]) (Reg.gv [(2, fun x => ∃ g : Nat, x = .pointer (some ⟨g, 0, none⟩)), (3, fun x => ∃ g : Nat, x = .pointer (some ⟨g, 0, none⟩))]) Reg.None_ (fun _ => Reg.Any) (fun _ _ => False) (Reg.pl [(4, [(2, some 5)]), (5, [(3, some 6)]), (6, [(2, some 5), (3, some 6)])]) (Reg.pl [(2, [4]), (3, [5])])
    (by kernel_rfl) (by kernel_rfl) (by kernel_rfl) (Reg.gv_some _ (fun p hp => by simp only [List.mem_cons, List.not_mem_nil, or_false] at hp; rcases hp with rfl | rfl; exact ⟨_, 0, rfl⟩; exact ⟨_, 0, rfl⟩)) (fun N0 hN0 => ⟨fun v => ?_, (fun D v v' W hv hj => ?_), fun _ _ _ _ _ _ _ _ _ _ _ _ _ => Reg.none_, fun _ _ _ _ h => h.elim, fun ops' Q' hops hQ => ?_⟩)
  · exact ⟨(by first | with_reducible exact Below.drew B | with_reducible exact Below.drew (belowN B _) | (repeat' first | with_reducible assumption | with_reducible exact Below.refl _ _ | with_reducible refine Below.alloc ?_ ?_ _ | with_reducible refine Below.drew ?_ | with_reducible refine belowN ?_ _ | with_reducible refine Below.setCell ?_ ?_ _ | go_size)), (show Blk _ _ _ #[.bool true, .int .u64 (hi64 m1), .int .u64 (lo64 m1)] from (by first | with_reducible exact oA | (repeat' first | with_reducible assumption | (with_reducible refine Blk.new' ?_; first | with_reducible rfl | (simp only [World.size_alloc, World.size_setCell, World.size_drew]; done)) | with_reducible refine Blk.alloc ?_ _ | with_reducible refine Blk.drew ?_ | with_reducible refine Blk.drewN ?_ _ | with_reducible apply Blk.both | with_reducible refine Blk.far' ?_ ?_ | (show _ ≠ _; omega)))), (show Blk _ _ _ #[.bool true, .int .u64 (hi64 m2), .int .u64 (lo64 m2)] from (by first | with_reducible exact oB | (repeat' first | with_reducible assumption | (with_reducible refine Blk.new' ?_; first | with_reducible rfl | (simp only [World.size_alloc, World.size_setCell, World.size_drew]; done)) | with_reducible refine Blk.alloc ?_ _ | with_reducible refine Blk.drew ?_ | with_reducible refine Blk.drewN ?_ _ | with_reducible apply Blk.both | with_reducible refine Blk.far' ?_ ?_ | (show _ ≠ _; omega)))), (fun h => by cases h), (fun h => by cases h), (fun h => by cases h), (Nat.le_of_eq hN0.out)⟩
  · obtain ⟨B, oA, oB, pa2, pa3, q2_3, zN0⟩ := hj
    exact ⟨B, oA, oB, (fun h => hv 2 h ▸ pa2 h), (fun h => hv 3 h ▸ pa3 h), (fun h h' => hv 2 h ▸ hv 3 h' ▸ q2_3 h h'), zN0⟩
  have iA : w.heap.size < N0 := by have h := oA.lt; have e := hN0.out; (try simp only [World.size_alloc, World.size_setCell, World.size_drew, World.heap_drewN] at e); omega
  have iB : w.heap.size + 1 < N0 := by have h := oB.lt; have e := hN0.out; (try simp only [World.size_alloc, World.size_setCell, World.size_drew, World.heap_drewN] at e); omega
  have uN0 : w.heap.size ≤ N0 := by have h := Below.size B; have e := hN0.out; (try simp only [World.size_alloc, World.size_setCell, World.size_drew, World.heap_drewN] at e); (try simp only [World.size_alloc, World.size_setCell, World.size_drew, World.heap_drewN] at h); omega
  clear B oA oB hN0
  apply Reg.RC_pure (hc := rfl) (hst := rfl) (hw := rfl) (t := 14) (hd := rfl) (ht := Nat.le_of_ble_eq_true rfl)
  · intro D v W hc hj hf K hK
    obtain ⟨B, oA, oB, pa2, pa3, q2_3, zN0⟩ := hj
    have cA0 : World.cell? W ⟨w.heap.size, 0, none⟩ = some (.bool true) := oA.c 0 rfl
    have cA1 : World.cell? W ⟨w.heap.size, 1, none⟩ = some (.int .u64 (hi64 m1)) := oA.c 1 rfl
    have cA2 : World.cell? W ⟨w.heap.size, 2, none⟩ = some (.int .u64 (lo64 m1)) := oA.c 2 rfl
    go_step
    exact hK.out
  · rfl
  apply Reg.RC_pure (hc := rfl) (hst := rfl) (hw := rfl) (t := 15) (hd := rfl) (ht := Nat.le_of_ble_eq_true rfl)
  · intro D v W hc hj hf K hK
    obtain ⟨B, oA, oB, pa2, pa3, q2_3, zN0⟩ := hj
    have cB0 : World.cell? W ⟨w.heap.size + 1, 0, none⟩ = some (.bool true) := oB.c 0 rfl
    have cB1 : World.cell? W ⟨w.heap.size + 1, 1, none⟩ = some (.int .u64 (hi64 m2)) := oB.c 1 rfl
    have cB2 : World.cell? W ⟨w.heap.size + 1, 2, none⟩ = some (.int .u64 (lo64 m2)) := oB.c 2 rfl
    go_step
    exact hK.out
  · rfl
  refine Reg.RC_call rfl (by intro t ht; cases ht; exact Nat.le_of_ble_eq_true rfl) rfl (fun D v W hc hj hf K hK => ?_) (fun x hx => ?_)
  · obtain ⟨B, oA, oB, pa2, pa3, q2_3, zN0⟩ := hj
    have hs : D 4 = false := hc.2 4 (.head _)
    go_step
    exact hK.out _ _ Reg.any ⟨Below.alloc B B.size _, oA.alloc _, oB.alloc _, (fun _ => ⟨W.heap.size, rfl, zN0, (by show Blk _ _ _ #[Reg.sel (D 4) (.bool false) (.bool true), Reg.sel (D 4) (.int .u64 0) (.int .u64 (hi64 m1)), Reg.sel (D 4) (.int .u64 0) (.int .u64 (lo64 m1))]; simp only [hs, Reg.sel_false]; exact Blk.new W _ _)⟩), (fun h => let ⟨g, h1, h2, h3⟩ := pa3 h; ⟨g, h1, h2, h3.alloc _⟩), (fun _ h' => let ⟨g, h1, _, h3⟩ := pa3 h'; fun e => Reg.ptr_ne h3.lt (e.trans h1)), (Nat.le_trans zN0 (by rw [World.size_alloc]; exact Nat.le_succ _))⟩ Reg.none_ ⟨_, rfl⟩
  obtain ⟨gX, hx⟩ : ∃ g : Nat, x = .pointer (some ⟨g, 0, none⟩) := hx
  subst hx
  refine Reg.RC_at (b := ⟨#[_, _, _, _, _, _, _, _, _, _, _, _, _, _, _, _, _, _, _, _, _, _, _, _, _, _, _, _, _, _, _, _, _, _, _, _, _, _, _], []⟩) rfl ?_
  refine Reg.RC_call rfl (by intro t ht; cases ht; exact Nat.le_of_ble_eq_true rfl) rfl (fun D v W hc hj hf K hK => ?_) (fun x hx => ?_)
  · obtain ⟨B, oA, oB, pa2, pa3, q2_3, zN0⟩ := hj
    have hs : D 5 = false := hc.2 5 (.head _)
    go_step
    exact hK.out _ _ Reg.any ⟨Below.alloc B B.size _, oA.alloc _, oB.alloc _, (fun h => let ⟨g, h1, h2, h3⟩ := pa2 h; ⟨g, h1, h2, h3.alloc _⟩), (fun _ => ⟨W.heap.size, rfl, zN0, (by show Blk _ _ _ #[Reg.sel (D 5) (.bool false) (.bool true), Reg.sel (D 5) (.int .u64 0) (.int .u64 (hi64 m2)), Reg.sel (D 5) (.int .u64 0) (.int .u64 (lo64 m2))]; simp only [hs, Reg.sel_false]; exact Blk.new W _ _)⟩), (fun h _ => let ⟨g, h1, _, h3⟩ := pa2 h; fun e => Reg.ptr_ne h3.lt (e.symm.trans h1)), (Nat.le_trans zN0 (by rw [World.size_alloc]; exact Nat.le_succ _))⟩ Reg.none_ ⟨_, rfl⟩
  obtain ⟨gY, hx⟩ : ∃ g : Nat, x = .pointer (some ⟨g, 0, none⟩) := hx
  subst hx
  refine Reg.RC_at (b := ⟨#[_, _, _, _, _, _, _, _, _, _, _, _, _, _, _, _, _, _, _, _, _, _, _, _, _, _, _, _, _, _, _, _, _, _, _, _, _, _, _], []⟩) rfl ?_
  refine Reg.RC_call rfl (by intro t ht; cases ht) rfl (fun D v W hc hj hf K hK => ?_) (fun _ _ => Reg.RC_at (b := ⟨_, []⟩) rfl ?_)
  · obtain ⟨B, oA, oB, pa2, pa3, q2_3, zN0⟩ := hj
    have hs : D 4 = false := hc.1
    obtain ⟨hd, he, -⟩ := hf (2, some 5) (.head _) rfl
    obtain ⟨g, h1, h2, h3⟩ := pa2 hd
    obtain rfl : gX = g := Reg.ptr_eq ((show v 2 = Value.pointer (some ⟨gX, 0, none⟩) from he).symm.trans h1)
    have oo : Blk W gX 77 #[.bool false, .int .u64 0, .int .u64 0] := by have o := h3; simp only [hs, Reg.sel_false] at o; exact o
    have cc0 : World.cell? W ⟨gX, 0, none⟩ = some (.bool false) := oo.c 0 rfl
    have cc1 : World.cell? W ⟨gX, 1, none⟩ = some (.int .u64 0) := oo.c 1 rfl
    have cc2 : World.cell? W ⟨gX, 2, none⟩ = some (.int .u64 0) := oo.c 2 rfl
    have ff := oo.fr
    have ll := oo.lt
    go_step
    have nn := h2
    exact hK.out undef _ Reg.any ⟨(by (repeat' first | with_reducible assumption | with_reducible exact Below.refl _ _ | with_reducible refine Below.alloc ?_ ?_ _ | with_reducible refine Below.drew ?_ | with_reducible refine belowN ?_ _ | with_reducible refine Below.setCell ?_ ?_ _ | go_size)), (show Blk _ _ _ #[.bool true, .int .u64 (hi64 m1), .int .u64 (lo64 m1)] from (by (repeat' first | with_reducible assumption | (with_reducible refine Blk.new' ?_; first | with_reducible rfl | (simp only [World.size_alloc, World.size_setCell, World.size_drew]; done)) | with_reducible refine Blk.alloc ?_ _ | with_reducible refine Blk.drew ?_ | with_reducible refine Blk.drewN ?_ _ | with_reducible apply Blk.both | with_reducible refine Blk.far' ?_ ?_ | (show _ ≠ _; omega)))), (show Blk _ _ _ #[.bool true, .int .u64 (hi64 m2), .int .u64 (lo64 m2)] from (by (repeat' first | with_reducible assumption | (with_reducible refine Blk.new' ?_; first | with_reducible rfl | (simp only [World.size_alloc, World.size_setCell, World.size_drew]; done)) | with_reducible refine Blk.alloc ?_ _ | with_reducible refine Blk.drew ?_ | with_reducible refine Blk.drewN ?_ _ | with_reducible apply Blk.both | with_reducible refine Blk.far' ?_ ?_ | (show _ ≠ _; omega)))), (fun _ => ⟨gX, h1, h2, (show Blk _ _ _ #[.bool true, .int .u64 (hi64 m1), .int .u64 (lo64 m1)] from (Blk.set2 (cs' := #[.bool true, .int .u64 (hi64 m1), .int .u64 (lo64 m1)]) (Blk.set2 (cs' := #[.bool true, .int .u64 (hi64 m1), .int .u64 0]) (Blk.set2 (cs' := #[.bool true, .int .u64 0, .int .u64 0]) oo (i := 0) rfl) (i := 1) rfl) (i := 2) rfl))⟩), (fun h => let ⟨g', h1', h2', h3'⟩ := pa3 h; have hne : g' ≠ gX := (fun e => q2_3 hd h (h1.trans ((congrArg (fun n => Value.pointer (some ⟨n, 0, none⟩)) e.symm).trans h1'.symm))); ⟨g', h1', h2', (show Blk _ _ _ #[Reg.sel (D 5) (.bool false) (.bool true), Reg.sel (D 5) (.int .u64 0) (.int .u64 (hi64 m2)), Reg.sel (D 5) (.int .u64 0) (.int .u64 (lo64 m2))] from (by (repeat' first | with_reducible assumption | (with_reducible refine Blk.new' ?_; first | with_reducible rfl | (simp only [World.size_alloc, World.size_setCell, World.size_drew]; done)) | with_reducible refine Blk.alloc ?_ _ | with_reducible refine Blk.drew ?_ | with_reducible refine Blk.drewN ?_ _ | with_reducible apply Blk.both | with_reducible refine Blk.far' ?_ ?_ | (show _ ≠ _; omega))))⟩), (fun h h' => q2_3 h h'), (by simpa using zN0)⟩ Reg.none_ trivial
  refine Reg.RC_call rfl (by intro t ht; cases ht) rfl (fun D v W hc hj hf K hK => ?_) (fun _ _ => Reg.RC_at (b := ⟨_, []⟩) rfl ?_)
  · obtain ⟨B, oA, oB, pa2, pa3, q2_3, zN0⟩ := hj
    have hs : D 5 = false := hc.1
    obtain ⟨hd, he, -⟩ := hf (3, some 6) (.head _) rfl
    obtain ⟨g, h1, h2, h3⟩ := pa3 hd
    obtain rfl : gY = g := Reg.ptr_eq ((show v 3 = Value.pointer (some ⟨gY, 0, none⟩) from he).symm.trans h1)
    have oo : Blk W gY 77 #[.bool false, .int .u64 0, .int .u64 0] := by have o := h3; simp only [hs, Reg.sel_false] at o; exact o
    have cc0 : World.cell? W ⟨gY, 0, none⟩ = some (.bool false) := oo.c 0 rfl
    have cc1 : World.cell? W ⟨gY, 1, none⟩ = some (.int .u64 0) := oo.c 1 rfl
    have cc2 : World.cell? W ⟨gY, 2, none⟩ = some (.int .u64 0) := oo.c 2 rfl
    have ff := oo.fr
    have ll := oo.lt
    go_step
    have nn := h2
    exact hK.out undef _ Reg.any ⟨(by (repeat' first | with_reducible assumption | with_reducible exact Below.refl _ _ | with_reducible refine Below.alloc ?_ ?_ _ | with_reducible refine Below.drew ?_ | with_reducible refine belowN ?_ _ | with_reducible refine Below.setCell ?_ ?_ _ | go_size)), (show Blk _ _ _ #[.bool true, .int .u64 (hi64 m1), .int .u64 (lo64 m1)] from (by (repeat' first | with_reducible assumption | (with_reducible refine Blk.new' ?_; first | with_reducible rfl | (simp only [World.size_alloc, World.size_setCell, World.size_drew]; done)) | with_reducible refine Blk.alloc ?_ _ | with_reducible refine Blk.drew ?_ | with_reducible refine Blk.drewN ?_ _ | with_reducible apply Blk.both | with_reducible refine Blk.far' ?_ ?_ | (show _ ≠ _; omega)))), (show Blk _ _ _ #[.bool true, .int .u64 (hi64 m2), .int .u64 (lo64 m2)] from (by (repeat' first | with_reducible assumption | (with_reducible refine Blk.new' ?_; first | with_reducible rfl | (simp only [World.size_alloc, World.size_setCell, World.size_drew]; done)) | with_reducible refine Blk.alloc ?_ _ | with_reducible refine Blk.drew ?_ | with_reducible refine Blk.drewN ?_ _ | with_reducible apply Blk.both | with_reducible refine Blk.far' ?_ ?_ | (show _ ≠ _; omega)))), (fun h => let ⟨g', h1', h2', h3'⟩ := pa2 h; have hne : g' ≠ gY := (fun e => q2_3 h hd (h1'.trans ((congrArg (fun n => Value.pointer (some ⟨n, 0, none⟩)) e).trans h1.symm))); ⟨g', h1', h2', (show Blk _ _ _ #[Reg.sel (D 4) (.bool false) (.bool true), Reg.sel (D 4) (.int .u64 0) (.int .u64 (hi64 m1)), Reg.sel (D 4) (.int .u64 0) (.int .u64 (lo64 m1))] from (by (repeat' first | with_reducible assumption | (with_reducible refine Blk.new' ?_; first | with_reducible rfl | (simp only [World.size_alloc, World.size_setCell, World.size_drew]; done)) | with_reducible refine Blk.alloc ?_ _ | with_reducible refine Blk.drew ?_ | with_reducible refine Blk.drewN ?_ _ | with_reducible apply Blk.both | with_reducible refine Blk.far' ?_ ?_ | (show _ ≠ _; omega))))⟩), (fun _ => ⟨gY, h1, h2, (show Blk _ _ _ #[.bool true, .int .u64 (hi64 m2), .int .u64 (lo64 m2)] from (Blk.set2 (cs' := #[.bool true, .int .u64 (hi64 m2), .int .u64 (lo64 m2)]) (Blk.set2 (cs' := #[.bool true, .int .u64 (hi64 m2), .int .u64 0]) (Blk.set2 (cs' := #[.bool true, .int .u64 0, .int .u64 0]) oo (i := 0) rfl) (i := 1) rfl) (i := 2) rfl))⟩), (fun h h' => q2_3 h h'), (by simpa using zN0)⟩ Reg.none_ trivial
  refine Reg.RC_end (fun D v W hd hj hf => ?_)
  obtain ⟨B, oA, oB, pa2, pa3, q2_3, zN0⟩ := hj
  obtain ⟨-, he, -⟩ := hf (2, some 5) (.head _) rfl
  obtain ⟨g, h1, hXn, h3⟩ := pa2 (hd 2 (by decide))
  obtain rfl : gX = g := Reg.ptr_eq ((show v 2 = Value.pointer (some ⟨gX, 0, none⟩) from he).symm.trans h1)
  have oX : Blk W gX 77 #[.bool true, .int .u64 (hi64 m1), .int .u64 (lo64 m1)] := by have o := h3; simp only [hd 4 (by decide), Reg.inl, Reg.sel_true] at o; exact o
  have lowX : w.heap.size ≤ gX := Nat.le_trans uN0 hXn
  have sAX : w.heap.size ≠ gX := by have := iA; have := hXn; omega
  have sBX : w.heap.size + 1 ≠ gX := by have := iB; have := hXn; omega
  have he2 := h1
  clear he h1 h3 pa2 hXn
  obtain ⟨-, he, -⟩ := hf (3, some 6) (.tail _ (.head _)) rfl
  obtain ⟨g, h1, hYn, h3⟩ := pa3 (hd 3 (by decide))
  obtain rfl : gY = g := Reg.ptr_eq ((show v 3 = Value.pointer (some ⟨gY, 0, none⟩) from he).symm.trans h1)
  have oY : Blk W gY 77 #[.bool true, .int .u64 (hi64 m2), .int .u64 (lo64 m2)] := by have o := h3; simp only [hd 5 (by decide), Reg.inl, Reg.sel_true] at o; exact o
  have lowY : w.heap.size ≤ gY := Nat.le_trans uN0 hYn
  have sAY : w.heap.size ≠ gY := by have := iA; have := hYn; omega
  have sBY : w.heap.size + 1 ≠ gY := by have := iB; have := hYn; omega
  have he3 := h1
  clear he h1 h3 pa3 hYn
  have nXY : gX ≠ gY := fun e => q2_3 (hd 2 (by decide)) (hd 3 (by decide)) (he2.trans ((congrArg (fun n => Value.pointer (some ⟨n, 0, none⟩)) e).trans he3.symm))
  have nYX : gY ≠ gX := Ne.symm nXY
  clear he2 he3 zN0 uN0
  clear hd hf q2_3 iA iB
  refine hQ _ _ ?_
  clear hQ hops Q' ops'
  have cA0 := oA.c 0 rfl
  go_wp2_with fail
  clear cA0
  refine Reg.wp_chain (fun D v W => Below w.heap.size w W ∧ Blk W (w.heap.size) 77 #[.bool true, .int .u64 (hi64 m1), .int .u64 (lo64 m1)] ∧ Blk W (w.heap.size + 1) 77 #[.bool true, .int .u64 (hi64 m2), .int .u64 (lo64 m2)] ∧ Blk W (gX) 77 #[Reg.sel (D 2) (.bool true) (.bool true), Reg.sel (D 2) (.int .u64 (hi64 m1)) (.int .u64 (hi64 m2)), Reg.sel (D 2) (.int .u64 (lo64 m1)) (.int .u64 (lo64 m2))] ∧ Blk W (gY) 77 #[Reg.sel (D 3) (.bool true) (.bool true), Reg.sel (D 3) (.int .u64 (hi64 m2)) (.int .u64 (hi64 m1)), Reg.sel (D 3) (.int .u64 (lo64 m2)) (.int .u64 (lo64 m1))])
    (Reg.inl [2, 3]) (Reg.ge []) Reg.None_ (fun _ => Reg.Any) (fun _ _ => False) (Reg.pl []) (Reg.pl [])
    (by kernel_rfl) (by kernel_rfl) (by kernel_rfl) (Reg.ge_some _) (fun v => ?_) (fun _ _ _ _ _ h => h) (fun _ _ _ _ _ _ _ _ _ _ _ _ _ => Reg.none_) (fun _ _ _ _ h => h.elim) (fun ops' Q' hops hQ => ?_)
  · exact ⟨(by first | with_reducible exact Below.drew B | with_reducible exact Below.drew (belowN B _) | (repeat' first | with_reducible assumption | with_reducible exact Below.refl _ _ | with_reducible refine Below.alloc ?_ ?_ _ | with_reducible refine Below.drew ?_ | with_reducible refine belowN ?_ _ | with_reducible refine Below.setCell ?_ ?_ _ | go_size)), (show Blk _ _ _ #[.bool true, .int .u64 (hi64 m1), .int .u64 (lo64 m1)] from (by first | with_reducible exact oA | (repeat' first | with_reducible assumption | (with_reducible refine Blk.new' ?_; first | with_reducible rfl | (simp only [World.size_alloc, World.size_setCell, World.size_drew]; done)) | with_reducible refine Blk.alloc ?_ _ | with_reducible refine Blk.drew ?_ | with_reducible refine Blk.drewN ?_ _ | with_reducible apply Blk.both | with_reducible refine Blk.far' ?_ ?_ | (show _ ≠ _; omega)))), (show Blk _ _ _ #[.bool true, .int .u64 (hi64 m2), .int .u64 (lo64 m2)] from (by first | with_reducible exact oB | (repeat' first | with_reducible assumption | (with_reducible refine Blk.new' ?_; first | with_reducible rfl | (simp only [World.size_alloc, World.size_setCell, World.size_drew]; done)) | with_reducible refine Blk.alloc ?_ _ | with_reducible refine Blk.drew ?_ | with_reducible refine Blk.drewN ?_ _ | with_reducible apply Blk.both | with_reducible refine Blk.far' ?_ ?_ | (show _ ≠ _; omega)))), (show Blk _ _ _ #[.bool true, .int .u64 (hi64 m1), .int .u64 (lo64 m1)] from (by first | with_reducible exact oX | (repeat' first | with_reducible assumption | (with_reducible refine Blk.new' ?_; first | with_reducible rfl | (simp only [World.size_alloc, World.size_setCell, World.size_drew]; done)) | with_reducible refine Blk.alloc ?_ _ | with_reducible refine Blk.drew ?_ | with_reducible refine Blk.drewN ?_ _ | with_reducible apply Blk.both | with_reducible refine Blk.far' ?_ ?_ | (show _ ≠ _; omega)))), (show Blk _ _ _ #[.bool true, .int .u64 (hi64 m2), .int .u64 (lo64 m2)] from (by first | with_reducible exact oY | (repeat' first | with_reducible assumption | (with_reducible refine Blk.new' ?_; first | with_reducible rfl | (simp only [World.size_alloc, World.size_setCell, World.size_drew]; done)) | with_reducible refine Blk.alloc ?_ _ | with_reducible refine Blk.drew ?_ | with_reducible refine Blk.drewN ?_ _ | with_reducible apply Blk.both | with_reducible refine Blk.far' ?_ ?_ | (show _ ≠ _; omega))))⟩
  clear B oA oB oX oY
  apply Reg.RC_pure (hc := rfl) (hst := rfl) (hw := rfl) (t := 18) (hd := rfl) (ht := Nat.le_of_ble_eq_true rfl)
  · intro D v W hc hj hf K hK
    obtain ⟨B, oA, oB, oX, oY⟩ := hj
    have cB0 : World.cell? W ⟨w.heap.size + 1, 0, none⟩ = some (.bool true) := oB.c 0 rfl
    have cB1 : World.cell? W ⟨w.heap.size + 1, 1, none⟩ = some (.int .u64 (hi64 m2)) := oB.c 1 rfl
    have cB2 : World.cell? W ⟨w.heap.size + 1, 2, none⟩ = some (.int .u64 (lo64 m2)) := oB.c 2 rfl
    go_step
    exact hK.out
  · rfl
  apply Reg.RC_pure (hc := rfl) (hst := rfl) (hw := rfl) (t := 19) (hd := rfl) (ht := Nat.le_of_ble_eq_true rfl)
  · intro D v W hc hj hf K hK
    obtain ⟨B, oA, oB, oX, oY⟩ := hj
    have cA0 : World.cell? W ⟨w.heap.size, 0, none⟩ = some (.bool true) := oA.c 0 rfl
    have cA1 : World.cell? W ⟨w.heap.size, 1, none⟩ = some (.int .u64 (hi64 m1)) := oA.c 1 rfl
    have cA2 : World.cell? W ⟨w.heap.size, 2, none⟩ = some (.int .u64 (lo64 m1)) := oA.c 2 rfl
    go_step
    exact hK.out
  · rfl
  refine Reg.RC_call rfl (by intro t ht; cases ht) rfl (fun D v W hc hj hf K hK => ?_) (fun _ _ => Reg.RC_at (b := ⟨_, []⟩) rfl ?_)
  · obtain ⟨B, oA, oB, oX, oY⟩ := hj
    have hs : D 2 = false := hc.1
    have oX : Blk W (gX) 77 #[.bool true, .int .u64 (hi64 m1), .int .u64 (lo64 m1)] := by have o := oX; simp only [hs, Reg.sel_false] at o; exact o
    have lX := oX.lt
    have fX := oX.fr
    have cX0 : World.cell? W ⟨gX, 0, none⟩ = some (.bool true) := oX.c 0 rfl
    have cX1 : World.cell? W ⟨gX, 1, none⟩ = some (.int .u64 (hi64 m1)) := oX.c 1 rfl
    have cX2 : World.cell? W ⟨gX, 2, none⟩ = some (.int .u64 (lo64 m1)) := oX.c 2 rfl
    go_step
    exact hK.out undef _ Reg.any ⟨(by (repeat' first | with_reducible assumption | with_reducible exact Below.refl _ _ | with_reducible refine Below.alloc ?_ ?_ _ | with_reducible refine Below.drew ?_ | with_reducible refine belowN ?_ _ | with_reducible refine Below.setCell ?_ ?_ _ | go_size)), (show Blk _ _ _ #[.bool true, .int .u64 (hi64 m1), .int .u64 (lo64 m1)] from (by (repeat' first | with_reducible assumption | (with_reducible refine Blk.new' ?_; first | with_reducible rfl | (simp only [World.size_alloc, World.size_setCell, World.size_drew]; done)) | with_reducible refine Blk.alloc ?_ _ | with_reducible refine Blk.drew ?_ | with_reducible refine Blk.drewN ?_ _ | with_reducible apply Blk.both | with_reducible refine Blk.far' ?_ ?_ | (show _ ≠ _; omega)))), (show Blk _ _ _ #[.bool true, .int .u64 (hi64 m2), .int .u64 (lo64 m2)] from (by (repeat' first | with_reducible assumption | (with_reducible refine Blk.new' ?_; first | with_reducible rfl | (simp only [World.size_alloc, World.size_setCell, World.size_drew]; done)) | with_reducible refine Blk.alloc ?_ _ | with_reducible refine Blk.drew ?_ | with_reducible refine Blk.drewN ?_ _ | with_reducible apply Blk.both | with_reducible refine Blk.far' ?_ ?_ | (show _ ≠ _; omega)))), (show Blk _ _ _ #[.bool true, .int .u64 (hi64 m2), .int .u64 (lo64 m2)] from (Blk.set2 (cs' := #[.bool true, .int .u64 (hi64 m2), .int .u64 (lo64 m2)]) (Blk.set2 (cs' := #[.bool true, .int .u64 (hi64 m2), .int .u64 (lo64 m1)]) (Blk.set2 (cs' := #[.bool true, .int .u64 (hi64 m1), .int .u64 (lo64 m1)]) oX (i := 0) rfl) (i := 1) rfl) (i := 2) rfl)), (show Blk _ _ _ #[Reg.sel (D 3) (.bool true) (.bool true), Reg.sel (D 3) (.int .u64 (hi64 m2)) (.int .u64 (hi64 m1)), Reg.sel (D 3) (.int .u64 (lo64 m2)) (.int .u64 (lo64 m1))] from (by (repeat' first | with_reducible assumption | (with_reducible refine Blk.new' ?_; first | with_reducible rfl | (simp only [World.size_alloc, World.size_setCell, World.size_drew]; done)) | with_reducible refine Blk.alloc ?_ _ | with_reducible refine Blk.drew ?_ | with_reducible refine Blk.drewN ?_ _ | with_reducible apply Blk.both | with_reducible refine Blk.far' ?_ ?_ | (show _ ≠ _; omega))))⟩ Reg.none_ trivial
  refine Reg.RC_call rfl (by intro t ht; cases ht) rfl (fun D v W hc hj hf K hK => ?_) (fun _ _ => Reg.RC_at (b := ⟨_, []⟩) rfl ?_)
  · obtain ⟨B, oA, oB, oX, oY⟩ := hj
    have hs : D 3 = false := hc.1
    have oY : Blk W (gY) 77 #[.bool true, .int .u64 (hi64 m2), .int .u64 (lo64 m2)] := by have o := oY; simp only [hs, Reg.sel_false] at o; exact o
    have lY := oY.lt
    have fY := oY.fr
    have cY0 : World.cell? W ⟨gY, 0, none⟩ = some (.bool true) := oY.c 0 rfl
    have cY1 : World.cell? W ⟨gY, 1, none⟩ = some (.int .u64 (hi64 m2)) := oY.c 1 rfl
    have cY2 : World.cell? W ⟨gY, 2, none⟩ = some (.int .u64 (lo64 m2)) := oY.c 2 rfl
    go_step
    exact hK.out undef _ Reg.any ⟨(by (repeat' first | with_reducible assumption | with_reducible exact Below.refl _ _ | with_reducible refine Below.alloc ?_ ?_ _ | with_reducible refine Below.drew ?_ | with_reducible refine belowN ?_ _ | with_reducible refine Below.setCell ?_ ?_ _ | go_size)), (show Blk _ _ _ #[.bool true, .int .u64 (hi64 m1), .int .u64 (lo64 m1)] from (by (repeat' first | with_reducible assumption | (with_reducible refine Blk.new' ?_; first | with_reducible rfl | (simp only [World.size_alloc, World.size_setCell, World.size_drew]; done)) | with_reducible refine Blk.alloc ?_ _ | with_reducible refine Blk.drew ?_ | with_reducible refine Blk.drewN ?_ _ | with_reducible apply Blk.both | with_reducible refine Blk.far' ?_ ?_ | (show _ ≠ _; omega)))), (show Blk _ _ _ #[.bool true, .int .u64 (hi64 m2), .int .u64 (lo64 m2)] from (by (repeat' first | with_reducible assumption | (with_reducible refine Blk.new' ?_; first | with_reducible rfl | (simp only [World.size_alloc, World.size_setCell, World.size_drew]; done)) | with_reducible refine Blk.alloc ?_ _ | with_reducible refine Blk.drew ?_ | with_reducible refine Blk.drewN ?_ _ | with_reducible apply Blk.both | with_reducible refine Blk.far' ?_ ?_ | (show _ ≠ _; omega)))), (show Blk _ _ _ #[Reg.sel (D 2) (.bool true) (.bool true), Reg.sel (D 2) (.int .u64 (hi64 m1)) (.int .u64 (hi64 m2)), Reg.sel (D 2) (.int .u64 (lo64 m1)) (.int .u64 (lo64 m2))] from (by (repeat' first | with_reducible assumption | (with_reducible refine Blk.new' ?_; first | with_reducible rfl | (simp only [World.size_alloc, World.size_setCell, World.size_drew]; done)) | with_reducible refine Blk.alloc ?_ _ | with_reducible refine Blk.drew ?_ | with_reducible refine Blk.drewN ?_ _ | with_reducible apply Blk.both | with_reducible refine Blk.far' ?_ ?_ | (show _ ≠ _; omega)))), (show Blk _ _ _ #[.bool true, .int .u64 (hi64 m1), .int .u64 (lo64 m1)] from (Blk.set2 (cs' := #[.bool true, .int .u64 (hi64 m1), .int .u64 (lo64 m1)]) (Blk.set2 (cs' := #[.bool true, .int .u64 (hi64 m1), .int .u64 (lo64 m2)]) (Blk.set2 (cs' := #[.bool true, .int .u64 (hi64 m2), .int .u64 (lo64 m2)]) oY (i := 0) rfl) (i := 1) rfl) (i := 2) rfl))⟩ Reg.none_ trivial
  refine Reg.RC_end (fun D v W hd hj hf => ?_)
  obtain ⟨B, oA, oB, oX, oY⟩ := hj
  have e2 : D 2 = true := hd 2 (by decide)
  have e3 : D 3 = true := hd 3 (by decide)
  have oX : Blk W (gX) 77 #[.bool true, .int .u64 (hi64 m2), .int .u64 (lo64 m2)] := by have o := oX; simp only [e2, Reg.sel_true] at o; exact o
  have oY : Blk W (gY) 77 #[.bool true, .int .u64 (hi64 m1), .int .u64 (lo64 m1)] := by have o := oY; simp only [e3, Reg.sel_true] at o; exact o
  clear e2 e3
  clear hd hf
  refine hQ _ _ ?_
  clear hQ hops Q' ops'
  have lA := oA.lt
  have fA := oA.fr
  have cA0 := oA.c 0 rfl
  have cA1 := oA.c 1 rfl
  have cA2 := oA.c 2 rfl
  have lX := oX.lt
  have fX := oX.fr
  have cX0 := oX.c 0 rfl
  have cX1 := oX.c 1 rfl
  have cX2 := oX.c 2 rfl
  have lY := oY.lt
  have fY := oY.fr
  have cY0 := oY.c 0 rfl
  have cY1 := oY.c 1 rfl
  have cY2 := oY.c 2 rfl
  rcases words_cases m1 m2 with ⟨hl, k⟩ | ⟨hl, k, k'⟩ | hl | ⟨hl, k⟩ | ⟨hl, k, k'⟩
  · have H : Hid (lessV true true m1 m2 = false) := by show lessV true true m1 m2 = false; simp [lessV] <;> omega
    clear hl
    go_wp2
    go_returns
    refine ⟨?_, B⟩
    rw [H.out]
    show Ending.returned (.bool _) = Ending.returned (.bool _)
    first | rfl | (congr 2; simp <;> omega)
  · have H : Hid (lessV true true m1 m2 = false) := by show lessV true true m1 m2 = false; simp [lessV] <;> omega
    clear hl
    go_wp2
    go_returns
    refine ⟨?_, B⟩
    rw [H.out]
    show Ending.returned (.bool _) = Ending.returned (.bool _)
    first | rfl | (congr 2; simp <;> omega)
  · have H : Hid (lessV true true m1 m2 = false) := by show lessV true true m1 m2 = false; simp [lessV] <;> omega
    subst hl
    go_wp2
    go_returns
    refine ⟨?_, B⟩
    rw [H.out]
    show Ending.returned (.bool _) = Ending.returned (.bool _)
    first | rfl | (congr 2; simp <;> omega)
  · have H : Hid (lessV true true m1 m2 = true) := by show lessV true true m1 m2 = true; simp [lessV] <;> omega
    clear hl
    go_wp2
    go_returns
    refine ⟨?_, B⟩
    rw [H.out]
    show Ending.returned (.bool _) = Ending.returned (.bool _)
    first | rfl | (congr 2; simp <;> omega)
  · have H : Hid (lessV true true m1 m2 = true) := by show lessV true true m1 m2 = true; simp [lessV] <;> omega
    clear hl
    go_wp2
    go_returns
    refine ⟨?_, B⟩
    rw [H.out]
    show Ending.returned (.bool _) = Ending.returned (.bool _)
    first | rfl | (congr 2; simp <;> omega)
