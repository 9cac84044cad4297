import Derived.Test.YtalnlnpnacfdfaaSpMath
import Derived.Test.YtalnlnpnacfdfaaDiv64
namespace Go.Proofs.Ytalnlnpnacfdfaa
open Go.RowKit
theorem retA {k l : IntKind} {a b c d : Int} (h : a = b) (g : c = d) : Ending.returned (.agg #[.int k a, .int l c]) = .returned (.agg #[.int k b, .int l d]) := by rw [h, g]
theorem prod_b {a b m n : Int} (a0 : -m ≤ a) (a1 : a ≤ m) (b0 : -n ≤ b) (b1 : b ≤ n) : -(m * n) ≤ a * b ∧ a * b ≤ m * n := by
  have hm : 0 ≤ m := by omega
  rcases Int.le_total 0 a with h | h
  · have h1 := Int.mul_le_mul a1 b1 |> fun _ => Int.mul_le_mul_of_nonneg_left b1 h
    have h2 := Int.mul_le_mul_of_nonneg_left b0 h
    have h3 := Int.mul_le_mul_of_nonneg_right a1 (show 0 ≤ n by omega)
    rw [Int.mul_neg] at h2
    omega
  · have h1 := Int.mul_le_mul_of_nonpos_left h b1
    have h2 := Int.mul_le_mul_of_nonpos_left h b0
    have h3 := Int.mul_le_mul_of_nonneg_right a0 (show 0 ≤ n by omega)
    rw [Int.mul_neg] at h2
    rw [Int.neg_mul] at h3
    omega
theorem uprod {a b ua ub : Int} (a0 : -9223372036854775808 ≤ a) (a1 : a ≤ 9223372036854775807) (b0 : -9223372036854775808 ≤ b) (b1 : b ≤ 9223372036854775807)
    (ea : IntKind.u64.wrap a = ua) (eb : IntKind.u64.wrap b = ub) :
    ua * ub = a * b + (if a < 0 then b * 18446744073709551616 else 0) + (if b < 0 then a * 18446744073709551616 else 0) + (if a < 0 ∧ b < 0 then 340282366920938463463374607431768211456 else 0) := by
  rw [IntKind.wrap_u64] at ea eb
  by_cases ha : a < 0
  · have e1 : ua = a + 18446744073709551616 := by omega
    by_cases hb : b < 0
    · have e2 : ub = b + 18446744073709551616 := by omega
      rw [e1, e2, Int.add_mul, Int.mul_add, Int.mul_add]; simp only [ha, hb, if_true, and_self]; omega
    · have e2 : ub = b := by omega
      rw [e1, e2, Int.add_mul]; simp only [ha, hb, if_true, if_false, and_false]; omega
  · have e1 : ua = a := by omega
    by_cases hb : b < 0
    · have e2 : ub = b + 18446744073709551616 := by omega
      rw [e1, e2, Int.mul_add]; simp only [ha, hb, if_true, if_false, false_and]; omega
    · have e2 : ub = b := by omega
      rw [e1, e2]; simp only [ha, hb, if_false, and_false]; omega
theorem times_core (a b ua ub : Int) (w : World) (a0 : -9223372036854775808 ≤ a) (a1 : a ≤ 9223372036854775807) (b0 : -9223372036854775808 ≤ b) (b1 : b ≤ 9223372036854775807)
   (ea : IntKind.u64.wrap a = ua) (eb : IntKind.u64.wrap b = ub) (ua0 : 0 ≤ ua) (ua1 : ua < 18446744073709551616) (ub0 : 0 ≤ ub) (ub1 : ub < 18446744073709551616) :
    Calls Try.prog 52 #[.int .i64 a, .int .i64 b] w fun e w' => e = .returned (.agg #[.int .i64 (hi64 (a * b)), .int .u64 (lo64 (a * b))]) ∧ ∃ c : Array Value, w' = w.alloc (.cells c 68) := by
  obtain ⟨p0, p1⟩ := prod_b a0 (show a ≤ 9223372036854775808 by omega) b0 (show b ≤ 9223372036854775808 by omega)
  have h := uprod a0 a1 b0 b1 ea eb
  by_cases ha : a < 0
  all_goals by_cases hb : b < 0
  all_goals
      simp only [ha, hb, if_true, if_false, and_true, and_false, Int.add_zero, and_self] at h
      have H := Lib.hid h
      clear h
      go_enter Try.func52, Try.ntmps52
      go_wp2_with (go_at_call 80; refine (mul64 _ _ _ ua0 ua1 ub0 ub1).mono ?_; rintro e w' ⟨rfl, rfl⟩)
      go_returns
      have h := H.out
      generalize ua * ub = P at h ⊢
      refine ⟨retA ?_ ?_, _, rfl⟩
      all_goals simp only [hi64, lo64, wrap64]
      all_goals omega
theorem times_x (a b : Int) (w : World) (a0 : -9223372036854775808 ≤ a) (a1 : a ≤ 9223372036854775807) (b0 : -9223372036854775808 ≤ b) (b1 : b ≤ 9223372036854775807) :
    Calls Try.prog 52 #[.int .i64 a, .int .i64 b] w fun e w' => e = .returned (.agg #[.int .i64 (hi64 (a * b)), .int .u64 (lo64 (a * b))]) ∧ ∃ c : Array Value, w' = w.alloc (.cells c 68) :=
  times_core a b (a % 18446744073709551616) (b % 18446744073709551616) w a0 a1 b0 b1 (IntKind.wrap_u64 _) (IntKind.wrap_u64 _) (by omega) (by omega) (by omega) (by omega)
theorem times_any (a b : Int) (w : World) (a0 : -9223372036854775808 ≤ a) (a1 : a ≤ 9223372036854775807) (b0 : -9223372036854775808 ≤ b) (b1 : b ≤ 9223372036854775807) :
    Calls Try.prog 52 #[.int .i64 a, .int .i64 b] w fun e w' => e = .returned (.agg #[.int .i64 (hi64 (a * b)), .int .u64 (lo64 (a * b))]) ∧ Below w.heap.size w w' :=
  (times_x a b w a0 a1 b0 b1).mono (by rintro e w' ⟨rfl, c, rfl⟩; exact ⟨rfl, by go_grown⟩)
/-- a number of two words as the program has it -/
theorem neg_x (t : Int) (w : World) (h0 : -9223372036854775807 ≤ hi64 t) (h1 : hi64 t ≤ 9223372036854775807) :
    Calls Try.prog 57 #[.agg #[.int .i64 (hi64 t), .int .u64 (lo64 t)]] w fun e w' => e = .returned (.agg #[.int .i64 (hi64 (-t)), .int .u64 (lo64 (-t))]) ∧ ∃ c d : Array Value, w' = (w.alloc (.cells c 68)).alloc (.cells d 68) := by
  obtain ⟨l0, l1⟩ := lo64_b t
  obtain ⟨c0, c1⟩ := bor_01 (lo64 t)
  have e1 := neg_hi t
  have e2 := neg_lo t
  go_enter Try.func57, Try.ntmps57
  go_wp2_with (simp only [sub64_neg _ l0 l1])
  go_returns
  exact ⟨rfl, _, _, rfl⟩
theorem neg_any (t : Int) (w : World) (h0 : -9223372036854775807 ≤ hi64 t) (h1 : hi64 t ≤ 9223372036854775807) :
    Calls Try.prog 57 #[.agg #[.int .i64 (hi64 t), .int .u64 (lo64 t)]] w fun e w' => e = .returned (.agg #[.int .i64 (hi64 (-t)), .int .u64 (lo64 (-t))]) ∧ Below w.heap.size w w' :=
  (neg_x t w h0 h1).mono (by rintro e w' ⟨rfl, c, d, rfl⟩; exact ⟨rfl, by go_grown⟩)
theorem cmp_any (t u : Int) (w : World) :
    Calls Try.prog 82 #[.agg #[.int .i64 (hi64 t), .int .u64 (lo64 t)], .agg #[.int .i64 (hi64 u), .int .u64 (lo64 u)]] w fun e w' => e = .returned (.int .i64 (cmpI t u)) ∧ Below w.heap.size w w' := by
  by_cases h : t = u
  · subst h
    have e : cmpI t t = 0 := by simp [cmpI]
    have H := Lib.hid e
    clear e
    go_enter Try.func82, Try.ntmps82
    go_wp2
    go_returns
    exact ⟨by rw [H.out]; rfl, by go_grown⟩
  · by_cases g : t < u
    · have e : cmpI t u = -1 := by simp [cmpI, h, g]
      have H := Lib.hid e
      have hne : ¬ (hi64 t = hi64 u ∧ lo64 t = lo64 u) := fun ⟨a, b⟩ => h (by rw [← hilo t, ← hilo u, a, b])
      rcases lt_words g with k | ⟨k, k'⟩
      all_goals
        clear h g e
        go_enter Try.func82, Try.ntmps82
        go_wp2
        go_returns
        exact ⟨by rw [H.out]; rfl, by go_grown⟩
    · have e : cmpI t u = 1 := by simp [cmpI, h, g]
      have H := Lib.hid e
      have hne : ¬ (hi64 t = hi64 u ∧ lo64 t = lo64 u) := fun ⟨a, b⟩ => h (by rw [← hilo t, ← hilo u, a, b])
      rcases lt_words (show u < t by omega) with k | ⟨k, k'⟩
      all_goals
        clear h g e
        go_enter Try.func82, Try.ntmps82
        go_wp2
        go_returns
        exact ⟨by rw [H.out]; rfl, by go_grown⟩
theorem made_any (lo hi : Int) (w : World) : Calls Try.prog 51 #[.int .i64 lo, .int .i64 hi] w (G3 w (md lo hi)) := by
  by_cases h1 : lo < -2305843009213693952
  · go_enter Try.func51, Try.ntmps51
    go_wp2
    go_returns
    exact G3_eq (by simp [md, h1]) (by go_grown)
  · by_cases h2 : 2305843009213693952 < hi
    all_goals
      go_enter Try.func51, Try.ntmps51
      go_wp2
      go_returns
      exact G3_eq (by simp [md, h1, h2]) (by go_grown)
set_option maxHeartbeats 2000000 in
theorem least1 (t u0 : Int) (b : Nat) (w : World) (hb : b < w.heap.size) (h0 : w.cell? ⟨b, 0, none⟩ = some (.int .i64 (hi64 u0))) (g0 : w.cell? ⟨b, 1, none⟩ = some (.int .u64 (lo64 u0))) :
    Calls Try.prog 58 #[.agg #[.int .i64 (hi64 t), .int .u64 (lo64 t)], .slice (some ⟨b, 0, none⟩) 1 1] w fun e w' => e = .returned (.agg #[.int .i64 (hi64 (min t u0)), .int .u64 (lo64 (min t u0))]) ∧ Below w.heap.size w w' := by
  go_enter Try.func58, Try.ntmps58
  go_wp2
  refine wp_loop_rounds 2 ?_
  all_goals
    rw [rounds_succ]
    go_wp2_with fail
    refine (cmp_any _ _ _).mono ?_
    rintro e w1 ⟨rfl, hb1⟩
    have z1 := hb1.size
    simp only [World.size_alloc, World.size_setCell] at z1
    have y1 : w.heap.size < w1.heap.size := by omega
    have y1' : w.heap.size + 1 < w1.heap.size := by omega
    have yb1 : b < w1.heap.size := by omega
    have B1 : Below w.heap.size w w1 := Below.trans (by go_grown) (hb1.mono (by go_size))
    obtain ⟨c1, f11⟩ := blk hb1 (b := w.heap.size) (by go_size)
    obtain ⟨c2, f12⟩ := blk hb1 (b := w.heap.size + 1) (by go_size)
    obtain ⟨c4, f14⟩ := blk hb1 (b := w.heap.size + 2) (by go_size)
    have d10 := c1 0
    have d11 := c1 1
    have d12 := c2 0
    have d13 := c2 1
    simp [go_sem] at d10 d11 d12 d13
    clear c1 c2
    go_wp2
  all_goals
    rw [rounds_succ]
    go_wp2
  all_goals refine bodyPost_ret (by simp [results, Try.results58, go_sem, d12, d13]; rfl) rfl ?_
  all_goals refine ⟨?_, by go_grown⟩
  all_goals simp only [Int.not_lt, cmpI_neg, cmpI_pos, cmpI_le, cmpI_ge] at *
  all_goals exact retA (congrArg hi64 (by omega)) (congrArg lo64 (by omega))
set_option maxHeartbeats 2000000 in
theorem least3 (t u0 u1 u2 : Int) (b : Nat) (w : World) (hb : b < w.heap.size) (h0 : w.cell? ⟨b, 2, none⟩ = some (.int .i64 (hi64 u0))) (g0 : w.cell? ⟨b, 3, none⟩ = some (.int .u64 (lo64 u0))) (h1 : w.cell? ⟨b, 4, none⟩ = some (.int .i64 (hi64 u1))) (g1 : w.cell? ⟨b, 5, none⟩ = some (.int .u64 (lo64 u1))) (h2 : w.cell? ⟨b, 6, none⟩ = some (.int .i64 (hi64 u2))) (g2 : w.cell? ⟨b, 7, none⟩ = some (.int .u64 (lo64 u2))) :
    Calls Try.prog 58 #[.agg #[.int .i64 (hi64 t), .int .u64 (lo64 t)], .slice (some ⟨b, 2, none⟩) 3 3] w fun e w' => e = .returned (.agg #[.int .i64 (hi64 (min (min (min t u0) u1) u2)), .int .u64 (lo64 (min (min (min t u0) u1) u2))]) ∧ Below w.heap.size w w' := by
  go_enter Try.func58, Try.ntmps58
  go_wp2
  refine wp_loop_rounds 4 ?_
  all_goals
    rw [rounds_succ]
    go_wp2_with fail
    refine (cmp_any _ _ _).mono ?_
    rintro e w1 ⟨rfl, hb1⟩
    have z1 := hb1.size
    simp only [World.size_alloc, World.size_setCell] at z1
    have y1 : w.heap.size < w1.heap.size := by omega
    have y1' : w.heap.size + 1 < w1.heap.size := by omega
    have yb1 : b < w1.heap.size := by omega
    have B1 : Below w.heap.size w w1 := Below.trans (by go_grown) (hb1.mono (by go_size))
    have e11 := (B1.cell (p := ⟨b, 4, none⟩) hb).trans h1
    have e11' := (B1.cell (p := ⟨b, 5, none⟩) hb).trans g1
    have e12 := (B1.cell (p := ⟨b, 6, none⟩) hb).trans h2
    have e12' := (B1.cell (p := ⟨b, 7, none⟩) hb).trans g2
    obtain ⟨c1, f11⟩ := blk hb1 (b := w.heap.size) (by go_size)
    obtain ⟨c2, f12⟩ := blk hb1 (b := w.heap.size + 1) (by go_size)
    obtain ⟨c4, f14⟩ := blk hb1 (b := w.heap.size + 2) (by go_size)
    have d10 := c1 0
    have d11 := c1 1
    have d12 := c2 0
    have d13 := c2 1
    simp [go_sem] at d10 d11 d12 d13
    clear c1 c2
    go_wp2
  all_goals
    rw [rounds_succ]
    go_wp2_with fail
    refine (cmp_any _ _ _).mono ?_
    rintro e w2 ⟨rfl, hb2⟩
    have z2 := hb2.size
    simp only [World.size_alloc, World.size_setCell] at z2
    have y2 : w.heap.size < w2.heap.size := by omega
    have y2' : w.heap.size + 1 < w2.heap.size := by omega
    have yb2 : b < w2.heap.size := by omega
    have B2 : Below w.heap.size w w2 := Below.trans (by go_grown) (hb2.mono (by go_size))
    have e22 := (B2.cell (p := ⟨b, 6, none⟩) hb).trans h2
    have e22' := (B2.cell (p := ⟨b, 7, none⟩) hb).trans g2
    obtain ⟨c1, f21⟩ := blk hb2 (b := w.heap.size) (by go_size)
    obtain ⟨c2, f22⟩ := blk hb2 (b := w.heap.size + 1) (by go_size)
    obtain ⟨c4, f24⟩ := blk hb2 (b := w1.heap.size) (by go_size)
    have d20 := c1 0
    have d21 := c1 1
    have d22 := c2 0
    have d23 := c2 1
    simp [go_sem, y1, y1', d10, d11, d12, d13] at d20 d21 d22 d23
    clear c1 c2
    go_wp2
  all_goals
    rw [rounds_succ]
    go_wp2_with fail
    refine (cmp_any _ _ _).mono ?_
    rintro e w3 ⟨rfl, hb3⟩
    have z3 := hb3.size
    simp only [World.size_alloc, World.size_setCell] at z3
    have y3 : w.heap.size < w3.heap.size := by omega
    have y3' : w.heap.size + 1 < w3.heap.size := by omega
    have yb3 : b < w3.heap.size := by omega
    have B3 : Below w.heap.size w w3 := Below.trans (by go_grown) (hb3.mono (by go_size))
    obtain ⟨c1, f31⟩ := blk hb3 (b := w.heap.size) (by go_size)
    obtain ⟨c2, f32⟩ := blk hb3 (b := w.heap.size + 1) (by go_size)
    obtain ⟨c4, f34⟩ := blk hb3 (b := w2.heap.size) (by go_size)
    have d30 := c1 0
    have d31 := c1 1
    have d32 := c2 0
    have d33 := c2 1
    simp [go_sem, y2, y2', d20, d21, d22, d23] at d30 d31 d32 d33
    clear c1 c2
    go_wp2
  all_goals
    rw [rounds_succ]
    go_wp2
  all_goals refine bodyPost_ret (by simp [results, Try.results58, go_sem, d32, d33]; rfl) rfl ?_
  all_goals refine ⟨?_, by go_grown⟩
  all_goals simp only [Int.not_lt, cmpI_neg, cmpI_pos, cmpI_le, cmpI_ge] at *
  all_goals exact retA (congrArg hi64 (by omega)) (congrArg lo64 (by omega))
set_option maxHeartbeats 2000000 in
theorem greatest1 (t u0 : Int) (b : Nat) (w : World) (hb : b < w.heap.size) (h0 : w.cell? ⟨b, 0, none⟩ = some (.int .i64 (hi64 u0))) (g0 : w.cell? ⟨b, 1, none⟩ = some (.int .u64 (lo64 u0))) :
    Calls Try.prog 59 #[.agg #[.int .i64 (hi64 t), .int .u64 (lo64 t)], .slice (some ⟨b, 0, none⟩) 1 1] w fun e w' => e = .returned (.agg #[.int .i64 (hi64 (max t u0)), .int .u64 (lo64 (max t u0))]) ∧ Below w.heap.size w w' := by
  go_enter Try.func59, Try.ntmps59
  go_wp2
  refine wp_loop_rounds 2 ?_
  all_goals
    rw [rounds_succ]
    go_wp2_with fail
    refine (cmp_any _ _ _).mono ?_
    rintro e w1 ⟨rfl, hb1⟩
    have z1 := hb1.size
    simp only [World.size_alloc, World.size_setCell] at z1
    have y1 : w.heap.size < w1.heap.size := by omega
    have y1' : w.heap.size + 1 < w1.heap.size := by omega
    have yb1 : b < w1.heap.size := by omega
    have B1 : Below w.heap.size w w1 := Below.trans (by go_grown) (hb1.mono (by go_size))
    obtain ⟨c1, f11⟩ := blk hb1 (b := w.heap.size) (by go_size)
    obtain ⟨c2, f12⟩ := blk hb1 (b := w.heap.size + 1) (by go_size)
    obtain ⟨c4, f14⟩ := blk hb1 (b := w.heap.size + 2) (by go_size)
    have d10 := c1 0
    have d11 := c1 1
    have d12 := c2 0
    have d13 := c2 1
    simp [go_sem] at d10 d11 d12 d13
    clear c1 c2
    go_wp2
  all_goals
    rw [rounds_succ]
    go_wp2
  all_goals refine bodyPost_ret (by simp [results, Try.results59, go_sem, d12, d13]; rfl) rfl ?_
  all_goals refine ⟨?_, by go_grown⟩
  all_goals simp only [Int.not_lt, cmpI_neg, cmpI_pos, cmpI_le, cmpI_ge] at *
  all_goals exact retA (congrArg hi64 (by omega)) (congrArg lo64 (by omega))
set_option maxHeartbeats 2000000 in
theorem greatest3 (t u0 u1 u2 : Int) (b : Nat) (w : World) (hb : b < w.heap.size) (h0 : w.cell? ⟨b, 2, none⟩ = some (.int .i64 (hi64 u0))) (g0 : w.cell? ⟨b, 3, none⟩ = some (.int .u64 (lo64 u0))) (h1 : w.cell? ⟨b, 4, none⟩ = some (.int .i64 (hi64 u1))) (g1 : w.cell? ⟨b, 5, none⟩ = some (.int .u64 (lo64 u1))) (h2 : w.cell? ⟨b, 6, none⟩ = some (.int .i64 (hi64 u2))) (g2 : w.cell? ⟨b, 7, none⟩ = some (.int .u64 (lo64 u2))) :
    Calls Try.prog 59 #[.agg #[.int .i64 (hi64 t), .int .u64 (lo64 t)], .slice (some ⟨b, 2, none⟩) 3 3] w fun e w' => e = .returned (.agg #[.int .i64 (hi64 (max (max (max t u0) u1) u2)), .int .u64 (lo64 (max (max (max t u0) u1) u2))]) ∧ Below w.heap.size w w' := by
  go_enter Try.func59, Try.ntmps59
  go_wp2
  refine wp_loop_rounds 4 ?_
  all_goals
    rw [rounds_succ]
    go_wp2_with fail
    refine (cmp_any _ _ _).mono ?_
    rintro e w1 ⟨rfl, hb1⟩
    have z1 := hb1.size
    simp only [World.size_alloc, World.size_setCell] at z1
    have y1 : w.heap.size < w1.heap.size := by omega
    have y1' : w.heap.size + 1 < w1.heap.size := by omega
    have yb1 : b < w1.heap.size := by omega
    have B1 : Below w.heap.size w w1 := Below.trans (by go_grown) (hb1.mono (by go_size))
    have e11 := (B1.cell (p := ⟨b, 4, none⟩) hb).trans h1
    have e11' := (B1.cell (p := ⟨b, 5, none⟩) hb).trans g1
    have e12 := (B1.cell (p := ⟨b, 6, none⟩) hb).trans h2
    have e12' := (B1.cell (p := ⟨b, 7, none⟩) hb).trans g2
    obtain ⟨c1, f11⟩ := blk hb1 (b := w.heap.size) (by go_size)
    obtain ⟨c2, f12⟩ := blk hb1 (b := w.heap.size + 1) (by go_size)
    obtain ⟨c4, f14⟩ := blk hb1 (b := w.heap.size + 2) (by go_size)
    have d10 := c1 0
    have d11 := c1 1
    have d12 := c2 0
    have d13 := c2 1
    simp [go_sem] at d10 d11 d12 d13
    clear c1 c2
    go_wp2
  all_goals
    rw [rounds_succ]
    go_wp2_with fail
    refine (cmp_any _ _ _).mono ?_
    rintro e w2 ⟨rfl, hb2⟩
    have z2 := hb2.size
    simp only [World.size_alloc, World.size_setCell] at z2
    have y2 : w.heap.size < w2.heap.size := by omega
    have y2' : w.heap.size + 1 < w2.heap.size := by omega
    have yb2 : b < w2.heap.size := by omega
    have B2 : Below w.heap.size w w2 := Below.trans (by go_grown) (hb2.mono (by go_size))
    have e22 := (B2.cell (p := ⟨b, 6, none⟩) hb).trans h2
    have e22' := (B2.cell (p := ⟨b, 7, none⟩) hb).trans g2
    obtain ⟨c1, f21⟩ := blk hb2 (b := w.heap.size) (by go_size)
    obtain ⟨c2, f22⟩ := blk hb2 (b := w.heap.size + 1) (by go_size)
    obtain ⟨c4, f24⟩ := blk hb2 (b := w1.heap.size) (by go_size)
    have d20 := c1 0
    have d21 := c1 1
    have d22 := c2 0
    have d23 := c2 1
    simp [go_sem, y1, y1', d10, d11, d12, d13] at d20 d21 d22 d23
    clear c1 c2
    go_wp2
  all_goals
    rw [rounds_succ]
    go_wp2_with fail
    refine (cmp_any _ _ _).mono ?_
    rintro e w3 ⟨rfl, hb3⟩
    have z3 := hb3.size
    simp only [World.size_alloc, World.size_setCell] at z3
    have y3 : w.heap.size < w3.heap.size := by omega
    have y3' : w.heap.size + 1 < w3.heap.size := by omega
    have yb3 : b < w3.heap.size := by omega
    have B3 : Below w.heap.size w w3 := Below.trans (by go_grown) (hb3.mono (by go_size))
    obtain ⟨c1, f31⟩ := blk hb3 (b := w.heap.size) (by go_size)
    obtain ⟨c2, f32⟩ := blk hb3 (b := w.heap.size + 1) (by go_size)
    obtain ⟨c4, f34⟩ := blk hb3 (b := w2.heap.size) (by go_size)
    have d30 := c1 0
    have d31 := c1 1
    have d32 := c2 0
    have d33 := c2 1
    simp [go_sem, y2, y2', d20, d21, d22, d23] at d30 d31 d32 d33
    clear c1 c2
    go_wp2
  all_goals
    rw [rounds_succ]
    go_wp2
  all_goals refine bodyPost_ret (by simp [results, Try.results59, go_sem, d32, d33]; rfl) rfl ?_
  all_goals refine ⟨?_, by go_grown⟩
  all_goals simp only [Int.not_lt, cmpI_neg, cmpI_pos, cmpI_le, cmpI_ge] at *
  all_goals exact retA (congrArg hi64 (by omega)) (congrArg lo64 (by omega))
