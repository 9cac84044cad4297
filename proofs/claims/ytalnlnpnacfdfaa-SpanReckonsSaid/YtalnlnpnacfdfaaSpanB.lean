import Derived.Test.YtalnlnpnacfdfaaSpanA
namespace Go.Proofs.Ytalnlnpnacfdfaa
open Go.RowKit
theorem div64_t (t d : Int) (w : World) (h0 : 0 ≤ t) (h1 : hi64 t < d) (h2 : d < 18446744073709551616) :
    Calls Try.prog 81 #[.int .u64 (hi64 t), .int .u64 (lo64 t), .int .u64 d] w fun e w' => e = .returned (.tuple #[.int .u64 (t / d), .int .u64 (t % d)]) ∧ Below w.heap.size w w' := by
  have h := div64 (hi64 t) (lo64 t) d w (hi64_nonneg h0) h1 h2 (lo64_b t).1 (lo64_b t).2
  rwa [hilo] at h
theorem down0 (t d : Int) (w : World) (h0 : 0 ≤ t) (h1 : t < 170141183460469231731687303715884105728) (hd : 0 < d) (hd2 : d < 18446744073709551616) :
    Calls Try.prog 53 #[.agg #[.int .i64 (hi64 t), .int .u64 (lo64 t)], .int .u64 d] w fun e w' => e = .returned (.int .i64 (dn t d)) ∧ Below w.heap.size w w' := by
  have g0 := hi64_nonneg h0
  have g1 : hi64 t ≤ 9223372036854775807 := by unfold hi64; omega
  have q0 := Int.ediv_nonneg h0 (Int.le_of_lt hd)
  by_cases h : d ≤ hi64 t
  · have H := Lib.hid (dn_big hd h0 h)
    go_enter Try.func53, Try.ntmps53
    go_wp2
    go_returns
    exact ⟨by rw [H.out]; rfl, by go_grown⟩
  · have H := Lib.hid (dn_small hd h0)
    go_enter Try.func53, Try.ntmps53
    go_wp2_with fail
    refine (div64_t t d _ h0 (by omega) hd2).mono ?_
    rintro e w1 ⟨rfl, hb1⟩
    have B1 : Below w.heap.size w w1 := Below.trans (by go_grown) (hb1.mono (by go_size))
    go_wp2
    all_goals go_returns
    all_goals exact ⟨retI (by rw [H.out]; omega), B1⟩
theorem up0 (t d : Int) (w : World) (h0 : 0 ≤ t) (h1 : t < 170141183460469231731687303715884105728) (hd : 0 < d) (hd2 : d < 18446744073709551616) :
    Calls Try.prog 54 #[.agg #[.int .i64 (hi64 t), .int .u64 (lo64 t)], .int .u64 d] w fun e w' => e = .returned (.int .i64 (upq t d)) ∧ Below w.heap.size w w' := by
  have g0 := hi64_nonneg h0
  have g1 : hi64 t ≤ 9223372036854775807 := by unfold hi64; omega
  have q0 := Int.ediv_nonneg h0 (Int.le_of_lt hd)
  by_cases h : d ≤ hi64 t
  · have H := Lib.hid (upq_big hd h0 h)
    go_enter Try.func54, Try.ntmps54
    go_wp2
    go_returns
    exact ⟨by rw [H.out]; rfl, by go_grown⟩
  · have H := Lib.hid (upq_small hd h0)
    go_enter Try.func54, Try.ntmps54
    go_wp2_with fail
    refine (div64_t t d _ h0 (by omega) hd2).mono ?_
    rintro e w1 ⟨rfl, hb1⟩
    have B1 : Below w.heap.size w w1 := Below.trans (by go_grown) (hb1.mono (by go_size))
    go_wp2
    all_goals go_returns
    all_goals exact ⟨retI (by rw [H.out]; split <;> omega), B1⟩
