import Derived.Test.YtalnlnpnacfdfaaGreatCDiv64
import Derived.Deep.RegionHeld3
import Derived.Deep.DeepCutAuto
import Derived.Deep.DeepMust
namespace Go.Proofs.YtalnlnpnacfdfaaGreat
open Go.RowKit
theorem down_any (t d : Int) (w : World) (h0 : -85070591730234615865843651857942052864 ≤ t) (h1 : t ≤ 85070591730234615865843651857942052864) (hd : 0 < d) (hd2 : d < 18446744073709551616) :
    Calls Tryz.prog 35 #[.agg #[.int .i64 (hi64 t), .int .u64 (lo64 t)], .int .u64 d] w fun e w' => e = .returned (.int .i64 (dn t d)) ∧ Below w.heap.size w w' := by
  by_cases ht : 0 ≤ t
  · exact down0 t d w ht (by omega) hd hd2
  · obtain ⟨g0, g1⟩ := hi64_b h0 h1
    have g2 := hi64_neg (show t < 0 by omega)
    have H : Hid (upq (-t) d = - dn t d) := by show upq (-t) d = - dn t d; unfold upq; rw [Int.neg_neg]
    obtain ⟨u0, u1⟩ := upq_b (-t) d
    go_enter Tryz.func35, Tryz.ntmps35
    go_wp2_with fail
    refine (neg_any t _ (by omega) (by omega)).mono ?_
    rintro e w1 ⟨rfl, hb1⟩
    have B1 : Below w.heap.size w w1 := Below.trans (by go_grown) (hb1.mono (by go_size))
    go_wp2_with fail
    refine (up0 (-t) d _ (by omega) (by omega) hd hd2).mono ?_
    rintro e w2 ⟨rfl, hb2⟩
    have z1 := B1.size
    have B2 : Below w.heap.size w w2 := Below.trans (by go_grown) (hb2.mono (by go_size))
    go_wp2
    go_returns
    exact ⟨retI (by rw [H.out]; omega), B2⟩
theorem up_any (t d : Int) (w : World) (h0 : -85070591730234615865843651857942052864 ≤ t) (h1 : t ≤ 85070591730234615865843651857942052864) (hd : 0 < d) (hd2 : d < 18446744073709551616) :
    Calls Tryz.prog 37 #[.agg #[.int .i64 (hi64 t), .int .u64 (lo64 t)], .int .u64 d] w fun e w' => e = .returned (.int .i64 (upq t d)) ∧ Below w.heap.size w w' := by
  by_cases ht : 0 ≤ t
  · exact up0 t d w ht (by omega) hd hd2
  · obtain ⟨g0, g1⟩ := hi64_b h0 h1
    have g2 := hi64_neg (show t < 0 by omega)
    have H : Hid (upq t d = - dn (-t) d) := rfl
    obtain ⟨u0, u1⟩ := dn_b (-t) d
    go_enter Tryz.func37, Tryz.ntmps37
    go_wp2_with fail
    refine (neg_any t _ (by omega) (by omega)).mono ?_
    rintro e w1 ⟨rfl, hb1⟩
    have B1 : Below w.heap.size w w1 := Below.trans (by go_grown) (hb1.mono (by go_size))
    go_wp2_with fail
    refine (down0 (-t) d _ (by omega) (by omega) hd hd2).mono ?_
    rintro e w2 ⟨rfl, hb2⟩
    have z1 := B1.size
    have B2 : Below w.heap.size w w2 := Below.trans (by go_grown) (hb2.mono (by go_size))
    go_wp2
    go_returns
    exact ⟨retI (by rw [H.out]), B2⟩
theorem isqrt_of {r n : Int} (h0 : 0 ≤ r) (h1 : r * r ≤ n) (h2 : n < (r + 1) * (r + 1)) : isqrt n = r := by
  obtain ⟨r, rfl⟩ := Int.eq_ofNat_of_zero_le h0
  have hn : 0 ≤ n := Int.le_trans (Int.mul_nonneg h0 h0) h1
  obtain ⟨n, rfl⟩ := Int.eq_ofNat_of_zero_le hn
  have a1 := Nat.sqrt_le n
  have a2 : n < (n.sqrt + 1) * (n.sqrt + 1) := Nat.lt_succ_sqrt n
  have h1 : r * r ≤ n := by exact_mod_cast h1
  have h2 : n < (r + 1) * (r + 1) := by exact_mod_cast h2
  unfold isqrt
  simp only [Int.toNat_natCast]
  congr 1
  have k1 : r < n.sqrt + 1 := by
    rcases Nat.lt_or_ge r (n.sqrt + 1) with h | h
    · exact h
    · have := Nat.mul_le_mul h h; omega
  have k2 : n.sqrt < r + 1 := by
    rcases Nat.lt_or_ge n.sqrt (r + 1) with h | h
    · exact h
    · have := Nat.mul_le_mul h h; omega
  omega
theorem root_any (x : Int) (w : World) (h0 : 0 ≤ x) (h1 : x ≤ 2305843009213693952) :
    Calls Tryz.prog 40 #[.int .i64 x] w fun e w' => e = .returned (.int .i64 (isqrt (x * 1099511627776))) ∧ Below w.heap.size w w' := by
  generalize hT : x * 1099511627776 = T
  have t0 : 0 ≤ T := by omega
  have t1 : T ≤ 2535301200456458802993406410752 := by omega
  go_enter Tryz.func40, Tryz.ntmps40
  go_wp2_with fail
  refine (times_any _ _ _ (by omega) (by omega) (by omega) (by omega)).mono ?_
  rintro e w1 ⟨rfl, hb1⟩
  have B1 : Below w.heap.size w w1 := Below.trans (by go_grown) (hb1.mono (by go_size))
  have z1 := B1.size
  have z1' : w.heap.size ≤ w1.heap.size := z1
  rw [hT]
  go_wp2
  go_loopw [4, 5] (fun v4 v5 wr => ∃ lo hi : Int, (0 ≤ lo ∧ lo < hi ∧ hi ≤ 4503599627370496 ∧ lo * lo ≤ T ∧ T < hi * hi) ∧ v4 = .int .i64 lo ∧ v5 = .int .i64 hi ∧
      (wr.cell? ⟨w1.heap.size, 0, none⟩ = some (.int .i64 (hi64 T)) ∧ wr.cell? ⟨w1.heap.size, 1, none⟩ = some (.int .u64 (lo64 T))) ∧ Below w.heap.size w wr ∧ w1.heap.size < wr.heap.size) (fun v4 v5 _ => (intOf v5 - intOf v4).toNat)
  case atStart => exact ⟨0, _, ⟨by omega, by omega, by omega, by omega, by omega⟩, rfl, rfl, ⟨by simp, by simp⟩, by go_grown, by simp⟩
  case round =>
    obtain ⟨lo, hi, ⟨l0, l1, l2, l3, l4⟩, rfl, rfl, ⟨c0, c1⟩, B2, z2⟩ := hrel
    by_cases hgt : 1 < hi - lo
    · have m0 : 0 ≤ (lo + hi) / 2 := by omega
      have m1 : lo < (lo + hi) / 2 := by omega
      have m2 : (lo + hi) / 2 < hi := by omega
      go_wp2
      go_region_held3 (fun w' => w'.cell? ⟨w1.heap.size, 0, none⟩ = some (.int .i64 (hi64 T)) ∧ w'.cell? ⟨w1.heap.size, 1, none⟩ = some (.int .u64 (lo64 T)) ∧ Below w.heap.size w w' ∧ w1.heap.size < w'.heap.size)
        (first | exact ⟨c0, c1, Below.drew B2, z2⟩ | (refine ⟨?_, ?_, ?_, ?_⟩ <;> assumption))
        (first
          | (go_at_call 33; refine (times_any _ _ _ (by omega) (by omega) (by omega) (by omega)).mono ?_; rintro e w2 ⟨rfl, hb2⟩; go_must (obtain ⟨q1, q2, q3, q4⟩ := (show _ ∧ _ ∧ Below w.heap.size w _ ∧ w1.heap.size < _ by assumption); have k1 := (hb2.cell (p := ⟨w1.heap.size, 0, none⟩) q4).trans q1; have k2 := (hb2.cell (p := ⟨w1.heap.size, 1, none⟩) q4).trans q2; have k3 := hb2.size; have k4 := Nat.lt_of_lt_of_le q4 k3; have k5 := Below.trans q3 (hb2.mono q3.size)))
          | (go_at_call 60; refine (cmp_any _ _ _).mono ?_; rintro e w3 ⟨rfl, hb3⟩; go_must (obtain ⟨q1, q2, q3, q4⟩ := (show _ ∧ _ ∧ Below w.heap.size w _ ∧ w1.heap.size < _ by assumption); have k1 := (hb3.cell (p := ⟨w1.heap.size, 0, none⟩) q4).trans q1; have k2 := (hb3.cell (p := ⟨w1.heap.size, 1, none⟩) q4).trans q2; have k3 := hb3.size; have k4 := Nat.lt_of_lt_of_le q4 k3; have k5 := Below.trans q3 (hb3.mono q3.size))))
      rename_i hS
      obtain ⟨q1, q2, q3, q4⟩ := hS
      go_wp2
      all_goals simp only [cmpI_le, cmpI_pos] at *
      · exact ⟨⟨_, _, ⟨by omega, by omega, by omega, by assumption, l4⟩, rfl, rfl, ⟨q1, q2⟩, q3, q4⟩, by simp [intOf]; omega⟩
      · exact ⟨⟨_, _, ⟨by omega, by omega, by omega, l3, by assumption⟩, rfl, rfl, ⟨q1, q2⟩, q3, q4⟩, by simp [intOf]; omega⟩
    · have hh : hi = lo + 1 := by omega
      subst hh
      have H := Lib.hid (isqrt_of l0 l3 l4)
      go_wp2
      go_returns
      exact ⟨by rw [H.out]; rfl, B2⟩
end Go.Proofs.YtalnlnpnacfdfaaGreat
