import Derived.Test.YtalnlnpnacfdfaaGreatCBits
namespace Go.Proofs.YtalnlnpnacfdfaaGreat
open Go.RowKit
def Est (U1 u yn1 yn0 q r : Int) : Prop :=
  0 ≤ q ∧ q ≤ 4294967297 ∧ r = U1 - q * yn1 ∧ 0 ≤ r ∧ r ≤ 4294967295 ∧ U1 * 4294967296 + u < (q * yn1) * 4294967296 + q * yn0 + yn1 * 4294967296 + yn0
def FinQ (U1 u yn1 yn0 q : Int) : Prop :=
  0 ≤ q ∧ q ≤ 4294967295 ∧ (q * yn1) * 4294967296 + q * yn0 ≤ U1 * 4294967296 + u ∧ U1 * 4294967296 + u < (q * yn1) * 4294967296 + q * yn0 + yn1 * 4294967296 + yn0
section
variable {U1 u yn1 yn0 q r : Int}
theorem est_start (b1 : 2147483648 ≤ yn1) (b2 : yn1 ≤ 4294967295) (b3 : 0 ≤ yn0) (b4 : yn0 ≤ 4294967295) (b5 : 0 ≤ u) (b6 : u ≤ 4294967295) (b9 : 0 ≤ U1) (b10 : U1 < yn1 * 4294967296 + yn0) :
    Est U1 u yn1 yn0 (U1 / yn1) (U1 - U1 / yn1 * yn1) ∧ U1 / yn1 * yn1 ≤ U1 ∧ 0 ≤ U1 / yn1 * yn1 := by
  have hd := Int.emod_add_mul_ediv U1 yn1
  have hm0 := Int.emod_nonneg U1 (show yn1 ≠ 0 by omega)
  have hm1 := Int.emod_lt_of_pos U1 (show 0 < yn1 by omega)
  have hq0 : 0 ≤ U1 / yn1 := Int.ediv_nonneg b9 (by omega)
  rw [Int.mul_comm] at hd
  have hq1 : U1 / yn1 ≤ 4294967297 := by
    rcases Int.lt_or_le 4294967297 (U1 / yn1) with h | h
    · exfalso
      have : 4294967298 * yn1 ≤ U1 / yn1 * yn1 := Int.mul_le_mul_of_nonneg_right (by omega) (by omega)
      omega
    · exact h
  have hp : 0 ≤ U1 / yn1 * yn0 := Int.mul_nonneg hq0 b3
  refine ⟨⟨hq0, hq1, rfl, by omega, by omega, by omega⟩, by omega, Int.mul_nonneg hq0 (by omega)⟩
theorem est_bound (b3 : 0 ≤ yn0) (b4 : yn0 ≤ 4294967295) (h : Est U1 u yn1 yn0 q r) : 0 ≤ q ∧ q ≤ 4294967297 ∧ 0 ≤ r ∧ r ≤ 4294967295 ∧ 0 ≤ q * yn0 ∧ q * yn0 ≤ 18446744073709551615 := by
  obtain ⟨h1, h2, h3, h4, h5, h6⟩ := h
  have := Int.mul_le_mul h2 b4 b3 (by omega)
  exact ⟨h1, h2, h4, h5, Int.mul_nonneg h1 b3, by omega⟩
theorem est_next (b1 : 2147483648 ≤ yn1) (b2 : yn1 ≤ 4294967295) (b3 : 0 ≤ yn0) (b4 : yn0 ≤ 4294967295) (b5 : 0 ≤ u) (b6 : u ≤ 4294967295) (b9 : 0 ≤ U1) (b10 : U1 < yn1 * 4294967296 + yn0)
    (h : Est U1 u yn1 yn0 q r) (t : 4294967296 ≤ q ∨ 4294967296 * r + u < q * yn0) : 1 ≤ q ∧ U1 * 4294967296 + u < (q * yn1) * 4294967296 + q * yn0 := by
  obtain ⟨h1, h2, h3, h4, h5, h6⟩ := h
  have hq : 1 ≤ q := by
    rcases t with t | t
    · omega
    · rcases Int.lt_or_le q 1 with g | g
      · obtain rfl : q = 0 := by omega
        simp at t; omega
      · exact g
  refine ⟨hq, ?_⟩
  rcases t with t | t
  · have e1 : 4294967296 * yn1 ≤ q * yn1 := Int.mul_le_mul_of_nonneg_right t (by omega)
    have e2 : 4294967296 * yn0 ≤ q * yn0 := Int.mul_le_mul_of_nonneg_right t (by omega)
    omega
  · omega
theorem est_less (b1 : 2147483648 ≤ yn1) (b2 : yn1 ≤ 4294967295) (b3 : 0 ≤ yn0) (b4 : yn0 ≤ 4294967295) (b5 : 0 ≤ u) (b6 : u ≤ 4294967295) (b9 : 0 ≤ U1) (b10 : U1 < yn1 * 4294967296 + yn0)
    (h : Est U1 u yn1 yn0 q r) (t : 4294967296 ≤ q ∨ 4294967296 * r + u < q * yn0) (hr : r + yn1 ≤ 4294967295) : Est U1 u yn1 yn0 (q - 1) (r + yn1) := by
  obtain ⟨hq, hu⟩ := est_next b1 b2 b3 b4 b5 b6 b9 b10 h t
  obtain ⟨h1, h2, h3, h4, h5, h6⟩ := h
  have e1 : (q - 1) * yn1 = q * yn1 - yn1 := by rw [Int.sub_mul, Int.one_mul]
  have e2 : (q - 1) * yn0 = q * yn0 - yn0 := by rw [Int.sub_mul, Int.one_mul]
  unfold Est
  rw [e1, e2]
  omega
theorem est_break (b1 : 2147483648 ≤ yn1) (b2 : yn1 ≤ 4294967295) (b3 : 0 ≤ yn0) (b4 : yn0 ≤ 4294967295) (b5 : 0 ≤ u) (b6 : u ≤ 4294967295) (b9 : 0 ≤ U1) (b10 : U1 < yn1 * 4294967296 + yn0)
    (h : Est U1 u yn1 yn0 q r) (t : 4294967296 ≤ q ∨ 4294967296 * r + u < q * yn0) (hr : 4294967296 ≤ r + yn1) : FinQ U1 u yn1 yn0 (q - 1) := by
  obtain ⟨hq, hu⟩ := est_next b1 b2 b3 b4 b5 b6 b9 b10 h t
  obtain ⟨h1, h2, h3, h4, h5, h6⟩ := h
  have e1 : (q - 1) * yn1 = q * yn1 - yn1 := by rw [Int.sub_mul, Int.one_mul]
  have e2 : (q - 1) * yn0 = q * yn0 - yn0 := by rw [Int.sub_mul, Int.one_mul]
  have hq3 : q - 1 ≤ 4294967295 := by
    rcases Int.lt_or_le 4294967295 (q - 1) with g | g
    · exfalso
      have : 4294967296 * yn1 ≤ (q - 1) * yn1 := Int.mul_le_mul_of_nonneg_right (by omega) (by omega)
      omega
    · exact g
  have : (q - 1) * yn0 ≤ 4294967295 * 4294967295 := Int.mul_le_mul hq3 b4 b3 (by omega)
  unfold FinQ
  rw [e1, e2]
  omega
theorem est_end (h : Est U1 u yn1 yn0 q r) (t1 : q < 4294967296) (t2 : q * yn0 ≤ 4294967296 * r + u) : FinQ U1 u yn1 yn0 q := by
  obtain ⟨h1, h2, h3, h4, h5, h6⟩ := h
  unfold FinQ
  omega
end

theorem wrap_u64_in (x : Int) (h0 : 0 ≤ x) (h1 : x < 18446744073709551616) : IntKind.u64.wrap x = x := by rw [IntKind.wrap_u64]; omega
theorem rest_of {U1 u yn1 yn0 q Y : Int} (hY : Y = yn1 * 4294967296 + yn0) (b1 : 2147483648 ≤ yn1) (b2 : yn1 ≤ 4294967295) (b3 : 0 ≤ yn0) (b4 : yn0 ≤ 4294967295) (h : FinQ U1 u yn1 yn0 q) :
    ∃ v, IntKind.u64.wrap (IntKind.u64.wrap (IntKind.u64.wrap (U1 * 4294967296) + u) - IntKind.u64.wrap (q * Y)) = v ∧ 0 ≤ v ∧ v < yn1 * 4294967296 + yn0 ∧ Hid (v = U1 * 4294967296 + u - q * Y) := by
  obtain ⟨h1, h2, h3, h4⟩ := h
  have e : q * Y = q * yn1 * 4294967296 + q * yn0 := by rw [hY, Int.mul_add, Int.mul_assoc]
  refine ⟨U1 * 4294967296 + u - q * Y, ?_, by omega, by omega, rfl⟩
  simp only [IntKind.wrap_u64]
  omega
theorem div_fin {N y k2 Y q R : Int} (hk : 0 < k2) (hY : Y = y * k2) (h : N * k2 = q * Y + R) (h0 : 0 ≤ R) (h1 : R < Y) (hy : 0 < y) : q = N / y ∧ R / k2 = N % y := by
  have e : R = k2 * (N - q * y) := by rw [hY] at h; rw [Int.mul_sub, Int.mul_comm k2 N, h, Int.mul_comm k2 (q * y), Int.mul_assoc]; omega
  have e2 : R / k2 = N - q * y := by rw [e]; exact Int.mul_ediv_cancel_left _ (by omega)
  have g0 : 0 ≤ N - q * y := by
    rcases Int.lt_or_le (N - q * y) 0 with g | g
    · exfalso
      have := Int.mul_neg_of_pos_of_neg hk g
      omega
    · exact g
  have g1 : N - q * y < y := by
    rcases Int.lt_or_le (N - q * y) y with g | g
    · exact g
    · exfalso
      have := Int.mul_le_mul_of_nonneg_left g (Int.le_of_lt hk)
      rw [Int.mul_comm k2 y] at this
      omega
  have e3 : N = (N - q * y) + y * q := by rw [Int.mul_comm y q]; omega
  constructor
  · rw [e3, Int.add_mul_ediv_left _ _ (by omega), Int.ediv_eq_zero_of_lt g0 g1]; omega
  · rw [e2, e3, Int.add_mul_emod_self_left, Int.emod_eq_of_lt (by omega) (by omega)]; omega

theorem fin_all {hi lo y : Int} {k : Nat} {un32 un1 un0 yn1 yn0 qf q0 v Y : Int} (b1 : 2147483648 ≤ yn1) (b2 : yn1 ≤ 4294967295) (b3 : 0 ≤ yn0) (b4 : yn0 ≤ 4294967295) (hy : 0 < y)
    (hY : Y = yn1 * 4294967296 + yn0) (hYy : Y = y * 2 ^ k) (hN : (hi * 18446744073709551616 + lo) * 2 ^ k = (un32 * 4294967296 + un1) * 4294967296 + un0)
    (hF : FinQ un32 un1 yn1 yn0 qf) (hv : v = un32 * 4294967296 + un1 - qf * Y) (hF0 : FinQ v un0 yn1 yn0 q0) :
    ∃ R, IntKind.u64.wrap (IntKind.u64.wrap (IntKind.u64.wrap (v * 4294967296) + un0) - IntKind.u64.wrap (q0 * Y)) = R ∧ 0 ≤ qf ∧ qf ≤ 4294967295 ∧ 0 ≤ q0 ∧ q0 ≤ 4294967295 ∧ 0 ≤ R ∧ R < 18446744073709551616 ∧
      Hid (qf * 4294967296 + q0 = (hi * 18446744073709551616 + lo) / y ∧ R / 2 ^ k = (hi * 18446744073709551616 + lo) % y) := by
  obtain ⟨R, eR, r0, r1, hR⟩ := rest_of hY b1 b2 b3 b4 hF0
  obtain ⟨f1, f2, _, _⟩ := hF
  obtain ⟨g1, g2, _, _⟩ := hF0
  have hR' : R = v * 4294967296 + un0 - q0 * Y := hR
  refine ⟨R, eR, f1, f2, g1, g2, r0, by omega, ?_⟩
  refine div_fin (k2 := 2 ^ k) (Y := Y) (Int.pow_pos (by omega)) hYy ?_ r0 (by omega) hy
  have e : (qf * 4294967296 + q0) * Y = qf * Y * 4294967296 + q0 * Y := by rw [Int.add_mul, Int.mul_right_comm]
  rw [hN, e, hR', hv]
  omega

set_option maxRecDepth 100000 in
set_option maxHeartbeats 8000000 in
theorem div64_core (hi lo y : Int) (k : Nat) (Y yn1 yn0 un32 un10 un1 un0 : Int) (w : World) (h0 : 0 < hi) (h1 : hi < y) (h2 : y < 18446744073709551616) (h3 : 0 ≤ lo) (h4 : lo < 18446744073709551616)
   (hs : (k : Int) = 64 - (bitLen y.toNat : Nat)) (hs1 : k < 64)
   (eY : IntKind.u64.wrap (y * 2 ^ k) = Y) (eyn1 : Y / 4294967296 = yn1) (eyn0 : bits .and .u64 Y 4294967295 = yn0)
   (eU : bits .or .u64 (IntKind.u64.wrap (hi * 2 ^ k)) (lo / 2 ^ (64 - k)) = un32) (eL : IntKind.u64.wrap (lo * 2 ^ k) = un10)
   (eL1 : un10 / 4294967296 = un1) (eL0 : bits .and .u64 un10 4294967295 = un0)
   (b1 : 2147483648 ≤ yn1) (b2 : yn1 ≤ 4294967295) (b3 : 0 ≤ yn0) (b4 : yn0 ≤ 4294967295) (b5 : 0 ≤ un1) (b6 : un1 ≤ 4294967295) (b7 : 0 ≤ un0) (b8 : un0 ≤ 4294967295) (b9 : 0 ≤ un32) (b10 : un32 < yn1 * 4294967296 + yn0)
   (hY : Y = yn1 * 4294967296 + yn0) (hYy : Y = y * 2 ^ k) (hN : (hi * 18446744073709551616 + lo) * 2 ^ k = (un32 * 4294967296 + un1) * 4294967296 + un0) :
    Calls Tryz.prog 61 #[.int .u64 hi, .int .u64 lo, .int .u64 y] w fun e w' => e = .returned (.tuple #[.int .u64 ((hi * 18446744073709551616 + lo) / y), .int .u64 ((hi * 18446744073709551616 + lo) % y)]) ∧ w = w' := by
  obtain ⟨hst, hsp, hsn⟩ := est_start b1 b2 b3 b4 b5 b6 b9 b10
  have H := Lib.hid hs
  have HS := Lib.hid hst
  have HY := Lib.hid hY
  have HYy := Lib.hid hYy
  have HN := Lib.hid hN
  clear hs hst hY hYy hN
  go_enter Tryz.func61, Tryz.ntmps61
  go_wp2_with (go_at_call 82; refine (lz64 _ _ (by omega) h2).mono ?_; rw [← H.out]; rintro e w' ⟨rfl, rfl⟩)
  go_loop [15, 16] (fun v15 v16 => ∃ q r : Int, Est un32 un1 yn1 yn0 q r ∧ v15 = .int .u64 q ∧ v16 = .int .u64 r) (fun v15 _ => (intOf v15).toNat)
  case atStart =>
    exact ⟨_, _, HS.out, rfl, rfl⟩
  case round =>
    obtain ⟨q, r, hE, rfl, rfl⟩ := hrel
    obtain ⟨c1, c2, c3, c4, c5, c6⟩ := est_bound b3 b4 hE
    clear H HS
    by_cases t : 4294967296 ≤ q ∨ 4294967296 * r + un1 < q * yn0
    · obtain ⟨q1, _⟩ := est_next b1 b2 b3 b4 b5 b6 b9 b10 hE t
      by_cases tb : r + yn1 ≤ 4294967295
      · have HL := Lib.hid (est_less b1 b2 b3 b4 b5 b6 b9 b10 hE t tb)
        rcases t with t | t
        · go_wp2
          exact ⟨⟨_, _, HL.out, rfl, rfl⟩, by simp [intOf]; omega⟩
        · by_cases t1 : 4294967296 ≤ q
          · go_wp2
            exact ⟨⟨_, _, HL.out, rfl, rfl⟩, by simp [intOf]; omega⟩
          · go_wp2
            exact ⟨⟨_, _, HL.out, rfl, rfl⟩, by simp [intOf]; omega⟩
      · have hF := est_break b1 b2 b3 b4 b5 b6 b9 b10 hE t (by omega)
        obtain ⟨v, ev, v0, v1, hv⟩ := rest_of HY.out b1 b2 b3 b4 hF
        obtain ⟨hst', hsp', hsn'⟩ := est_start b1 b2 b3 b4 b7 b8 v0 v1
        have HS := Lib.hid hst'
        clear hst'
        have tt : 4294967296 ≤ q ∨ (¬ 4294967296 ≤ q ∧ 4294967296 * r + un1 < q * yn0) := by omega
        clear t
        rcases tt with t | ⟨t, t'⟩
        all_goals
          go_wp2
          go_loop [18, 16] (fun v18 v16 => ∃ q0 r0 : Int, Est v un0 yn1 yn0 q0 r0 ∧ v18 = .int .u64 q0 ∧ v16 = .int .u64 r0) (fun v18 _ => (intOf v18).toNat)
          case atStart => exact ⟨_, _, HS.out, rfl, rfl⟩
          case round =>
            obtain ⟨q0, r0, hE0, rfl, rfl⟩ := hrel
            obtain ⟨d1, d2, d3, d4, d5, d6⟩ := est_bound b3 b4 hE0
            clear HS
            by_cases u : 4294967296 ≤ q0 ∨ 4294967296 * r0 + un0 < q0 * yn0
            · obtain ⟨p1, _⟩ := est_next b1 b2 b3 b4 b7 b8 v0 v1 hE0 u
              have uu : 4294967296 ≤ q0 ∨ (¬ 4294967296 ≤ q0 ∧ 4294967296 * r0 + un0 < q0 * yn0) := by omega
              by_cases ub : r0 + yn1 ≤ 4294967295
              · have HL := Lib.hid (est_less b1 b2 b3 b4 b7 b8 v0 v1 hE0 u ub)
                clear u
                rcases uu with u | ⟨u, u'⟩
                all_goals
                  go_wp2
                  exact ⟨⟨_, _, HL.out, rfl, rfl⟩, by simp [intOf]; omega⟩
              · have hF0 := est_break b1 b2 b3 b4 b7 b8 v0 v1 hE0 u (by omega)
                obtain ⟨R, eR, k1, k2, k3, k4, k5, k6, HR⟩ := fin_all b1 b2 b3 b4 (by omega) HY.out HYy.out HN.out hF hv hF0
                clear u
                rcases uu with u | ⟨u, u'⟩
                all_goals
                  go_wp2
                  go_ret2
                  exact ⟨ret2I HR.out.1 HR.out.2, rfl⟩
            · have u1 : ¬ 4294967296 ≤ q0 := by omega
              have u2 : ¬ 4294967296 * r0 + un0 < q0 * yn0 := by omega
              have hF0 := est_end hE0 (by omega) (by omega)
              obtain ⟨R, eR, k1, k2, k3, k4, k5, k6, HR⟩ := fin_all b1 b2 b3 b4 (by omega) HY.out HYy.out HN.out hF hv hF0
              clear u
              go_wp2
              go_ret2
              exact ⟨ret2I HR.out.1 HR.out.2, rfl⟩
    · have t1 : ¬ 4294967296 ≤ q := by omega
      have t2 : ¬ 4294967296 * r + un1 < q * yn0 := by omega
      have hF := est_end hE (by omega) (by omega)
      obtain ⟨v, ev, v0, v1, hv⟩ := rest_of HY.out b1 b2 b3 b4 hF
      obtain ⟨hst', hsp', hsn'⟩ := est_start b1 b2 b3 b4 b7 b8 v0 v1
      have HS := Lib.hid hst'
      clear hst' t
      all_goals
          go_wp2
          go_loop [18, 16] (fun v18 v16 => ∃ q0 r0 : Int, Est v un0 yn1 yn0 q0 r0 ∧ v18 = .int .u64 q0 ∧ v16 = .int .u64 r0) (fun v18 _ => (intOf v18).toNat)
          case atStart => exact ⟨_, _, HS.out, rfl, rfl⟩
          case round =>
            obtain ⟨q0, r0, hE0, rfl, rfl⟩ := hrel
            obtain ⟨d1, d2, d3, d4, d5, d6⟩ := est_bound b3 b4 hE0
            clear HS
            by_cases u : 4294967296 ≤ q0 ∨ 4294967296 * r0 + un0 < q0 * yn0
            · obtain ⟨p1, _⟩ := est_next b1 b2 b3 b4 b7 b8 v0 v1 hE0 u
              have uu : 4294967296 ≤ q0 ∨ (¬ 4294967296 ≤ q0 ∧ 4294967296 * r0 + un0 < q0 * yn0) := by omega
              by_cases ub : r0 + yn1 ≤ 4294967295
              · have HL := Lib.hid (est_less b1 b2 b3 b4 b7 b8 v0 v1 hE0 u ub)
                clear u
                rcases uu with u | ⟨u, u'⟩
                all_goals
                  go_wp2
                  exact ⟨⟨_, _, HL.out, rfl, rfl⟩, by simp [intOf]; omega⟩
              · have hF0 := est_break b1 b2 b3 b4 b7 b8 v0 v1 hE0 u (by omega)
                obtain ⟨R, eR, k1, k2, k3, k4, k5, k6, HR⟩ := fin_all b1 b2 b3 b4 (by omega) HY.out HYy.out HN.out hF hv hF0
                clear u
                rcases uu with u | ⟨u, u'⟩
                all_goals
                  go_wp2
                  go_ret2
                  exact ⟨ret2I HR.out.1 HR.out.2, rfl⟩
            · have u1 : ¬ 4294967296 ≤ q0 := by omega
              have u2 : ¬ 4294967296 * r0 + un0 < q0 * yn0 := by omega
              have hF0 := est_end hE0 (by omega) (by omega)
              obtain ⟨R, eR, k1, k2, k3, k4, k5, k6, HR⟩ := fin_all b1 b2 b3 b4 (by omega) HY.out HYy.out HN.out hF hv hF0
              clear u
              go_wp2
              go_ret2
              exact ⟨ret2I HR.out.1 HR.out.2, rfl⟩

theorem shl_le {y : Int} {k : Nat} (hy0 : 0 < y) (hk : (k : Int) = 64 - (bitLen y.toNat : Nat)) (h2 : y < 18446744073709551616) :
    k < 64 ∧ 9223372036854775808 ≤ y * 2 ^ k ∧ y * 2 ^ k < 18446744073709551616 := by
  have hl := bitLen_le64 y (by omega) h2
  have hsp := bitLen_spec y.toNat
  obtain ⟨n, rfl⟩ := Int.eq_ofNat_of_zero_le (show 0 ≤ y by omega)
  simp only [Int.toNat_natCast] at hl hk hsp
  have hn : n ≠ 0 := by omega
  have hb : 1 ≤ bitLen n := by unfold bitLen; rw [if_neg hn]; omega
  obtain ⟨s1, s2⟩ := hsp
  have s2 := s2 hn
  have e1 : 2 ^ bitLen n * 2 ^ k = 2 ^ 64 := by rw [← Nat.pow_add]; congr 1; omega
  have e2 : 2 ^ (bitLen n - 1) * 2 ^ k = 2 ^ 63 := by rw [← Nat.pow_add]; congr 1; omega
  have g1 : n * 2 ^ k < 2 ^ bitLen n * 2 ^ k := Nat.mul_lt_mul_of_pos_right s1 (Nat.two_pow_pos k)
  have g2 : 2 ^ (bitLen n - 1) * 2 ^ k ≤ n * 2 ^ k := Nat.mul_le_mul_right _ s2
  rw [e1] at g1
  rw [e2] at g2
  have c : (n : Int) * 2 ^ k = ((n * 2 ^ k : Nat) : Int) := by simp
  rw [c]
  omega

theorem or_parts (a b : Int) (k : Nat) (hk : k ≤ 64) (ha : 0 ≤ a) (ha' : a * 2 ^ k < 18446744073709551616) (hb : 0 ≤ b) (hb' : b < 18446744073709551616) :
    bits .or .u64 (a * 2 ^ k) (b / 2 ^ (64 - k)) = a * 2 ^ k + b / 2 ^ (64 - k) := by
  obtain ⟨a, rfl⟩ := Int.eq_ofNat_of_zero_le ha
  obtain ⟨b, rfl⟩ := Int.eq_ofNat_of_zero_le hb
  have e1 : (a : Int) * 2 ^ k = ((a * 2 ^ k : Nat) : Int) := by simp
  have e2 : (b : Int) / 2 ^ (64 - k) = ((b / 2 ^ (64 - k) : Nat) : Int) := by simp
  have p : 2 ^ (64 - k) * 2 ^ k = 2 ^ 64 := by rw [← Nat.pow_add]; congr 1; omega
  have lb : b / 2 ^ (64 - k) < 2 ^ k := by
    rw [Nat.div_lt_iff_lt_mul (Nat.two_pow_pos _), Nat.mul_comm, p]; omega
  rw [e1, e2]
  rw [e1] at ha'
  have lb64 : b / 2 ^ (64 - k) < 18446744073709551616 := Nat.lt_of_le_of_lt (Nat.div_le_self _ _) (by omega)
  have h := bits_or_u64_nat (a * 2 ^ k) (b / 2 ^ (64 - k)) (by omega) lb64
  rw [h, Nat.mul_comm, ← Nat.two_pow_add_eq_or_of_lt lb]
  simp

theorem hi_part (b : Int) (k : Nat) (hk : k ≤ 64) (hb : 0 ≤ b) : b * 2 ^ k / 18446744073709551616 = b / 2 ^ (64 - k) := by
  have p : (18446744073709551616 : Int) = 2 ^ (64 - k) * 2 ^ k := by
    have : (2 : Int) ^ (64 - k) * 2 ^ k = 2 ^ 64 := by rw [← Int.pow_add]; congr 1; omega
    rw [this]; rfl
  rw [p, Int.mul_ediv_mul_of_pos_left _ _ (Int.pow_pos (by omega))]

set_option maxRecDepth 100000 in
theorem div64 (hi lo y : Int) (w : World) (g0 : 0 ≤ hi) (h1 : hi < y) (h2 : y < 18446744073709551616) (h3 : 0 ≤ lo) (h4 : lo < 18446744073709551616) :
    Calls Tryz.prog 61 #[.int .u64 hi, .int .u64 lo, .int .u64 y] w fun e w' => e = .returned (.tuple #[.int .u64 ((hi * 18446744073709551616 + lo) / y), .int .u64 ((hi * 18446744073709551616 + lo) % y)]) ∧ Below w.heap.size w w' := by
  by_cases h0 : 0 < hi
  · obtain ⟨k, hk⟩ : ∃ k : Nat, (k : Int) = 64 - (bitLen y.toNat : Nat) := by
      have := bitLen_le64 y (by omega) h2
      exact ⟨64 - bitLen y.toNat, by omega⟩
    obtain ⟨k1, k2, k3⟩ := shl_le (by omega) hk h2
    have p0 : (0 : Int) < 2 ^ k := Int.pow_pos (by omega)
    have m1 : (hi + 1) * 2 ^ k ≤ y * 2 ^ k := Int.mul_le_mul_of_nonneg_right (by omega) (by omega)
    rw [Int.add_mul, Int.one_mul] at m1
    have m0 : 0 ≤ hi * 2 ^ k := Int.mul_nonneg g0 (by omega)
    have l0 : 0 ≤ lo * 2 ^ k := Int.mul_nonneg h3 (by omega)
    have q1 : lo / 2 ^ (64 - k) < 2 ^ k := by
      rw [← hi_part lo k (by omega) h3]
      have : lo * 2 ^ k < 18446744073709551616 * 2 ^ k := Int.mul_lt_mul_of_pos_right h4 p0
      exact Int.ediv_lt_of_lt_mul (by omega) (by rw [Int.mul_comm (2 ^ k)]; exact this)
    have q0 : 0 ≤ lo / 2 ^ (64 - k) := Int.ediv_nonneg h3 (Int.le_of_lt (Int.pow_pos (by omega)))
    have hN := Int.emod_add_mul_ediv (lo * 2 ^ k) 18446744073709551616
    rw [hi_part lo k (by omega) h3] at hN
    refine (div64_core hi lo y k (y * 2 ^ k) (y * 2 ^ k / 4294967296) (y * 2 ^ k % 4294967296) (hi * 2 ^ k + lo / 2 ^ (64 - k)) (lo * 2 ^ k % 18446744073709551616)
      (lo * 2 ^ k % 18446744073709551616 / 4294967296) (lo * 2 ^ k % 18446744073709551616 % 4294967296) w h0 h1 h2 h3 h4 hk k1 (wrap_u64_in _ (by omega) k3) rfl (and_low32 _ (by omega) k3) ?_
      (IntKind.wrap_u64 _) rfl (and_low32 _ (by omega) (by omega)) (by omega) (by omega) (by omega) (by omega) (by omega) (by omega) (by omega) (by omega) (by omega) (by omega) (by omega) rfl ?_).mono (by rintro e w' ⟨rfl, rfl⟩; exact ⟨rfl, Below.refl _ _⟩)
    · rw [wrap_u64_in _ m0 (by omega)]
      exact or_parts hi lo k (by omega) g0 (by omega) h3 h4
    · rw [Int.add_mul, Int.mul_right_comm]
      omega
  · obtain rfl : hi = 0 := by omega
    have hq : 0 ≤ lo / y := Int.ediv_nonneg h3 (by omega)
    go_enter Tryz.func61, Tryz.ntmps61
    go_wp2
    go_region
    go_wp2
    go_ret2
    exact ⟨ret2I (by simp) (by simp), by go_grown⟩
end Go.Proofs.YtalnlnpnacfdfaaGreat
namespace Go.Proofs.YtalnlnpnacfdfaaGreat
open Go.RowKit
theorem retA {k l : IntKind} {a b c d : Int} (h : a = b) (g : c = d) : Ending.returned (.agg #[.int k a, .int l c]) = .returned (.agg #[.int k b, .int l d]) := by rw [h, g]
theorem prod_b {a b m n : Int} (a0 : -m ≤ a) (a1 : a ≤ m) (b0 : -n ≤ b) (b1 : b ≤ n) : -(m * n) ≤ a * b ∧ a * b ≤ m * n := by
  have hm : 0 ≤ m := by omega
  rcases Int.le_total 0 a with h | h
  · have h1 := Int.mul_le_mul a1 b1 |> fun _ => Int.mul_le_mul_of_nonneg_left b1 h
    have h2 := Int.mul_le_mul_of_nonneg_left b0 h
    have h3 := Int.mul_le_mul_of_nonneg_right a1 (show 0 ≤ n by omega)
    rw [Int.mul_neg] at h2
    omega
  · have h1 := Int.mul_le_mul_of_nonpos_left h b1
    have h2 := Int.mul_le_mul_of_nonpos_left h b0
    have h3 := Int.mul_le_mul_of_nonneg_right a0 (show 0 ≤ n by omega)
    rw [Int.mul_neg] at h2
    rw [Int.neg_mul] at h3
    omega
theorem uprod {a b ua ub : Int} (a0 : -9223372036854775808 ≤ a) (a1 : a ≤ 9223372036854775807) (b0 : -9223372036854775808 ≤ b) (b1 : b ≤ 9223372036854775807)
    (ea : IntKind.u64.wrap a = ua) (eb : IntKind.u64.wrap b = ub) :
    ua * ub = a * b + (if a < 0 then b * 18446744073709551616 else 0) + (if b < 0 then a * 18446744073709551616 else 0) + (if a < 0 ∧ b < 0 then 340282366920938463463374607431768211456 else 0) := by
  rw [IntKind.wrap_u64] at ea eb
  by_cases ha : a < 0
  · have e1 : ua = a + 18446744073709551616 := by omega
    by_cases hb : b < 0
    · have e2 : ub = b + 18446744073709551616 := by omega
      rw [e1, e2, Int.add_mul, Int.mul_add, Int.mul_add]; simp only [ha, hb, if_true, and_self]; omega
    · have e2 : ub = b := by omega
      rw [e1, e2, Int.add_mul]; simp only [ha, hb, if_true, if_false, and_false]; omega
  · have e1 : ua = a := by omega
    by_cases hb : b < 0
    · have e2 : ub = b + 18446744073709551616 := by omega
      rw [e1, e2, Int.mul_add]; simp only [ha, hb, if_true, if_false, false_and]; omega
    · have e2 : ub = b := by omega
      rw [e1, e2]; simp only [ha, hb, if_false, and_false]; omega
theorem times_core (a b ua ub : Int) (w : World) (a0 : -9223372036854775808 ≤ a) (a1 : a ≤ 9223372036854775807) (b0 : -9223372036854775808 ≤ b) (b1 : b ≤ 9223372036854775807)
   (ea : IntKind.u64.wrap a = ua) (eb : IntKind.u64.wrap b = ub) (ua0 : 0 ≤ ua) (ua1 : ua < 18446744073709551616) (ub0 : 0 ≤ ub) (ub1 : ub < 18446744073709551616) :
    Calls Tryz.prog 33 #[.int .i64 a, .int .i64 b] w fun e w' => e = .returned (.agg #[.int .i64 (hi64 (a * b)), .int .u64 (lo64 (a * b))]) ∧ ∃ c : Array Value, w' = w.alloc (.cells c 58) := by
  obtain ⟨p0, p1⟩ := prod_b a0 (show a ≤ 9223372036854775808 by omega) b0 (show b ≤ 9223372036854775808 by omega)
  have h := uprod a0 a1 b0 b1 ea eb
  by_cases ha : a < 0
  all_goals by_cases hb : b < 0
  all_goals
      simp only [ha, hb, if_true, if_false, and_true, and_false, Int.add_zero, and_self] at h
      have H := Lib.hid h
      clear h
      go_enter Tryz.func33, Tryz.ntmps33
      go_wp2_with (go_at_call 59; refine (mul64 _ _ _ ua0 ua1 ub0 ub1).mono ?_; rintro e w' ⟨rfl, rfl⟩)
      go_returns
      have h := H.out
      generalize ua * ub = P at h ⊢
      refine ⟨retA ?_ ?_, _, rfl⟩
      all_goals simp only [hi64, lo64, wrap64]
      all_goals omega
theorem times_x (a b : Int) (w : World) (a0 : -9223372036854775808 ≤ a) (a1 : a ≤ 9223372036854775807) (b0 : -9223372036854775808 ≤ b) (b1 : b ≤ 9223372036854775807) :
    Calls Tryz.prog 33 #[.int .i64 a, .int .i64 b] w fun e w' => e = .returned (.agg #[.int .i64 (hi64 (a * b)), .int .u64 (lo64 (a * b))]) ∧ ∃ c : Array Value, w' = w.alloc (.cells c 58) :=
  times_core a b (a % 18446744073709551616) (b % 18446744073709551616) w a0 a1 b0 b1 (IntKind.wrap_u64 _) (IntKind.wrap_u64 _) (by omega) (by omega) (by omega) (by omega)
theorem times_any (a b : Int) (w : World) (a0 : -9223372036854775808 ≤ a) (a1 : a ≤ 9223372036854775807) (b0 : -9223372036854775808 ≤ b) (b1 : b ≤ 9223372036854775807) :
    Calls Tryz.prog 33 #[.int .i64 a, .int .i64 b] w fun e w' => e = .returned (.agg #[.int .i64 (hi64 (a * b)), .int .u64 (lo64 (a * b))]) ∧ Below w.heap.size w w' :=
  (times_x a b w a0 a1 b0 b1).mono (by rintro e w' ⟨rfl, c, rfl⟩; exact ⟨rfl, by go_grown⟩)
theorem neg_x (t : Int) (w : World) (h0 : -9223372036854775807 ≤ hi64 t) (h1 : hi64 t ≤ 9223372036854775807) :
    Calls Tryz.prog 44 #[.agg #[.int .i64 (hi64 t), .int .u64 (lo64 t)]] w fun e w' => e = .returned (.agg #[.int .i64 (hi64 (-t)), .int .u64 (lo64 (-t))]) ∧ ∃ c d : Array Value, w' = (w.alloc (.cells c 58)).alloc (.cells d 58) := by
  obtain ⟨l0, l1⟩ := lo64_b t
  obtain ⟨c0, c1⟩ := bor_01 (lo64 t)
  have e1 := neg_hi t
  have e2 := neg_lo t
  go_enter Tryz.func44, Tryz.ntmps44
  go_wp2_with (simp only [sub64_neg _ l0 l1])
  go_returns
  exact ⟨rfl, _, _, rfl⟩
theorem neg_any (t : Int) (w : World) (h0 : -9223372036854775807 ≤ hi64 t) (h1 : hi64 t ≤ 9223372036854775807) :
    Calls Tryz.prog 44 #[.agg #[.int .i64 (hi64 t), .int .u64 (lo64 t)]] w fun e w' => e = .returned (.agg #[.int .i64 (hi64 (-t)), .int .u64 (lo64 (-t))]) ∧ Below w.heap.size w w' :=
  (neg_x t w h0 h1).mono (by rintro e w' ⟨rfl, c, d, rfl⟩; exact ⟨rfl, by go_grown⟩)
theorem cmp_any (t u : Int) (w : World) :
    Calls Tryz.prog 60 #[.agg #[.int .i64 (hi64 t), .int .u64 (lo64 t)], .agg #[.int .i64 (hi64 u), .int .u64 (lo64 u)]] w fun e w' => e = .returned (.int .i64 (cmpI t u)) ∧ Below w.heap.size w w' := by
  by_cases h : t = u
  · subst h
    have e : cmpI t t = 0 := by simp [cmpI]
    have H := Lib.hid e
    clear e
    go_enter Tryz.func60, Tryz.ntmps60
    go_wp2
    go_returns
    exact ⟨by rw [H.out]; rfl, by go_grown⟩
  · by_cases g : t < u
    · have e : cmpI t u = -1 := by simp [cmpI, h, g]
      have H := Lib.hid e
      have hne : ¬ (hi64 t = hi64 u ∧ lo64 t = lo64 u) := fun ⟨a, b⟩ => h (by rw [← hilo t, ← hilo u, a, b])
      rcases lt_words g with k | ⟨k, k'⟩
      all_goals
        clear h g e
        go_enter Tryz.func60, Tryz.ntmps60
        go_wp2
        go_returns
        exact ⟨by rw [H.out]; rfl, by go_grown⟩
    · have e : cmpI t u = 1 := by simp [cmpI, h, g]
      have H := Lib.hid e
      have hne : ¬ (hi64 t = hi64 u ∧ lo64 t = lo64 u) := fun ⟨a, b⟩ => h (by rw [← hilo t, ← hilo u, a, b])
      rcases lt_words (show u < t by omega) with k | ⟨k, k'⟩
      all_goals
        clear h g e
        go_enter Tryz.func60, Tryz.ntmps60
        go_wp2
        go_returns
        exact ⟨by rw [H.out]; rfl, by go_grown⟩
theorem made_any (lo hi : Int) (w : World) : Calls Tryz.prog 31 #[.int .i64 lo, .int .i64 hi] w (G3 w (md lo hi)) := by
  by_cases h1 : lo < -2305843009213693952
  · go_enter Tryz.func31, Tryz.ntmps31
    go_wp2
    go_returns
    exact G3_eq (by simp [md, h1]) (by go_grown)
  · by_cases h2 : 2305843009213693952 < hi
    all_goals
      go_enter Tryz.func31, Tryz.ntmps31
      go_wp2
      go_returns
      exact G3_eq (by simp [md, h1, h2]) (by go_grown)
set_option maxHeartbeats 2000000 in
theorem least1 (t u0 : Int) (b : Nat) (w : World) (hb : b < w.heap.size) (h0 : w.cell? ⟨b, 0, none⟩ = some (.int .i64 (hi64 u0))) (g0 : w.cell? ⟨b, 1, none⟩ = some (.int .u64 (lo64 u0))) :
    Calls Tryz.prog 34 #[.agg #[.int .i64 (hi64 t), .int .u64 (lo64 t)], .slice (some ⟨b, 0, none⟩) 1 1] w fun e w' => e = .returned (.agg #[.int .i64 (hi64 (min t u0)), .int .u64 (lo64 (min t u0))]) ∧ Below w.heap.size w w' := by
  go_enter Tryz.func34, Tryz.ntmps34
  go_wp2
  refine wp_loop_rounds 2 ?_
  all_goals
    rw [rounds_succ]
    go_wp2_with fail
    refine (cmp_any _ _ _).mono ?_
    rintro e w1 ⟨rfl, hb1⟩
    have z1 := hb1.size
    simp only [World.size_alloc, World.size_setCell] at z1
    have y1 : w.heap.size < w1.heap.size := by omega
    have y1' : w.heap.size + 1 < w1.heap.size := by omega
    have yb1 : b < w1.heap.size := by omega
    have B1 : Below w.heap.size w w1 := Below.trans (by go_grown) (hb1.mono (by go_size))
    obtain ⟨c1, f11⟩ := blk hb1 (b := w.heap.size) (by go_size)
    obtain ⟨c2, f12⟩ := blk hb1 (b := w.heap.size + 1) (by go_size)
    obtain ⟨c4, f14⟩ := blk hb1 (b := w.heap.size + 2) (by go_size)
    have d10 := c1 0
    have d11 := c1 1
    have d12 := c2 0
    have d13 := c2 1
    simp [go_sem] at d10 d11 d12 d13
    clear c1 c2
    go_wp2
  all_goals
    rw [rounds_succ]
    go_wp2
  all_goals refine bodyPost_ret (by simp [results, Tryz.results34, go_sem, d12, d13]; rfl) rfl ?_
  all_goals refine ⟨?_, by go_grown⟩
  all_goals simp only [Int.not_lt, cmpI_neg, cmpI_pos, cmpI_le, cmpI_ge] at *
  all_goals exact retA (congrArg hi64 (by omega)) (congrArg lo64 (by omega))
set_option maxHeartbeats 2000000 in
theorem least3 (t u0 u1 u2 : Int) (b : Nat) (w : World) (hb : b < w.heap.size) (h0 : w.cell? ⟨b, 2, none⟩ = some (.int .i64 (hi64 u0))) (g0 : w.cell? ⟨b, 3, none⟩ = some (.int .u64 (lo64 u0))) (h1 : w.cell? ⟨b, 4, none⟩ = some (.int .i64 (hi64 u1))) (g1 : w.cell? ⟨b, 5, none⟩ = some (.int .u64 (lo64 u1))) (h2 : w.cell? ⟨b, 6, none⟩ = some (.int .i64 (hi64 u2))) (g2 : w.cell? ⟨b, 7, none⟩ = some (.int .u64 (lo64 u2))) :
    Calls Tryz.prog 34 #[.agg #[.int .i64 (hi64 t), .int .u64 (lo64 t)], .slice (some ⟨b, 2, none⟩) 3 3] w fun e w' => e = .returned (.agg #[.int .i64 (hi64 (min (min (min t u0) u1) u2)), .int .u64 (lo64 (min (min (min t u0) u1) u2))]) ∧ Below w.heap.size w w' := by
  go_enter Tryz.func34, Tryz.ntmps34
  go_wp2
  refine wp_loop_rounds 4 ?_
  all_goals
    rw [rounds_succ]
    go_wp2_with fail
    refine (cmp_any _ _ _).mono ?_
    rintro e w1 ⟨rfl, hb1⟩
    have z1 := hb1.size
    simp only [World.size_alloc, World.size_setCell] at z1
    have y1 : w.heap.size < w1.heap.size := by omega
    have y1' : w.heap.size + 1 < w1.heap.size := by omega
    have yb1 : b < w1.heap.size := by omega
    have B1 : Below w.heap.size w w1 := Below.trans (by go_grown) (hb1.mono (by go_size))
    have e11 := (B1.cell (p := ⟨b, 4, none⟩) hb).trans h1
    have e11' := (B1.cell (p := ⟨b, 5, none⟩) hb).trans g1
    have e12 := (B1.cell (p := ⟨b, 6, none⟩) hb).trans h2
    have e12' := (B1.cell (p := ⟨b, 7, none⟩) hb).trans g2
    obtain ⟨c1, f11⟩ := blk hb1 (b := w.heap.size) (by go_size)
    obtain ⟨c2, f12⟩ := blk hb1 (b := w.heap.size + 1) (by go_size)
    obtain ⟨c4, f14⟩ := blk hb1 (b := w.heap.size + 2) (by go_size)
    have d10 := c1 0
    have d11 := c1 1
    have d12 := c2 0
    have d13 := c2 1
    simp [go_sem] at d10 d11 d12 d13
    clear c1 c2
    go_wp2
  all_goals
    rw [rounds_succ]
    go_wp2_with fail
    refine (cmp_any _ _ _).mono ?_
    rintro e w2 ⟨rfl, hb2⟩
    have z2 := hb2.size
    simp only [World.size_alloc, World.size_setCell] at z2
    have y2 : w.heap.size < w2.heap.size := by omega
    have y2' : w.heap.size + 1 < w2.heap.size := by omega
    have yb2 : b < w2.heap.size := by omega
    have B2 : Below w.heap.size w w2 := Below.trans (by go_grown) (hb2.mono (by go_size))
    have e22 := (B2.cell (p := ⟨b, 6, none⟩) hb).trans h2
    have e22' := (B2.cell (p := ⟨b, 7, none⟩) hb).trans g2
    obtain ⟨c1, f21⟩ := blk hb2 (b := w.heap.size) (by go_size)
    obtain ⟨c2, f22⟩ := blk hb2 (b := w.heap.size + 1) (by go_size)
    obtain ⟨c4, f24⟩ := blk hb2 (b := w1.heap.size) (by go_size)
    have d20 := c1 0
    have d21 := c1 1
    have d22 := c2 0
    have d23 := c2 1
    simp [go_sem, y1, y1', d10, d11, d12, d13] at d20 d21 d22 d23
    clear c1 c2
    go_wp2
  all_goals
    rw [rounds_succ]
    go_wp2_with fail
    refine (cmp_any _ _ _).mono ?_
    rintro e w3 ⟨rfl, hb3⟩
    have z3 := hb3.size
    simp only [World.size_alloc, World.size_setCell] at z3
    have y3 : w.heap.size < w3.heap.size := by omega
    have y3' : w.heap.size + 1 < w3.heap.size := by omega
    have yb3 : b < w3.heap.size := by omega
    have B3 : Below w.heap.size w w3 := Below.trans (by go_grown) (hb3.mono (by go_size))
    obtain ⟨c1, f31⟩ := blk hb3 (b := w.heap.size) (by go_size)
    obtain ⟨c2, f32⟩ := blk hb3 (b := w.heap.size + 1) (by go_size)
    obtain ⟨c4, f34⟩ := blk hb3 (b := w2.heap.size) (by go_size)
    have d30 := c1 0
    have d31 := c1 1
    have d32 := c2 0
    have d33 := c2 1
    simp [go_sem, y2, y2', d20, d21, d22, d23] at d30 d31 d32 d33
    clear c1 c2
    go_wp2
  all_goals
    rw [rounds_succ]
    go_wp2
  all_goals refine bodyPost_ret (by simp [results, Tryz.results34, go_sem, d32, d33]; rfl) rfl ?_
  all_goals refine ⟨?_, by go_grown⟩
  all_goals simp only [Int.not_lt, cmpI_neg, cmpI_pos, cmpI_le, cmpI_ge] at *
  all_goals exact retA (congrArg hi64 (by omega)) (congrArg lo64 (by omega))
set_option maxHeartbeats 2000000 in
theorem greatest1 (t u0 : Int) (b : Nat) (w : World) (hb : b < w.heap.size) (h0 : w.cell? ⟨b, 0, none⟩ = some (.int .i64 (hi64 u0))) (g0 : w.cell? ⟨b, 1, none⟩ = some (.int .u64 (lo64 u0))) :
    Calls Tryz.prog 36 #[.agg #[.int .i64 (hi64 t), .int .u64 (lo64 t)], .slice (some ⟨b, 0, none⟩) 1 1] w fun e w' => e = .returned (.agg #[.int .i64 (hi64 (max t u0)), .int .u64 (lo64 (max t u0))]) ∧ Below w.heap.size w w' := by
  go_enter Tryz.func36, Tryz.ntmps36
  go_wp2
  refine wp_loop_rounds 2 ?_
  all_goals
    rw [rounds_succ]
    go_wp2_with fail
    refine (cmp_any _ _ _).mono ?_
    rintro e w1 ⟨rfl, hb1⟩
    have z1 := hb1.size
    simp only [World.size_alloc, World.size_setCell] at z1
    have y1 : w.heap.size < w1.heap.size := by omega
    have y1' : w.heap.size + 1 < w1.heap.size := by omega
    have yb1 : b < w1.heap.size := by omega
    have B1 : Below w.heap.size w w1 := Below.trans (by go_grown) (hb1.mono (by go_size))
    obtain ⟨c1, f11⟩ := blk hb1 (b := w.heap.size) (by go_size)
    obtain ⟨c2, f12⟩ := blk hb1 (b := w.heap.size + 1) (by go_size)
    obtain ⟨c4, f14⟩ := blk hb1 (b := w.heap.size + 2) (by go_size)
    have d10 := c1 0
    have d11 := c1 1
    have d12 := c2 0
    have d13 := c2 1
    simp [go_sem] at d10 d11 d12 d13
    clear c1 c2
    go_wp2
  all_goals
    rw [rounds_succ]
    go_wp2
  all_goals refine bodyPost_ret (by simp [results, Tryz.results36, go_sem, d12, d13]; rfl) rfl ?_
  all_goals refine ⟨?_, by go_grown⟩
  all_goals simp only [Int.not_lt, cmpI_neg, cmpI_pos, cmpI_le, cmpI_ge] at *
  all_goals exact retA (congrArg hi64 (by omega)) (congrArg lo64 (by omega))
set_option maxHeartbeats 2000000 in
theorem greatest3 (t u0 u1 u2 : Int) (b : Nat) (w : World) (hb : b < w.heap.size) (h0 : w.cell? ⟨b, 2, none⟩ = some (.int .i64 (hi64 u0))) (g0 : w.cell? ⟨b, 3, none⟩ = some (.int .u64 (lo64 u0))) (h1 : w.cell? ⟨b, 4, none⟩ = some (.int .i64 (hi64 u1))) (g1 : w.cell? ⟨b, 5, none⟩ = some (.int .u64 (lo64 u1))) (h2 : w.cell? ⟨b, 6, none⟩ = some (.int .i64 (hi64 u2))) (g2 : w.cell? ⟨b, 7, none⟩ = some (.int .u64 (lo64 u2))) :
    Calls Tryz.prog 36 #[.agg #[.int .i64 (hi64 t), .int .u64 (lo64 t)], .slice (some ⟨b, 2, none⟩) 3 3] w fun e w' => e = .returned (.agg #[.int .i64 (hi64 (max (max (max t u0) u1) u2)), .int .u64 (lo64 (max (max (max t u0) u1) u2))]) ∧ Below w.heap.size w w' := by
  go_enter Tryz.func36, Tryz.ntmps36
  go_wp2
  refine wp_loop_rounds 4 ?_
  all_goals
    rw [rounds_succ]
    go_wp2_with fail
    refine (cmp_any _ _ _).mono ?_
    rintro e w1 ⟨rfl, hb1⟩
    have z1 := hb1.size
    simp only [World.size_alloc, World.size_setCell] at z1
    have y1 : w.heap.size < w1.heap.size := by omega
    have y1' : w.heap.size + 1 < w1.heap.size := by omega
    have yb1 : b < w1.heap.size := by omega
    have B1 : Below w.heap.size w w1 := Below.trans (by go_grown) (hb1.mono (by go_size))
    have e11 := (B1.cell (p := ⟨b, 4, none⟩) hb).trans h1
    have e11' := (B1.cell (p := ⟨b, 5, none⟩) hb).trans g1
    have e12 := (B1.cell (p := ⟨b, 6, none⟩) hb).trans h2
    have e12' := (B1.cell (p := ⟨b, 7, none⟩) hb).trans g2
    obtain ⟨c1, f11⟩ := blk hb1 (b := w.heap.size) (by go_size)
    obtain ⟨c2, f12⟩ := blk hb1 (b := w.heap.size + 1) (by go_size)
    obtain ⟨c4, f14⟩ := blk hb1 (b := w.heap.size + 2) (by go_size)
    have d10 := c1 0
    have d11 := c1 1
    have d12 := c2 0
    have d13 := c2 1
    simp [go_sem] at d10 d11 d12 d13
    clear c1 c2
    go_wp2
  all_goals
    rw [rounds_succ]
    go_wp2_with fail
    refine (cmp_any _ _ _).mono ?_
    rintro e w2 ⟨rfl, hb2⟩
    have z2 := hb2.size
    simp only [World.size_alloc, World.size_setCell] at z2
    have y2 : w.heap.size < w2.heap.size := by omega
    have y2' : w.heap.size + 1 < w2.heap.size := by omega
    have yb2 : b < w2.heap.size := by omega
    have B2 : Below w.heap.size w w2 := Below.trans (by go_grown) (hb2.mono (by go_size))
    have e22 := (B2.cell (p := ⟨b, 6, none⟩) hb).trans h2
    have e22' := (B2.cell (p := ⟨b, 7, none⟩) hb).trans g2
    obtain ⟨c1, f21⟩ := blk hb2 (b := w.heap.size) (by go_size)
    obtain ⟨c2, f22⟩ := blk hb2 (b := w.heap.size + 1) (by go_size)
    obtain ⟨c4, f24⟩ := blk hb2 (b := w1.heap.size) (by go_size)
    have d20 := c1 0
    have d21 := c1 1
    have d22 := c2 0
    have d23 := c2 1
    simp [go_sem, y1, y1', d10, d11, d12, d13] at d20 d21 d22 d23
    clear c1 c2
    go_wp2
  all_goals
    rw [rounds_succ]
    go_wp2_with fail
    refine (cmp_any _ _ _).mono ?_
    rintro e w3 ⟨rfl, hb3⟩
    have z3 := hb3.size
    simp only [World.size_alloc, World.size_setCell] at z3
    have y3 : w.heap.size < w3.heap.size := by omega
    have y3' : w.heap.size + 1 < w3.heap.size := by omega
    have yb3 : b < w3.heap.size := by omega
    have B3 : Below w.heap.size w w3 := Below.trans (by go_grown) (hb3.mono (by go_size))
    obtain ⟨c1, f31⟩ := blk hb3 (b := w.heap.size) (by go_size)
    obtain ⟨c2, f32⟩ := blk hb3 (b := w.heap.size + 1) (by go_size)
    obtain ⟨c4, f34⟩ := blk hb3 (b := w2.heap.size) (by go_size)
    have d30 := c1 0
    have d31 := c1 1
    have d32 := c2 0
    have d33 := c2 1
    simp [go_sem, y2, y2', d20, d21, d22, d23] at d30 d31 d32 d33
    clear c1 c2
    go_wp2
  all_goals
    rw [rounds_succ]
    go_wp2
  all_goals refine bodyPost_ret (by simp [results, Tryz.results36, go_sem, d32, d33]; rfl) rfl ?_
  all_goals refine ⟨?_, by go_grown⟩
  all_goals simp only [Int.not_lt, cmpI_neg, cmpI_pos, cmpI_le, cmpI_ge] at *
  all_goals exact retA (congrArg hi64 (by omega)) (congrArg lo64 (by omega))
end Go.Proofs.YtalnlnpnacfdfaaGreat
namespace Go.Proofs.YtalnlnpnacfdfaaGreat
open Go.RowKit
theorem div64_t (t d : Int) (w : World) (h0 : 0 ≤ t) (h1 : hi64 t < d) (h2 : d < 18446744073709551616) :
    Calls Tryz.prog 61 #[.int .u64 (hi64 t), .int .u64 (lo64 t), .int .u64 d] w fun e w' => e = .returned (.tuple #[.int .u64 (t / d), .int .u64 (t % d)]) ∧ Below w.heap.size w w' := by
  have h := div64 (hi64 t) (lo64 t) d w (hi64_nonneg h0) h1 h2 (lo64_b t).1 (lo64_b t).2
  rwa [hilo] at h
theorem down0 (t d : Int) (w : World) (h0 : 0 ≤ t) (h1 : t < 170141183460469231731687303715884105728) (hd : 0 < d) (hd2 : d < 18446744073709551616) :
    Calls Tryz.prog 35 #[.agg #[.int .i64 (hi64 t), .int .u64 (lo64 t)], .int .u64 d] w fun e w' => e = .returned (.int .i64 (dn t d)) ∧ Below w.heap.size w w' := by
  have g0 := hi64_nonneg h0
  have g1 : hi64 t ≤ 9223372036854775807 := by unfold hi64; omega
  have q0 := Int.ediv_nonneg h0 (Int.le_of_lt hd)
  by_cases h : d ≤ hi64 t
  · have H := Lib.hid (dn_big hd h0 h)
    go_enter Tryz.func35, Tryz.ntmps35
    go_wp2
    go_returns
    exact ⟨by rw [H.out]; rfl, by go_grown⟩
  · have H := Lib.hid (dn_small hd h0)
    go_enter Tryz.func35, Tryz.ntmps35
    go_wp2_with fail
    refine (div64_t t d _ h0 (by omega) hd2).mono ?_
    rintro e w1 ⟨rfl, hb1⟩
    have B1 : Below w.heap.size w w1 := Below.trans (by go_grown) (hb1.mono (by go_size))
    go_wp2
    all_goals go_returns
    all_goals exact ⟨retI (by rw [H.out]; omega), B1⟩
theorem up0 (t d : Int) (w : World) (h0 : 0 ≤ t) (h1 : t < 170141183460469231731687303715884105728) (hd : 0 < d) (hd2 : d < 18446744073709551616) :
    Calls Tryz.prog 37 #[.agg #[.int .i64 (hi64 t), .int .u64 (lo64 t)], .int .u64 d] w fun e w' => e = .returned (.int .i64 (upq t d)) ∧ Below w.heap.size w w' := by
  have g0 := hi64_nonneg h0
  have g1 : hi64 t ≤ 9223372036854775807 := by unfold hi64; omega
  have q0 := Int.ediv_nonneg h0 (Int.le_of_lt hd)
  by_cases h : d ≤ hi64 t
  · have H := Lib.hid (upq_big hd h0 h)
    go_enter Tryz.func37, Tryz.ntmps37
    go_wp2
    go_returns
    exact ⟨by rw [H.out]; rfl, by go_grown⟩
  · have H := Lib.hid (upq_small hd h0)
    go_enter Tryz.func37, Tryz.ntmps37
    go_wp2_with fail
    refine (div64_t t d _ h0 (by omega) hd2).mono ?_
    rintro e w1 ⟨rfl, hb1⟩
    have B1 : Below w.heap.size w w1 := Below.trans (by go_grown) (hb1.mono (by go_size))
    go_wp2
    all_goals go_returns
    all_goals exact ⟨retI (by rw [H.out]; split <;> omega), B1⟩
end Go.Proofs.YtalnlnpnacfdfaaGreat
