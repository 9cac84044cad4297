import Derived.Test.YtalnlnpnacfdfaaRefB
import Derived.Test.YtalnlnpnacfdfaaSpanH
namespace Go.Proofs.Ytalnlnpnacfdfaa
open Go.RowKit
theorem lessV_rep (t u : Int) : lessV (negB t) (negB u) (absI t) (absI u) = decide (t < u) := by
  unfold lessV negB absI
  by_cases ht : t < 0 <;> by_cases hu : u < 0 <;> simp [ht, hu] <;> omega
theorem overV_rep (t d : Int) (hd : 0 < d) : overV (negB t) (absI t) d false = dn t d ∧ overV (negB t) (absI t) d true = upq t d := by
  by_cases ht : t < 0
  · have e1 : negB t = true := by unfold negB; simp [ht]
    have e2 : absI t = -t := by unfold absI; simp [ht]
    have h1 := upq_small (t := -t) hd (by omega)
    have h2 := dn_small (t := -t) hd (by omega)
    have h3 : upq (-t) d = - dn t d := by unfold upq; rw [Int.neg_neg]
    have h4 : upq t d = - dn (-t) d := rfl
    have r0 := Int.emod_nonneg (-t) (show d ≠ 0 by omega)
    rw [e1, e2]
    refine ⟨?_, ?_⟩
    · unfold overV
      rw [show dn t d = -upq (-t) d by omega, h1]
      by_cases hq : 4611686018427387904 ≤ -t / d <;> by_cases hr : 0 < -t % d <;> simp [hq, hr] <;> omega
    · unfold overV
      rw [h4, h2]
      by_cases hq : 4611686018427387904 ≤ -t / d <;> simp [hq] <;> omega
  · have e1 : negB t = false := by unfold negB; simp [ht]
    have e2 : absI t = t := by unfold absI; simp [ht]
    have h1 := upq_small (t := t) hd (by omega)
    have h2 := dn_small (t := t) hd (by omega)
    rw [e1, e2]
    refine ⟨?_, ?_⟩
    · unfold overV
      rw [h2]
      by_cases hq : 4611686018427387904 ≤ t / d <;> simp [hq] <;> omega
    · unfold overV
      rw [h1]
      by_cases hq : 4611686018427387904 ≤ t / d <;> by_cases hr : 0 < t % d <;> simp [hq, hr] <;> omega
theorem rover_dn (t d : Int) (w : World) (t0 : -85070591730234615865843651857942052864 ≤ t) (t1 : t ≤ 85070591730234615865843651857942052864) (hd : 0 < d) (hd2 : d < 18446744073709551616) :
    Calls Try.prog 63 #[.agg #[.bool (negB (t)), .int .u64 (aHi (t)), .int .u64 (aLo (t))], .int .u64 d, .bool false] w fun e w' => e = .returned (.int .i64 (dn t d)) ∧ Below w.heap.size w w' := by
  have h := rover0 (negB t) false (absI t) d w (absI_nn t) (by unfold hi64 absI; split <;> omega) hd hd2
  rw [(overV_rep t d hd).1] at h
  exact h
theorem rover_up (t d : Int) (w : World) (t0 : -85070591730234615865843651857942052864 ≤ t) (t1 : t ≤ 85070591730234615865843651857942052864) (hd : 0 < d) (hd2 : d < 18446744073709551616) :
    Calls Try.prog 63 #[.agg #[.bool (negB (t)), .int .u64 (aHi (t)), .int .u64 (aLo (t))], .int .u64 d, .bool true] w fun e w' => e = .returned (.int .i64 (upq t d)) ∧ Below w.heap.size w w' := by
  have h := rover0 (negB t) true (absI t) d w (absI_nn t) (by unfold hi64 absI; split <;> omega) hd hd2
  rw [(overV_rep t d hd).2] at h
  exact h
theorem rless (t u : Int) (w : World) : Calls Try.prog 61 #[.agg #[.bool (negB (t)), .int .u64 (aHi (t)), .int .u64 (aLo (t))], .agg #[.bool (negB (u)), .int .u64 (aHi (u)), .int .u64 (aLo (u))]] w fun e w' => e = .returned (.bool (decide (t < u))) ∧ Below w.heap.size w w' := by
  rw [← lessV_rep]
  have h0 := aHi_nn t
  have h1 := aHi_nn u
  unfold aHi aLo at *
  generalize absI t = m1 at *
  generalize absI u = m2 at *
  cases negB t <;> cases negB u
  · exact rless_false m1 m2 w h0 h1
  · exact rless_ne false m1 m2 w
  · exact rless_ne true m1 m2 w
  · exact rless_true m1 m2 w h0 h1
theorem rless_nn (m1 m2 : Int) (w : World) (h0 : 0 ≤ m1) (h1 : 0 ≤ m2) : Calls Try.prog 61 #[.agg #[.bool false, .int .u64 (hi64 (m1)), .int .u64 (lo64 (m1))], .agg #[.bool false, .int .u64 (hi64 (m2)), .int .u64 (lo64 (m2))]] w fun e w' => e = .returned (.bool (decide (m1 < m2))) ∧ Below w.heap.size w w' :=
  rless_false m1 m2 w (hi64_nonneg h0) (hi64_nonneg h1)
theorem rtimes_b (a b : Int) (w : World) (a0 : -9223372036854775808 ≤ a) (a1 : a ≤ 9223372036854775807) (b0 : -9223372036854775808 ≤ b) (b1 : b ≤ 9223372036854775807) : Calls Try.prog 60 #[.int .i64 a, .int .i64 b] w fun e w' => e = .returned (.agg #[.bool (negB (a * b)), .int .u64 (aHi (a * b)), .int .u64 (aLo (a * b))]) ∧ Below w.heap.size w w' :=
  (rtimes a b w a0 a1 b0 b1).mono (by rintro e w' ⟨rfl, c, rfl⟩; exact ⟨rfl, by go_grown⟩)
theorem rtimes_nn (a b : Int) (w : World) (a0 : -9223372036854775808 ≤ a) (a1 : a ≤ 9223372036854775807) (b0 : -9223372036854775808 ≤ b) (b1 : b ≤ 9223372036854775807) (h : 0 ≤ a * b) : Calls Try.prog 60 #[.int .i64 a, .int .i64 b] w fun e w' => e = .returned (.agg #[.bool false, .int .u64 (hi64 (a * b)), .int .u64 (lo64 (a * b))]) ∧ Below w.heap.size w w' := by
  have h1 := rtimes_b a b w a0 a1 b0 b1
  have e1 : negB (a * b) = false := by unfold negB; simp; omega
  have e2 : absI (a * b) = a * b := by unfold absI; rw [if_neg (by omega)]
  unfold aHi aLo at h1
  rw [e1, e2] at h1
  exact h1
theorem rturned0 (n : Bool) (h l : Int) (w : World) (h0 : 0 ≤ h) (l0 : 0 ≤ l) : Calls Try.prog 62 #[.agg #[.bool n, .int .u64 h, .int .u64 l]] w fun e w' => e = .returned (.agg #[.bool (!n && (decide (0 < h) || decide (0 < l))), .int .u64 h, .int .u64 l]) ∧ Below w.heap.size w w' := by
  rcases (show 0 < h ∨ (h = 0 ∧ 0 < l) ∨ (h = 0 ∧ l = 0) by omega) with hh | ⟨hh, hl⟩ | ⟨hh, hl⟩
  all_goals cases n
  all_goals (try subst hh)
  all_goals (try subst hl)
  all_goals
    go_enter Try.func62, Try.ntmps62
    go_wp2
    refine bodyPost_ret (by simp [results, Try.results62, go_sem]; rfl) rfl ?_
    refine ⟨?_, by go_grown⟩
    first | rfl | (congr 2; simp <;> omega) | (simp <;> omega)
theorem rturned (t : Int) (w : World) : Calls Try.prog 62 #[.agg #[.bool (negB (t)), .int .u64 (aHi (t)), .int .u64 (aLo (t))]] w fun e w' => e = .returned (.agg #[.bool (negB (-t)), .int .u64 (aHi (-t)), .int .u64 (aLo (-t))]) ∧ Below w.heap.size w w' := by
  have h := rturned0 (negB t) (aHi t) (aLo t) w (aHi_nn t) (lo64_b _).1
  have e1 : (!negB t && (decide (0 < aHi t) || decide (0 < aLo t))) = negB (-t) := by
    have hl := hilo (absI t)
    have l0 := (lo64_b (absI t)).1
    have h0 := aHi_nn t
    unfold aHi aLo at *
    rw [Bool.eq_iff_iff]
    unfold negB absI at *
    by_cases ht : t < 0
    · simp [ht]; omega
    · simp only [ht, if_false] at *
      simp
      omega
  have e2 : absI (-t) = absI t := by unfold absI; split <;> split <;> omega
  rw [e1] at h
  unfold aHi aLo at *
  rw [e2]
  exact h
def pow2 (k : Nat) : Int := ((2 ^ k : Nat) : Int)
theorem pow2_succ (k : Nat) : pow2 (k + 1) = 2 * pow2 k := by unfold pow2; rw [Nat.pow_succ]; omega
theorem pow2_pos (k : Nat) : 1 ≤ pow2 k := by have := Nat.one_le_two_pow (n := k); unfold pow2; omega
theorem mul_self_le {x y : Int} (h0 : 0 ≤ x) (h : x ≤ y) : x * x ≤ y * y := Int.mul_le_mul h h h0 (by omega)
theorem rless_t (m1 m2 : Int) (w : World) (h0 : 0 ≤ m1) (h1 : 0 ≤ m2) (q : Bool) (hq : decide (m1 < m2) = q) : Calls Try.prog 61 #[.agg #[.bool false, .int .u64 (hi64 (m1)), .int .u64 (lo64 (m1))], .agg #[.bool false, .int .u64 (hi64 (m2)), .int .u64 (lo64 (m2))]] w fun e w' => e = .returned (.bool q) ∧ Below w.heap.size w w' := hq ▸ rless_nn m1 m2 w h0 h1
theorem rtimes_t (a b t : Int) (w : World) (ht : a * b = t) (a0 : -9223372036854775808 ≤ a) (a1 : a ≤ 9223372036854775807) (b0 : -9223372036854775808 ≤ b) (b1 : b ≤ 9223372036854775807) (h : 0 ≤ t) : Calls Try.prog 60 #[.int .i64 a, .int .i64 b] w fun e w' => e = .returned (.agg #[.bool false, .int .u64 (hi64 (t)), .int .u64 (lo64 (t))]) ∧ Below w.heap.size w w' := by
  subst ht; exact rtimes_nn a b w a0 a1 b0 b1 h
set_option maxRecDepth 100000 in
set_option maxHeartbeats 4000000 in
theorem rroot (x : Int) (w : World) (h0 : 0 ≤ x) (h1 : x ≤ 2305843009213693952) :
    Calls Try.prog 56 #[.int .i64 x] w fun e w' => e = .returned (.tuple #[.int .i64 (isqrt (x * 1099511627776)), .bool (decide (isqrt (x * 1099511627776) * isqrt (x * 1099511627776) = x * 1099511627776))]) ∧ Below w.heap.size w w' := by
  generalize hT : x * 1099511627776 = T
  have t0 : 0 ≤ T := by omega
  have t1 : T ≤ 2535301200456458802993406410752 := by omega
  have hT' : Hid (x * 1099511627776 = T) := hT
  clear hT
  go_enter Try.func56, Try.ntmps56
  go_wp2_with fail
  refine (rtimes_nn _ _ _ (by omega) (by omega) (by omega) (by omega) (by omega)).mono ?_
  rintro e w1 ⟨rfl, hb1⟩
  rw [hT'.out]
  have B1 : Below w.heap.size w w1 := hb1
  have z1 := B1.size
  clear hb1
  go_wp2
  go_loopw [5, 6] (fun v5 v6 wr => ∃ (k : Nat) (r b : Int), (0 ≤ r ∧ r + pow2 k ≤ 4503599627370496 ∧ b = pow2 k / 2 ∧ r * r ≤ T ∧ T < (r + pow2 k) * (r + pow2 k)) ∧ v5 = .int .i64 r ∧ v6 = .int .i64 b ∧
      Blk wr w1.heap.size 77 #[.bool false, .int .u64 (hi64 T), .int .u64 (lo64 T)] ∧ Below w.heap.size w wr) (fun _ v6 _ => (intOf v6).toNat)
  case atStart =>
    refine ⟨52, 0, _, ⟨by omega, by decide, by decide, by omega, ?_⟩, rfl, rfl, ?_, by go_grown⟩
    · have : pow2 52 = 4503599627370496 := by decide
      rw [this]; omega
    · exact Blk.new w1 _ _
  case round =>
    obtain ⟨k, r, b, ⟨r0, r1, hb, r2, r3⟩, rfl, rfl, oW, B⟩ := hrel
    rcases k with _ | k
    · have e1 : pow2 0 = 1 := rfl
      rw [e1] at hb r1 r3
      have hb' : b = 0 := by rw [hb]; decide
      clear hb e1
      subst hb'
      have hi : isqrt T = r := isqrt_of r0 r2 r3
      have HI := Lib.hid hi
      clear hi
      have rr0 : 0 ≤ r * r := Int.mul_nonneg r0 r0
      clear r3
      by_cases he : r * r = T
      · have HE := Lib.hid he
        clear HE
        go_wp2_with fail
        refine Reg.wp_chain (fun D v W => Below w.heap.size w W ∧ Blk W (w1.heap.size) 77 #[.bool false, .int .u64 (hi64 (T)), .int .u64 (lo64 (T))])
          (Reg.inl [3]) (Reg.ge [(3, .agg #[.bool false, .int .u64 (hi64 (T)), .int .u64 (lo64 (T))])]) Reg.None_ (fun _ => Reg.Any) (fun _ _ => False) (Reg.pl []) (Reg.pl [])
          (by kernel_rfl) (by kernel_rfl) (by kernel_rfl) (Reg.ge_some _) (fun v => ?_) (fun _ _ _ _ _ h => h) (fun _ _ _ _ _ _ _ _ _ _ _ _ _ => Reg.none_) (fun _ _ _ _ h => h.elim) (fun ops' Q' hops hQ => ?_)
        · exact ⟨(by first | with_reducible exact Below.drew B | with_reducible exact Below.drew (belowN B _) | (repeat' first | with_reducible assumption | with_reducible exact Below.refl _ _ | with_reducible refine Below.alloc ?_ ?_ _ | with_reducible refine Below.drew ?_ | with_reducible refine belowN ?_ _ | with_reducible refine Below.setCell ?_ ?_ _ | go_size)), (show Blk _ _ _ #[.bool false, .int .u64 (hi64 (T)), .int .u64 (lo64 (T))] from (by first | with_reducible exact oW | (repeat' first | with_reducible assumption | (with_reducible refine Blk.new' ?_; first | with_reducible rfl | (simp only [World.size_alloc, World.size_setCell, World.size_drew]; done)) | with_reducible refine Blk.alloc ?_ _ | with_reducible refine Blk.drew ?_ | with_reducible refine Blk.drewN ?_ _ | with_reducible apply Blk.both | with_reducible refine Blk.far' ?_ ?_ | (show _ ≠ _; omega))))⟩
        clear B oW
        apply Reg.RC_pure (hc := rfl) (hst := rfl) (hw := rfl) (t := 26) (hd := rfl) (ht := Nat.le_of_ble_eq_true rfl)
        · intro D v W hc hj hf K hK
          go_step
          exact hK.out
        · rfl
        apply Reg.RC_pure (hc := rfl) (hst := rfl) (hw := rfl) (t := 27) (hd := rfl) (ht := Nat.le_of_ble_eq_true rfl)
        · intro D v W hc hj hf K hK
          go_step
          exact hK.out
        · rfl
        apply Reg.RC_pure (hc := rfl) (hst := rfl) (hw := rfl) (t := 28) (hd := rfl) (ht := Nat.le_of_ble_eq_true rfl)
        · intro D v W hc hj hf K hK
          go_step
          exact hK.out
        · rfl
        refine Reg.RC_exact _ (fun _ h => h) rfl (by intro t ht; cases ht; exact Nat.le_of_ble_eq_true rfl) rfl (fun D v W hc hj hf K hK => ?_) (Reg.RC_at (b := ⟨#[_, _, _, _, _, _, _, _, _, _, _, _, _, _, _, _, _, _, _, _, _, _, _, _, _, _, _, _, _, _, _, _], []⟩) rfl ?_)
        · obtain ⟨B, oW⟩ := hj
          go_step
          refine (rtimes_t _ _ _ _ he (by omega) (by omega) (by omega) (by omega) t0).mono ?_
          rintro e W' ⟨rfl, hb⟩
          have st : Steps W W' := hb
          exact hK.out _ _ Reg.any ⟨below_steps B (Nat.le_refl _) st, oW.steps st⟩ Reg.none_ rfl
        apply Reg.RC_pure (hc := rfl) (hst := rfl) (hw := rfl) (t := 30) (hd := rfl) (ht := Nat.le_of_ble_eq_true rfl)
        · intro D v W hc hj hf K hK
          obtain ⟨B, oW⟩ := hj
          have cW0 : World.cell? W ⟨w1.heap.size, 0, none⟩ = some (.bool false) := oW.c 0 rfl
          have cW1 : World.cell? W ⟨w1.heap.size, 1, none⟩ = some (.int .u64 (hi64 (T))) := oW.c 1 rfl
          have cW2 : World.cell? W ⟨w1.heap.size, 2, none⟩ = some (.int .u64 (lo64 (T))) := oW.c 2 rfl
          go_step
          exact hK.out
        · rfl
        apply Reg.RC_pure (hc := rfl) (hst := rfl) (hw := rfl) (t := 31) (hd := rfl) (ht := Nat.le_of_ble_eq_true rfl)
        · intro D v W hc hj hf K hK
          go_step
          exact hK.out
        · rfl
        apply Reg.RC_pure (hc := rfl) (hst := rfl) (hw := rfl) (t := 2) (hd := rfl) (ht := Nat.le_of_ble_eq_true rfl)
        · intro D v W hc hj hf K hK
          go_step
          exact hK.out
        · rfl
        apply Reg.RC_pure (hc := rfl) (hst := rfl) (hw := rfl) (t := 3) (hd := rfl) (ht := Nat.le_of_ble_eq_true rfl)
        · intro D v W hc hj hf K hK
          go_step
          exact hK.out
        · rfl
        refine Reg.RC_end (fun D v W hd hj hf => ?_)
        obtain ⟨B, oW⟩ := hj
        clear hd hf
        refine hQ _ _ ?_
        clear hQ hops Q' ops'
        repeat' (first | go_values | go_skip | go_guarded | go_step | go_upon)
        go_returns
        exact ⟨by rw [HI.out]; simp only [he, decide_true]; rfl, B⟩
      · have hne := words_ne he
        go_wp2_with fail
        refine Reg.wp_chain (fun D v W => Below w.heap.size w W ∧ Blk W (w1.heap.size) 77 #[.bool false, .int .u64 (hi64 (T)), .int .u64 (lo64 (T))])
          (Reg.inl [3]) (Reg.ge [(3, .agg #[.bool false, .int .u64 (hi64 (r * r)), .int .u64 (lo64 (r * r))])]) Reg.None_ (fun _ => Reg.Any) (fun _ _ => False) (Reg.pl []) (Reg.pl [])
          (by kernel_rfl) (by kernel_rfl) (by kernel_rfl) (Reg.ge_some _) (fun v => ?_) (fun _ _ _ _ _ h => h) (fun _ _ _ _ _ _ _ _ _ _ _ _ _ => Reg.none_) (fun _ _ _ _ h => h.elim) (fun ops' Q' hops hQ => ?_)
        · exact ⟨(by first | with_reducible exact Below.drew B | with_reducible exact Below.drew (belowN B _) | (repeat' first | with_reducible assumption | with_reducible exact Below.refl _ _ | with_reducible refine Below.alloc ?_ ?_ _ | with_reducible refine Below.drew ?_ | with_reducible refine belowN ?_ _ | with_reducible refine Below.setCell ?_ ?_ _ | go_size)), (show Blk _ _ _ #[.bool false, .int .u64 (hi64 (T)), .int .u64 (lo64 (T))] from (by first | with_reducible exact oW | (repeat' first | with_reducible assumption | (with_reducible refine Blk.new' ?_; first | with_reducible rfl | (simp only [World.size_alloc, World.size_setCell, World.size_drew]; done)) | with_reducible refine Blk.alloc ?_ _ | with_reducible refine Blk.drew ?_ | with_reducible refine Blk.drewN ?_ _ | with_reducible apply Blk.both | with_reducible refine Blk.far' ?_ ?_ | (show _ ≠ _; omega))))⟩
        clear B oW
        apply Reg.RC_pure (hc := rfl) (hst := rfl) (hw := rfl) (t := 26) (hd := rfl) (ht := Nat.le_of_ble_eq_true rfl)
        · intro D v W hc hj hf K hK
          go_step
          exact hK.out
        · rfl
        apply Reg.RC_pure (hc := rfl) (hst := rfl) (hw := rfl) (t := 27) (hd := rfl) (ht := Nat.le_of_ble_eq_true rfl)
        · intro D v W hc hj hf K hK
          go_step
          exact hK.out
        · rfl
        apply Reg.RC_pure (hc := rfl) (hst := rfl) (hw := rfl) (t := 28) (hd := rfl) (ht := Nat.le_of_ble_eq_true rfl)
        · intro D v W hc hj hf K hK
          go_step
          exact hK.out
        · rfl
        refine Reg.RC_exact _ (fun _ h => h) rfl (by intro t ht; cases ht; exact Nat.le_of_ble_eq_true rfl) rfl (fun D v W hc hj hf K hK => ?_) (Reg.RC_at (b := ⟨#[_, _, _, _, _, _, _, _, _, _, _, _, _, _, _, _, _, _, _, _, _, _, _, _, _, _, _, _, _, _, _, _], []⟩) rfl ?_)
        · obtain ⟨B, oW⟩ := hj
          go_step
          refine (rtimes_nn _ _ _ (by omega) (by omega) (by omega) (by omega) rr0).mono ?_
          rintro e W' ⟨rfl, hb⟩
          have st : Steps W W' := hb
          exact hK.out _ _ Reg.any ⟨below_steps B (Nat.le_refl _) st, oW.steps st⟩ Reg.none_ rfl
        apply Reg.RC_pure (hc := rfl) (hst := rfl) (hw := rfl) (t := 30) (hd := rfl) (ht := Nat.le_of_ble_eq_true rfl)
        · intro D v W hc hj hf K hK
          obtain ⟨B, oW⟩ := hj
          have cW0 : World.cell? W ⟨w1.heap.size, 0, none⟩ = some (.bool false) := oW.c 0 rfl
          have cW1 : World.cell? W ⟨w1.heap.size, 1, none⟩ = some (.int .u64 (hi64 (T))) := oW.c 1 rfl
          have cW2 : World.cell? W ⟨w1.heap.size, 2, none⟩ = some (.int .u64 (lo64 (T))) := oW.c 2 rfl
          go_step
          exact hK.out
        · rfl
        apply Reg.RC_pure (hc := rfl) (hst := rfl) (hw := rfl) (t := 31) (hd := rfl) (ht := Nat.le_of_ble_eq_true rfl)
        · intro D v W hc hj hf K hK
          go_step
          rw [ite2 hne, Oper.upon_value]
          show K ⟨#[_, _, _, _, _, _, _, _, _, _, _, _, _, _, _, _, _, _, _, _, _, _, _, _, _, _, _, _, _, _, _, _], []⟩ W
          exact hK.out
        · rfl
        apply Reg.RC_pure (hc := rfl) (hst := rfl) (hw := rfl) (t := 2) (hd := rfl) (ht := Nat.le_of_ble_eq_true rfl)
        · intro D v W hc hj hf K hK
          go_step
          exact hK.out
        · rfl
        apply Reg.RC_pure (hc := rfl) (hst := rfl) (hw := rfl) (t := 3) (hd := rfl) (ht := Nat.le_of_ble_eq_true rfl)
        · intro D v W hc hj hf K hK
          go_step
          exact hK.out
        · rfl
        refine Reg.RC_end (fun D v W hd hj hf => ?_)
        obtain ⟨B, oW⟩ := hj
        clear hd hf
        refine hQ _ _ ?_
        clear hQ hops Q' ops'
        repeat' (first | go_values | go_skip | go_guarded | go_step | go_upon)
        go_returns
        exact ⟨by rw [HI.out]; simp only [he, decide_false]; rfl, B⟩
    · have e1 := pow2_succ k
      have e2 := pow2_pos k
      have hb' : b = pow2 k := by rw [hb, e1]; omega
      clear hb
      rw [e1] at r1 r3
      clear e1
      generalize hp : pow2 k = p at *
      subst hb'
      have HP := Lib.hid hp
      clear hp
      have r4 : 0 ≤ (r + b) * (r + b) := Int.mul_nonneg (by omega) (by omega)
      by_cases hlt : T < (r + b) * (r + b)
      · skip
        have hdec : decide (T < (r + b) * (r + b)) = true := by simp; omega
        have Hlt := Lib.hid hlt
        have H3 := Lib.hid r3
        have H2 := Lib.hid r2
        clear hlt r3 r2
        go_wp2_with fail
        refine Reg.wp_chain (fun D v W => Below w.heap.size w W ∧ Blk W (w1.heap.size) 77 #[.bool false, .int .u64 (hi64 (T)), .int .u64 (lo64 (T))])
          (Reg.inl [7, 8]) (Reg.ge [(7, .agg #[.bool false, .int .u64 (hi64 ((r + b) * (r + b))), .int .u64 (lo64 ((r + b) * (r + b)))]), (8, .bool true)]) Reg.None_ (fun _ => Reg.Any) (fun _ _ => False) (Reg.pl []) (Reg.pl [])
          (by kernel_rfl) (by kernel_rfl) (by kernel_rfl) (Reg.ge_some _) (fun v => ?_) (fun _ _ _ _ _ h => h) (fun _ _ _ _ _ _ _ _ _ _ _ _ _ => Reg.none_) (fun _ _ _ _ h => h.elim) (fun ops' Q' hops hQ => ?_)
        · exact ⟨(by first | with_reducible exact Below.drew B | with_reducible exact Below.drew (belowN B _) | (repeat' first | with_reducible assumption | with_reducible exact Below.refl _ _ | with_reducible refine Below.alloc ?_ ?_ _ | with_reducible refine Below.drew ?_ | with_reducible refine belowN ?_ _ | with_reducible refine Below.setCell ?_ ?_ _ | go_size)), (show Blk _ _ _ #[.bool false, .int .u64 (hi64 (T)), .int .u64 (lo64 (T))] from (by first | with_reducible exact oW | (repeat' first | with_reducible assumption | (with_reducible refine Blk.new' ?_; first | with_reducible rfl | (simp only [World.size_alloc, World.size_setCell, World.size_drew]; done)) | with_reducible refine Blk.alloc ?_ _ | with_reducible refine Blk.drew ?_ | with_reducible refine Blk.drewN ?_ _ | with_reducible apply Blk.both | with_reducible refine Blk.far' ?_ ?_ | (show _ ≠ _; omega))))⟩
        clear B oW
        apply Reg.RC_pure (hc := rfl) (hst := rfl) (hw := rfl) (t := 13) (hd := rfl) (ht := Nat.le_of_ble_eq_true rfl)
        · intro D v W hc hj hf K hK
          obtain ⟨B, oW⟩ := hj
          have cW0 : World.cell? W ⟨w1.heap.size, 0, none⟩ = some (.bool false) := oW.c 0 rfl
          have cW1 : World.cell? W ⟨w1.heap.size, 1, none⟩ = some (.int .u64 (hi64 (T))) := oW.c 1 rfl
          have cW2 : World.cell? W ⟨w1.heap.size, 2, none⟩ = some (.int .u64 (lo64 (T))) := oW.c 2 rfl
          go_step
          exact hK.out
        · rfl
        apply Reg.RC_pure (hc := rfl) (hst := rfl) (hw := rfl) (t := 14) (hd := rfl) (ht := Nat.le_of_ble_eq_true rfl)
        · intro D v W hc hj hf K hK
          go_step
          exact hK.out
        · rfl
        apply Reg.RC_pure (hc := rfl) (hst := rfl) (hw := rfl) (t := 15) (hd := rfl) (ht := Nat.le_of_ble_eq_true rfl)
        · intro D v W hc hj hf K hK
          go_step
          exact hK.out
        · rfl
        apply Reg.RC_pure (hc := rfl) (hst := rfl) (hw := rfl) (t := 16) (hd := rfl) (ht := Nat.le_of_ble_eq_true rfl)
        · intro D v W hc hj hf K hK
          go_step
          exact hK.out
        · rfl
        apply Reg.RC_pure (hc := rfl) (hst := rfl) (hw := rfl) (t := 17) (hd := rfl) (ht := Nat.le_of_ble_eq_true rfl)
        · intro D v W hc hj hf K hK
          go_step
          exact hK.out
        · rfl
        apply Reg.RC_pure (hc := rfl) (hst := rfl) (hw := rfl) (t := 18) (hd := rfl) (ht := Nat.le_of_ble_eq_true rfl)
        · intro D v W hc hj hf K hK
          go_step
          exact hK.out
        · rfl
        apply Reg.RC_pure (hc := rfl) (hst := rfl) (hw := rfl) (t := 19) (hd := rfl) (ht := Nat.le_of_ble_eq_true rfl)
        · intro D v W hc hj hf K hK
          go_step
          exact hK.out
        · rfl
        refine Reg.RC_exact _ (fun _ h => h) rfl (by intro t ht; cases ht; exact Nat.le_of_ble_eq_true rfl) rfl (fun D v W hc hj hf K hK => ?_) (Reg.RC_at (b := ⟨#[_, _, _, _, _, _, _, _, _, _, _, _, _, _, _, _, _, _, _, _, _, _, _, _, _, _, _, _, _, _, _, _], []⟩) rfl ?_)
        · obtain ⟨B, oW⟩ := hj
          go_step
          refine (rtimes_nn _ _ _ (by omega) (by omega) (by omega) (by omega) r4).mono ?_
          rintro e W' ⟨rfl, hb⟩
          have st : Steps W W' := hb
          exact hK.out _ _ Reg.any ⟨below_steps B (Nat.le_refl _) st, oW.steps st⟩ Reg.none_ rfl
        refine Reg.RC_exact _ (fun _ h => h) rfl (by intro t ht; cases ht; exact Nat.le_of_ble_eq_true rfl) rfl (fun D v W hc hj hf K hK => ?_) (Reg.RC_at (b := ⟨#[_, _, _, _, _, _, _, _, _, _, _, _, _, _, _, _, _, _, _, _, _, _, _, _, _, _, _, _, _, _, _, _], []⟩) rfl ?_)
        · obtain ⟨B, oW⟩ := hj
          go_step
          refine (rless_t _ _ _ t0 r4 _ hdec).mono ?_
          rintro e W' ⟨rfl, hb⟩
          have st : Steps W W' := hb
          exact hK.out _ _ Reg.any ⟨below_steps B (Nat.le_refl _) st, oW.steps st⟩ Reg.none_ rfl
        apply Reg.RC_pure (hc := rfl) (hst := rfl) (hw := rfl) (t := 22) (hd := rfl) (ht := Nat.le_of_ble_eq_true rfl)
        · intro D v W hc hj hf K hK
          go_step
          exact hK.out
        · rfl
        refine Reg.RC_end (fun D v W hd hj hf => ?_)
        obtain ⟨B, oW⟩ := hj
        clear hd hf
        refine hQ _ _ ?_
        clear hQ hops Q' ops'
        repeat' (first | go_values | go_skip | go_guarded | go_step | go_upon)
        go_roundw
        case rel => exact ⟨k, r, b / 2, ⟨by omega, by rw [HP.out]; omega, by rw [HP.out], H2.out, by rw [HP.out]; exact Hlt.out⟩, rfl, by go_num, oW, B⟩
        case measure => simp [intOf]; omega
      · skip
        have hdec : decide (T < (r + b) * (r + b)) = false := by simp; omega
        have Hlt := Lib.hid hlt
        have H3 := Lib.hid r3
        have H2 := Lib.hid r2
        clear hlt r3 r2
        go_wp2_with fail
        refine Reg.wp_chain (fun D v W => Below w.heap.size w W ∧ Blk W (w1.heap.size) 77 #[.bool false, .int .u64 (hi64 (T)), .int .u64 (lo64 (T))])
          (Reg.inl [7, 8]) (Reg.ge [(7, .agg #[.bool false, .int .u64 (hi64 ((r + b) * (r + b))), .int .u64 (lo64 ((r + b) * (r + b)))]), (8, .bool false)]) Reg.None_ (fun _ => Reg.Any) (fun _ _ => False) (Reg.pl []) (Reg.pl [])
          (by kernel_rfl) (by kernel_rfl) (by kernel_rfl) (Reg.ge_some _) (fun v => ?_) (fun _ _ _ _ _ h => h) (fun _ _ _ _ _ _ _ _ _ _ _ _ _ => Reg.none_) (fun _ _ _ _ h => h.elim) (fun ops' Q' hops hQ => ?_)
        · exact ⟨(by first | with_reducible exact Below.drew B | with_reducible exact Below.drew (belowN B _) | (repeat' first | with_reducible assumption | with_reducible exact Below.refl _ _ | with_reducible refine Below.alloc ?_ ?_ _ | with_reducible refine Below.drew ?_ | with_reducible refine belowN ?_ _ | with_reducible refine Below.setCell ?_ ?_ _ | go_size)), (show Blk _ _ _ #[.bool false, .int .u64 (hi64 (T)), .int .u64 (lo64 (T))] from (by first | with_reducible exact oW | (repeat' first | with_reducible assumption | (with_reducible refine Blk.new' ?_; first | with_reducible rfl | (simp only [World.size_alloc, World.size_setCell, World.size_drew]; done)) | with_reducible refine Blk.alloc ?_ _ | with_reducible refine Blk.drew ?_ | with_reducible refine Blk.drewN ?_ _ | with_reducible apply Blk.both | with_reducible refine Blk.far' ?_ ?_ | (show _ ≠ _; omega))))⟩
        clear B oW
        apply Reg.RC_pure (hc := rfl) (hst := rfl) (hw := rfl) (t := 13) (hd := rfl) (ht := Nat.le_of_ble_eq_true rfl)
        · intro D v W hc hj hf K hK
          obtain ⟨B, oW⟩ := hj
          have cW0 : World.cell? W ⟨w1.heap.size, 0, none⟩ = some (.bool false) := oW.c 0 rfl
          have cW1 : World.cell? W ⟨w1.heap.size, 1, none⟩ = some (.int .u64 (hi64 (T))) := oW.c 1 rfl
          have cW2 : World.cell? W ⟨w1.heap.size, 2, none⟩ = some (.int .u64 (lo64 (T))) := oW.c 2 rfl
          go_step
          exact hK.out
        · rfl
        apply Reg.RC_pure (hc := rfl) (hst := rfl) (hw := rfl) (t := 14) (hd := rfl) (ht := Nat.le_of_ble_eq_true rfl)
        · intro D v W hc hj hf K hK
          go_step
          exact hK.out
        · rfl
        apply Reg.RC_pure (hc := rfl) (hst := rfl) (hw := rfl) (t := 15) (hd := rfl) (ht := Nat.le_of_ble_eq_true rfl)
        · intro D v W hc hj hf K hK
          go_step
          exact hK.out
        · rfl
        apply Reg.RC_pure (hc := rfl) (hst := rfl) (hw := rfl) (t := 16) (hd := rfl) (ht := Nat.le_of_ble_eq_true rfl)
        · intro D v W hc hj hf K hK
          go_step
          exact hK.out
        · rfl
        apply Reg.RC_pure (hc := rfl) (hst := rfl) (hw := rfl) (t := 17) (hd := rfl) (ht := Nat.le_of_ble_eq_true rfl)
        · intro D v W hc hj hf K hK
          go_step
          exact hK.out
        · rfl
        apply Reg.RC_pure (hc := rfl) (hst := rfl) (hw := rfl) (t := 18) (hd := rfl) (ht := Nat.le_of_ble_eq_true rfl)
        · intro D v W hc hj hf K hK
          go_step
          exact hK.out
        · rfl
        apply Reg.RC_pure (hc := rfl) (hst := rfl) (hw := rfl) (t := 19) (hd := rfl) (ht := Nat.le_of_ble_eq_true rfl)
        · intro D v W hc hj hf K hK
          go_step
          exact hK.out
        · rfl
        refine Reg.RC_exact _ (fun _ h => h) rfl (by intro t ht; cases ht; exact Nat.le_of_ble_eq_true rfl) rfl (fun D v W hc hj hf K hK => ?_) (Reg.RC_at (b := ⟨#[_, _, _, _, _, _, _, _, _, _, _, _, _, _, _, _, _, _, _, _, _, _, _, _, _, _, _, _, _, _, _, _], []⟩) rfl ?_)
        · obtain ⟨B, oW⟩ := hj
          go_step
          refine (rtimes_nn _ _ _ (by omega) (by omega) (by omega) (by omega) r4).mono ?_
          rintro e W' ⟨rfl, hb⟩
          have st : Steps W W' := hb
          exact hK.out _ _ Reg.any ⟨below_steps B (Nat.le_refl _) st, oW.steps st⟩ Reg.none_ rfl
        refine Reg.RC_exact _ (fun _ h => h) rfl (by intro t ht; cases ht; exact Nat.le_of_ble_eq_true rfl) rfl (fun D v W hc hj hf K hK => ?_) (Reg.RC_at (b := ⟨#[_, _, _, _, _, _, _, _, _, _, _, _, _, _, _, _, _, _, _, _, _, _, _, _, _, _, _, _, _, _, _, _], []⟩) rfl ?_)
        · obtain ⟨B, oW⟩ := hj
          go_step
          refine (rless_t _ _ _ t0 r4 _ hdec).mono ?_
          rintro e W' ⟨rfl, hb⟩
          have st : Steps W W' := hb
          exact hK.out _ _ Reg.any ⟨below_steps B (Nat.le_refl _) st, oW.steps st⟩ Reg.none_ rfl
        apply Reg.RC_pure (hc := rfl) (hst := rfl) (hw := rfl) (t := 22) (hd := rfl) (ht := Nat.le_of_ble_eq_true rfl)
        · intro D v W hc hj hf K hK
          go_step
          exact hK.out
        · rfl
        refine Reg.RC_end (fun D v W hd hj hf => ?_)
        obtain ⟨B, oW⟩ := hj
        clear hd hf
        refine hQ _ _ ?_
        clear hQ hops Q' ops'
        repeat' (first | go_values | go_skip | go_guarded | go_step | go_upon)
        go_roundw
        case rel => exact ⟨k, r + b, b / 2, ⟨by omega, by rw [HP.out]; omega, by rw [HP.out], by have := Hlt.out; omega, by rw [HP.out]; have := H3.out; rwa [show r + b + b = r + 2 * b by omega]⟩, rfl, by go_num, oW, B⟩
        case measure => simp [intOf]; omega
