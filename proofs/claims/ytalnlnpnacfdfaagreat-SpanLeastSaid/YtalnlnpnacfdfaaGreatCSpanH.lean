import Derived.Test.YtalnlnpnacfdfaaGreatCSpanD
import Derived.Test.YtalnlnpnacfdfaaGreatCReg
namespace Go.Proofs.YtalnlnpnacfdfaaGreat
open Go.RowKit
def mn (a b : Int) : Int := min a b
def mx (a b : Int) : Int := max a b
theorem least1m (t u0 : Int) (b : Nat) (w : World) (hb : b < w.heap.size) (h0 : w.cell? ⟨b, 0, none⟩ = some (.int .i64 (hi64 u0))) (g0 : w.cell? ⟨b, 1, none⟩ = some (.int .u64 (lo64 u0))) : Calls Tryz.prog 34 #[.agg #[.int .i64 (hi64 t), .int .u64 (lo64 t)], .slice (some ⟨b, 0, none⟩) 1 1] w fun e w' => e = .returned (.agg #[.int .i64 (hi64 (mn t u0)), .int .u64 (lo64 (mn t u0))]) ∧ Below w.heap.size w w' := least1 t u0 b w hb h0 g0
theorem least3m (t u0 u1 u2 : Int) (b : Nat) (w : World) (hb : b < w.heap.size) (h0 : w.cell? ⟨b, 2, none⟩ = some (.int .i64 (hi64 u0))) (g0 : w.cell? ⟨b, 3, none⟩ = some (.int .u64 (lo64 u0))) (h1 : w.cell? ⟨b, 4, none⟩ = some (.int .i64 (hi64 u1))) (g1 : w.cell? ⟨b, 5, none⟩ = some (.int .u64 (lo64 u1))) (h2 : w.cell? ⟨b, 6, none⟩ = some (.int .i64 (hi64 u2))) (g2 : w.cell? ⟨b, 7, none⟩ = some (.int .u64 (lo64 u2))) : Calls Tryz.prog 34 #[.agg #[.int .i64 (hi64 t), .int .u64 (lo64 t)], .slice (some ⟨b, 2, none⟩) 3 3] w fun e w' => e = .returned (.agg #[.int .i64 (hi64 (mn (mn (mn t u0) u1) u2)), .int .u64 (lo64 (mn (mn (mn t u0) u1) u2))]) ∧ Below w.heap.size w w' := least3 t u0 u1 u2 b w hb h0 g0 h1 g1 h2 g2
theorem greatest1m (t u0 : Int) (b : Nat) (w : World) (hb : b < w.heap.size) (h0 : w.cell? ⟨b, 0, none⟩ = some (.int .i64 (hi64 u0))) (g0 : w.cell? ⟨b, 1, none⟩ = some (.int .u64 (lo64 u0))) : Calls Tryz.prog 36 #[.agg #[.int .i64 (hi64 t), .int .u64 (lo64 t)], .slice (some ⟨b, 0, none⟩) 1 1] w fun e w' => e = .returned (.agg #[.int .i64 (hi64 (mx t u0)), .int .u64 (lo64 (mx t u0))]) ∧ Below w.heap.size w w' := greatest1 t u0 b w hb h0 g0
theorem greatest3m (t u0 u1 u2 : Int) (b : Nat) (w : World) (hb : b < w.heap.size) (h0 : w.cell? ⟨b, 2, none⟩ = some (.int .i64 (hi64 u0))) (g0 : w.cell? ⟨b, 3, none⟩ = some (.int .u64 (lo64 u0))) (h1 : w.cell? ⟨b, 4, none⟩ = some (.int .i64 (hi64 u1))) (g1 : w.cell? ⟨b, 5, none⟩ = some (.int .u64 (lo64 u1))) (h2 : w.cell? ⟨b, 6, none⟩ = some (.int .i64 (hi64 u2))) (g2 : w.cell? ⟨b, 7, none⟩ = some (.int .u64 (lo64 u2))) : Calls Tryz.prog 36 #[.agg #[.int .i64 (hi64 t), .int .u64 (lo64 t)], .slice (some ⟨b, 2, none⟩) 3 3] w fun e w' => e = .returned (.agg #[.int .i64 (hi64 (mx (mx (mx t u0) u1) u2)), .int .u64 (lo64 (mx (mx (mx t u0) u1) u2))]) ∧ Below w.heap.size w w' := greatest3 t u0 u1 u2 b w hb h0 g0 h1 g1 h2 g2
theorem sq_b {a : Int} (h0 : -2305843009213693952 ≤ a) (h1 : a ≤ 2305843009213693952) : 0 ≤ a * a ∧ a * a ≤ 5316911983139663491615228241121378304 := by
  have h := prod_b h0 h1 h0 h1
  refine ⟨?_, by omega⟩
  rcases Int.le_total 0 a with h | h
  · exact Int.mul_nonneg h h
  · exact Int.mul_nonneg_of_nonpos_of_nonpos h h
theorem abs_pq {a b : Int} (h : V a b) : ∃ p q : Int, absV a b = (p, q, 0) ∧ 0 ≤ p ∧ p ≤ q ∧ q ≤ 2305843009213693952 := by
  obtain ⟨h0, h1, h2⟩ := h
  unfold absV
  split
  · exact ⟨a, b, rfl, by omega, by omega, by omega⟩
  · split
    · exact ⟨-b, -a, rfl, by omega, by omega, by omega⟩
    · exact ⟨0, max (-a) b, rfl, by omega, by omega, by omega⟩
def sqV (t : Int × Int × Int) : Int × Int × Int := md (dn (t.1 * t.1) 1099511627776) (upq (t.2.1 * t.2.1) 1099511627776)
def sqS (a b : Int) : Int × Int × Int := ifV (V a b) (sqV (absV a b))
set_option maxRecDepth 100000 in
set_option maxHeartbeats 4000000 in
theorem sq_p (a b : Int) (w : World) : Calls Tryz.prog 15 #[.agg #[.int .i64 a, .int .i64 b]] w (G3 w (sqS a b)) := by
  by_cases hv : V a b
  · obtain ⟨p, q, hpq, p0, p1, p2⟩ := abs_pq hv
    have H : Hid (sqS a b = md (dn (p * p) 1099511627776) (upq (q * q) 1099511627776)) := by show sqS a b = _; unfold sqS ifV; rw [if_pos hv, hpq]; rfl
    have hA : Hid (absS a b = (p, q, 0)) := by show absS a b = _; unfold absS ifV; rw [if_pos hv, hpq]
    clear hpq hv
    obtain ⟨s0, s1⟩ := sq_b (a := p) (by omega) (by omega)
    obtain ⟨s2, s3⟩ := sq_b (a := q) (by omega) (by omega)
    go_enter Tryz.func15, Tryz.ntmps15
    go_wp2_with fail
    refine (abs_p a b _).mono ?_
    rintro e w1 ⟨rfl, hb1⟩
    have st : Steps _ w1 := hb1
    have Bn : Below w.heap.size w w1 := belowA st
    have nA : Blk w1 (w.heap.size) 23 #[.int .i64 (a), .int .i64 (b)] := Blk.stepsA st
    have nR : Blk w1 (w.heap.size + 1) 23 #[.int .i64 (0), .int .i64 (0)] := Blk.stepsA st
    clear st
    have B := Bn
    clear Bn
    have oA := nA
    clear nA
    have cA0 := oA.q0
    have cA1 := oA.q1
    have fA := oA.fr
    have lA := oA.lt
    have oR := nR
    clear nR
    have cR0 := oR.q0
    have cR1 := oR.q1
    have fR := oR.fr
    have lR := oR.lt
    rw [hA.out]
    go_wp2_with fail
    refine Reg.wp_chain (fun D v W => Below w.heap.size w W ∧ Blk W (w.heap.size + 1) 23 #[Reg.sel (D 15) (.int .i64 (0)) (.int .i64 ((md (dn (p * p) 1099511627776) (upq (q * q) 1099511627776)).1)), Reg.sel (D 15) (.int .i64 (0)) (.int .i64 ((md (dn (p * p) 1099511627776) (upq (q * q) 1099511627776)).2.1))] ∧ Blk W (w1.heap.size) 23 #[.int .i64 (p), .int .i64 (q)])
      (Reg.inl [4, 5, 10, 11, 12, 15]) (Reg.ge [(4, .agg #[.int .i64 (hi64 (p * p)), .int .u64 (lo64 (p * p))]), (5, .int .i64 (dn (p * p) 1099511627776)), (10, .agg #[.int .i64 (hi64 (q * q)), .int .u64 (lo64 (q * q))]), (11, .int .i64 (upq (q * q) 1099511627776)), (12, .tuple #[.agg #[.int .i64 ((md (dn (p * p) 1099511627776) (upq (q * q) 1099511627776)).1), .int .i64 ((md (dn (p * p) 1099511627776) (upq (q * q) 1099511627776)).2.1)], .int .i64 ((md (dn (p * p) 1099511627776) (upq (q * q) 1099511627776)).2.2)])]) Reg.None_ (fun _ => Reg.Any) (fun _ _ => False) (Reg.pl []) (Reg.pl [])
      (by kernel_rfl) (by kernel_rfl) (by kernel_rfl) (Reg.ge_some _) (fun v => ?_) (fun _ _ _ _ _ h => h) (fun _ _ _ _ _ _ _ _ _ _ _ _ _ => Reg.none_) (fun _ _ _ _ h => h.elim) (fun ops' Q' hops hQ => ?_)
    · exact ⟨(by first | with_reducible exact Below.drew B | with_reducible exact Below.drew (belowN B _) | (repeat' first | with_reducible assumption | with_reducible exact Below.refl _ _ | with_reducible refine Below.alloc ?_ ?_ _ | with_reducible refine Below.drew ?_ | with_reducible refine belowN ?_ _ | with_reducible refine Below.setCell ?_ ?_ _ | go_size)), (show Blk _ _ _ #[.int .i64 (0), .int .i64 (0)] from (by first | with_reducible exact oR | (repeat' first | with_reducible assumption | (with_reducible refine Blk.new' ?_; first | with_reducible rfl | (simp only [World.size_alloc, World.size_setCell, World.size_drew]; done)) | with_reducible refine Blk.alloc ?_ _ | with_reducible refine Blk.drew ?_ | with_reducible refine Blk.drewN ?_ _ | with_reducible apply Blk.both | with_reducible refine Blk.far' ?_ ?_ | (show _ ≠ _; omega)))), (show Blk _ _ _ #[.int .i64 (p), .int .i64 (q)] from (by first | with_reducible exact oX | (repeat' first | with_reducible assumption | (with_reducible refine Blk.new' ?_; first | with_reducible rfl | (simp only [World.size_alloc, World.size_setCell, World.size_drew]; done)) | with_reducible refine Blk.alloc ?_ _ | with_reducible refine Blk.drew ?_ | with_reducible refine Blk.drewN ?_ _ | with_reducible apply Blk.both | with_reducible refine Blk.far' ?_ ?_ | (show _ ≠ _; omega))))⟩
    clear B oR
    apply Reg.RC_pure (hc := rfl) (hst := rfl) (hw := rfl) (t := 15) (hd := rfl) (ht := Nat.le_of_ble_eq_true rfl)
    · intro D v W hc hj hf K hK
      go_step
      exact hK.out
    · rfl
    apply Reg.RC_pure (hc := rfl) (hst := rfl) (hw := rfl) (t := 16) (hd := rfl) (ht := Nat.le_of_ble_eq_true rfl)
    · intro D v W hc hj hf K hK
      obtain ⟨B, oR, oX⟩ := hj
      have cX0 := oX.q0
      have cX1 := oX.q1
      go_step
      exact hK.out
    · rfl
    apply Reg.RC_pure (hc := rfl) (hst := rfl) (hw := rfl) (t := 17) (hd := rfl) (ht := Nat.le_of_ble_eq_true rfl)
    · intro D v W hc hj hf K hK
      go_step
      exact hK.out
    · rfl
    apply Reg.RC_pure (hc := rfl) (hst := rfl) (hw := rfl) (t := 18) (hd := rfl) (ht := Nat.le_of_ble_eq_true rfl)
    · intro D v W hc hj hf K hK
      obtain ⟨B, oR, oX⟩ := hj
      have cX0 := oX.q0
      have cX1 := oX.q1
      go_step
      exact hK.out
    · rfl
    refine Reg.RC_exact _ (fun _ h => h) rfl (by intro t ht; cases ht; exact Nat.le_of_ble_eq_true rfl) rfl (fun D v W hc hj hf K hK => ?_) (Reg.RC_at (b := ⟨#[_,_,_,_,_,_,_,_,_,_,_,_,_,_,_,_,_,_,_,_,_,_,_,_,_,_,_,_,_,_], []⟩) rfl ?_)
    · obtain ⟨B, oR, oX⟩ := hj
      go_step
      refine (times_any _ _ _ (by omega) (by omega) (by omega) (by omega)).mono ?_
      rintro e W' ⟨rfl, hb⟩
      have st : Steps W W' := hb
      exact hK.out _ _ Reg.any ⟨below_steps B (Nat.le_refl _) st, oR.steps st, oX.steps st⟩ Reg.none_ rfl
    refine Reg.RC_exact _ (fun _ h => h) rfl (by intro t ht; cases ht; exact Nat.le_of_ble_eq_true rfl) rfl (fun D v W hc hj hf K hK => ?_) (Reg.RC_at (b := ⟨#[_,_,_,_,_,_,_,_,_,_,_,_,_,_,_,_,_,_,_,_,_,_,_,_,_,_,_,_,_,_], []⟩) rfl ?_)
    · obtain ⟨B, oR, oX⟩ := hj
      go_step
      refine (down_any _ _ _ (by omega) (by omega) (by omega) (by omega)).mono ?_
      rintro e W' ⟨rfl, hb⟩
      have st : Steps W W' := hb
      exact hK.out _ _ Reg.any ⟨below_steps B (Nat.le_refl _) st, oR.steps st, oX.steps st⟩ Reg.none_ rfl
    apply Reg.RC_pure (hc := rfl) (hst := rfl) (hw := rfl) (t := 21) (hd := rfl) (ht := Nat.le_of_ble_eq_true rfl)
    · intro D v W hc hj hf K hK
      go_step
      exact hK.out
    · rfl
    apply Reg.RC_pure (hc := rfl) (hst := rfl) (hw := rfl) (t := 22) (hd := rfl) (ht := Nat.le_of_ble_eq_true rfl)
    · intro D v W hc hj hf K hK
      obtain ⟨B, oR, oX⟩ := hj
      have cX0 := oX.q0
      have cX1 := oX.q1
      go_step
      exact hK.out
    · rfl
    apply Reg.RC_pure (hc := rfl) (hst := rfl) (hw := rfl) (t := 23) (hd := rfl) (ht := Nat.le_of_ble_eq_true rfl)
    · intro D v W hc hj hf K hK
      go_step
      exact hK.out
    · rfl
    apply Reg.RC_pure (hc := rfl) (hst := rfl) (hw := rfl) (t := 24) (hd := rfl) (ht := Nat.le_of_ble_eq_true rfl)
    · intro D v W hc hj hf K hK
      obtain ⟨B, oR, oX⟩ := hj
      have cX0 := oX.q0
      have cX1 := oX.q1
      go_step
      exact hK.out
    · rfl
    refine Reg.RC_exact _ (fun _ h => h) rfl (by intro t ht; cases ht; exact Nat.le_of_ble_eq_true rfl) rfl (fun D v W hc hj hf K hK => ?_) (Reg.RC_at (b := ⟨#[_,_,_,_,_,_,_,_,_,_,_,_,_,_,_,_,_,_,_,_,_,_,_,_,_,_,_,_,_,_], []⟩) rfl ?_)
    · obtain ⟨B, oR, oX⟩ := hj
      go_step
      refine (times_any _ _ _ (by omega) (by omega) (by omega) (by omega)).mono ?_
      rintro e W' ⟨rfl, hb⟩
      have st : Steps W W' := hb
      exact hK.out _ _ Reg.any ⟨below_steps B (Nat.le_refl _) st, oR.steps st, oX.steps st⟩ Reg.none_ rfl
    refine Reg.RC_exact _ (fun _ h => h) rfl (by intro t ht; cases ht; exact Nat.le_of_ble_eq_true rfl) rfl (fun D v W hc hj hf K hK => ?_) (Reg.RC_at (b := ⟨#[_,_,_,_,_,_,_,_,_,_,_,_,_,_,_,_,_,_,_,_,_,_,_,_,_,_,_,_,_,_], []⟩) rfl ?_)
    · obtain ⟨B, oR, oX⟩ := hj
      go_step
      refine (up_any _ _ _ (by omega) (by omega) (by omega) (by omega)).mono ?_
      rintro e W' ⟨rfl, hb⟩
      have st : Steps W W' := hb
      exact hK.out _ _ Reg.any ⟨below_steps B (Nat.le_refl _) st, oR.steps st, oX.steps st⟩ Reg.none_ rfl
    refine Reg.RC_exact _ (fun _ h => h) rfl (by intro t ht; cases ht; exact Nat.le_of_ble_eq_true rfl) rfl (fun D v W hc hj hf K hK => ?_) (Reg.RC_at (b := ⟨#[_,_,_,_,_,_,_,_,_,_,_,_,_,_,_,_,_,_,_,_,_,_,_,_,_,_,_,_,_,_], []⟩) rfl ?_)
    · obtain ⟨B, oR, oX⟩ := hj
      go_step
      refine (made_any _ _ _).mono ?_
      rintro e W' ⟨rfl, hb⟩
      have st : Steps W W' := hb
      exact hK.out _ _ Reg.any ⟨below_steps B (Nat.le_refl _) st, oR.steps st, oX.steps st⟩ Reg.none_ rfl
    apply Reg.RC_pure (hc := rfl) (hst := rfl) (hw := rfl) (t := 28) (hd := rfl) (ht := Nat.le_of_ble_eq_true rfl)
    · intro D v W hc hj hf K hK
      go_step
      exact hK.out
    · rfl
    apply Reg.RC_pure (hc := rfl) (hst := rfl) (hw := rfl) (t := 29) (hd := rfl) (ht := Nat.le_of_ble_eq_true rfl)
    · intro D v W hc hj hf K hK
      go_step
      exact hK.out
    · rfl
    refine Reg.RC_call rfl (by intro t ht; cases ht) rfl (fun D v W hc hj hf K hK => ?_) (fun _ _ => Reg.RC_at (b := ⟨_, []⟩) rfl ?_)
    · obtain ⟨B, oR, oX⟩ := hj
      have hs : D 15 = false := hc.1
      have oR : Blk W (w.heap.size + 1) 23 #[.int .i64 (0), .int .i64 (0)] := by have o := oR; simp only [hs, Reg.sel_false] at o; exact o
      have lR := oR.lt
      have fR := oR.fr
      have cR0 := oR.q0
      have cR1 := oR.q1
      go_step
      exact hK.out undef _ Reg.any ⟨(by (repeat' first | with_reducible assumption | with_reducible exact Below.refl _ _ | with_reducible refine Below.alloc ?_ ?_ _ | with_reducible refine Below.drew ?_ | with_reducible refine belowN ?_ _ | with_reducible refine Below.setCell ?_ ?_ _ | go_size)), (show Blk _ _ _ #[.int .i64 ((md (dn (p * p) 1099511627776) (upq (q * q) 1099511627776)).1), .int .i64 ((md (dn (p * p) 1099511627776) (upq (q * q) 1099511627776)).2.1)] from (Blk.set2 (cs' := #[.int .i64 ((md (dn (p * p) 1099511627776) (upq (q * q) 1099511627776)).1), .int .i64 ((md (dn (p * p) 1099511627776) (upq (q * q) 1099511627776)).2.1)]) (Blk.set2 (cs' := #[.int .i64 ((md (dn (p * p) 1099511627776) (upq (q * q) 1099511627776)).1), .int .i64 (0)]) oR (i := 0) rfl) (i := 1) rfl)), (show Blk _ _ _ #[.int .i64 (p), .int .i64 (q)] from ownB)⟩ Reg.none_ trivial
    apply Reg.RC_pure (hc := rfl) (hst := rfl) (hw := rfl) (t := 3) (hd := rfl) (ht := Nat.le_of_ble_eq_true rfl)
    · intro D v W hc hj hf K hK
      go_step
      exact hK.out
    · rfl
    refine Reg.RC_end (fun D v W hd hj hf => ?_)
    obtain ⟨B, oR, oX⟩ := hj
    have e15 : D 15 = true := hd 15 (by decide)
    have oR : Blk W (w.heap.size + 1) 23 #[.int .i64 ((md (dn (p * p) 1099511627776) (upq (q * q) 1099511627776)).1), .int .i64 ((md (dn (p * p) 1099511627776) (upq (q * q) 1099511627776)).2.1)] := by have o := oR; simp only [e15, Reg.sel_true] at o; exact o
    clear e15
    clear hd hf
    refine hQ _ _ ?_
    clear hQ hops Q' ops'
    have lR := oR.lt
    have cR0 := oR.c 0 rfl
    have cR1 := oR.c 1 rfl
    have fR := oR.fr
    repeat' (first | go_values | go_skip | go_guarded | go_step | go_upon)
    refine bodyPost_ret (by simp [results, Tryz.results15, go_sem, lR, cR0, cR1, fR]; rfl) rfl ?_
    show G3 w _ _ _
    rw [H.out]
    exact ⟨rfl, B⟩
  · have H : Hid (sqS a b = (0, 0, 8)) := if_neg hv
    have hA : Hid (absS a b = (0, 0, 8)) := if_neg hv
    go_enter Tryz.func15, Tryz.ntmps15
    go_wp2_with fail
    refine (abs_p a b _).mono ?_
    rintro e w1 ⟨rfl, hb1⟩
    have st : Steps _ w1 := hb1
    have Bn : Below w.heap.size w w1 := belowA st
    have nR : Blk w1 (w.heap.size + 1) 23 #[.int .i64 (0), .int .i64 (0)] := Blk.stepsA st
    clear st
    have B := Bn
    clear Bn
    have oR := nR
    clear nR
    have cR0 := oR.q0
    have cR1 := oR.q1
    have fR := oR.fr
    have lR := oR.lt
    rw [hA.out]
    go_wp2_with fail
    refine bodyPost_ret (by simp [results, Tryz.results15, go_sem, cR0, cR1, fR, lR]; rfl) rfl ?_
    show G3 w _ _ _
    rw [H.out]
    exact ⟨rfl, belowB⟩
theorem isqrt_b {n : Int} (h0 : 0 ≤ n) (h1 : n ≤ 2535301200456458802993406410752) : 0 ≤ isqrt n ∧ isqrt n ≤ 2251799813685248 := by
  obtain ⟨m, rfl⟩ := Int.eq_ofNat_of_zero_le h0
  unfold isqrt
  simp only [Int.toNat_natCast]
  have h2 := Nat.sqrt_le m
  refine ⟨by omega, ?_⟩
  rcases Nat.lt_or_ge 2251799813685248 m.sqrt with h | h
  · have := Nat.mul_le_mul h h; omega
  · omega
theorem times_t (a b t : Int) (w : World) (ht : a * b = t) (a0 : -9223372036854775808 ≤ a) (a1 : a ≤ 9223372036854775807) (b0 : -9223372036854775808 ≤ b) (b1 : b ≤ 9223372036854775807) :
    Calls Tryz.prog 33 #[.int .i64 a, .int .i64 b] w fun e w' => e = .returned (.agg #[.int .i64 (hi64 t), .int .u64 (lo64 t)]) ∧ Below w.heap.size w w' := ht ▸ times_any a b w a0 a1 b0 b1
theorem ite2 {α : Type} {p q : Prop} [Decidable p] [Decidable q] {x y : α} (h : ¬ (p ∧ q)) : (if p then if q then x else y else y) = y := by
  by_cases hp : p <;> by_cases hq : q <;> simp_all
theorem words_ne {t u : Int} (h : t ≠ u) : ¬ (hi64 t = hi64 u ∧ lo64 t = lo64 u) := fun ⟨a, b⟩ => h (by rw [← hilo t, ← hilo u, a, b])
def sqrtV (a b : Int) : Int × Int × Int := if a < 0 then (0, 0, 2) else (isqrt (a * 1099511627776), if isqrt (b * 1099511627776) * isqrt (b * 1099511627776) = b * 1099511627776 then isqrt (b * 1099511627776) else isqrt (b * 1099511627776) + 1, 0)
def sqrtS (a b : Int) : Int × Int × Int := ifV (V a b) (sqrtV a b)
set_option maxRecDepth 100000 in
set_option maxHeartbeats 4000000 in
theorem sqrt_p (a b : Int) (w : World) : Calls Tryz.prog 19 #[.agg #[.int .i64 a, .int .i64 b]] w (G3 w (sqrtS a b)) := by
  by_cases hv : V a b
  · by_cases ha : a < 0
    · have H : Hid (sqrtS a b = (0, 0, 2)) := by show sqrtS a b = _; unfold sqrtS ifV sqrtV; rw [if_pos hv, if_pos ha]
      obtain ⟨v0, v1, v2⟩ := hv
      go_enter Tryz.func19, Tryz.ntmps19
      go_wp2_with fail
      refine (check1_ok _ a b _ (by simp [go_sem]) (by simp [go_sem]) v0 v1 v2).mono ?_
      rintro e w1 ⟨rfl, hb1⟩
      have st : Steps _ w1 := hb1
      have Bn : Below w.heap.size w w1 := belowA st
      have nA : Blk w1 (w.heap.size) 23 #[.int .i64 (a), .int .i64 (b)] := Blk.stepsA st
      have nR : Blk w1 (w.heap.size + 1) 23 #[.int .i64 (0), .int .i64 (0)] := Blk.stepsA st
      clear st
      have B := Bn
      clear Bn
      have oA := nA
      clear nA
      have cA0 := oA.q0
      have cA1 := oA.q1
      have fA := oA.fr
      have lA := oA.lt
      have oR := nR
      clear nR
      have cR0 := oR.q0
      have cR1 := oR.q1
      have fR := oR.fr
      have lR := oR.lt
      go_wp2_with fail
      refine bodyPost_ret (by simp [results, Tryz.results19, go_sem, cR0, cR1, fR, lR]; rfl) rfl ?_
      show G3 w _ _ _
      rw [H.out]
      exact ⟨rfl, belowB⟩
    · have hv' := hv
      obtain ⟨v0, v1, v2⟩ := hv
      obtain ⟨r0, r1⟩ := isqrt_b (n := b * 1099511627776) (by omega) (by omega)
      obtain ⟨s0, s1⟩ := sq_b (a := isqrt (b * 1099511627776)) (by omega) (by omega)
      by_cases he : isqrt (b * 1099511627776) * isqrt (b * 1099511627776) = b * 1099511627776
      · have H : Hid (sqrtS a b = (isqrt (a * 1099511627776), isqrt (b * 1099511627776), 0)) := by show sqrtS a b = _; unfold sqrtS ifV sqrtV; rw [if_pos hv', if_neg ha, if_pos he]
        clear hv'
        go_enter Tryz.func19, Tryz.ntmps19
        go_wp2_with fail
        refine (check1_ok _ a b _ (by simp [go_sem]) (by simp [go_sem]) v0 v1 v2).mono ?_
        rintro e w1 ⟨rfl, hb1⟩
        have st : Steps _ w1 := hb1
        have Bn : Below w.heap.size w w1 := belowA st
        have nA : Blk w1 (w.heap.size) 23 #[.int .i64 (a), .int .i64 (b)] := Blk.stepsA st
        have nR : Blk w1 (w.heap.size + 1) 23 #[.int .i64 (0), .int .i64 (0)] := Blk.stepsA st
        clear st
        have B := Bn
        clear Bn
        have oA := nA
        clear nA
        have cA0 := oA.q0
        have cA1 := oA.q1
        have fA := oA.fr
        have lA := oA.lt
        have oR := nR
        clear nR
        have cR0 := oR.q0
        have cR1 := oR.q1
        have fR := oR.fr
        have lR := oR.lt
        go_wp2_with fail
        refine (root_any b _ (by omega) (by omega)).mono ?_
        rintro e w2 ⟨rfl, hb2⟩
        have st : Steps _ w2 := hb2
        have Bn : Below w.heap.size w w2 := belowA st
        have nA := oA.stq st
        have nR := oR.stq st
        clear B oA oR cA0 cA1 fA lA cR0 cR1 fR lR
        clear st
        have B := Bn
        clear Bn
        have oA := nA
        clear nA
        have cA0 := oA.q0
        have cA1 := oA.q1
        have fA := oA.fr
        have lA := oA.lt
        have oR := nR
        clear nR
        have cR0 := oR.q0
        have cR1 := oR.q1
        have fR := oR.fr
        have lR := oR.lt
        go_wp2_with fail
        refine Reg.wp_chain (fun D v W => Below w.heap.size w W ∧ Blk W (w.heap.size) 23 #[.int .i64 (a), .int .i64 (b)] ∧ Blk W (w.heap.size + 1) 23 #[.int .i64 (0), .int .i64 (0)])
          (Reg.inl [2, 5]) (Reg.ge [(2, .agg #[.int .i64 (hi64 (b * 1099511627776)), .int .u64 (lo64 (b * 1099511627776))]), (5, .agg #[.int .i64 (hi64 (b * 1099511627776)), .int .u64 (lo64 (b * 1099511627776))])]) Reg.None_ (fun _ => Reg.Any) (fun _ _ => False) (Reg.pl []) (Reg.pl [])
          (by kernel_rfl) (by kernel_rfl) (by kernel_rfl) (Reg.ge_some _) (fun v => ?_) (fun _ _ _ _ _ h => h) (fun _ _ _ _ _ _ _ _ _ _ _ _ _ => Reg.none_) (fun _ _ _ _ h => h.elim) (fun ops' Q' hops hQ => ?_)
        · exact ⟨(by first | with_reducible exact Below.drew B | with_reducible exact Below.drew (belowN B _) | (repeat' first | with_reducible assumption | with_reducible exact Below.refl _ _ | with_reducible refine Below.alloc ?_ ?_ _ | with_reducible refine Below.drew ?_ | with_reducible refine belowN ?_ _ | with_reducible refine Below.setCell ?_ ?_ _ | go_size)), (show Blk _ _ _ #[.int .i64 (a), .int .i64 (b)] from (by first | with_reducible exact oA | (repeat' first | with_reducible assumption | (with_reducible refine Blk.new' ?_; first | with_reducible rfl | (simp only [World.size_alloc, World.size_setCell, World.size_drew]; done)) | with_reducible refine Blk.alloc ?_ _ | with_reducible refine Blk.drew ?_ | with_reducible refine Blk.drewN ?_ _ | with_reducible apply Blk.both | with_reducible refine Blk.far' ?_ ?_ | (show _ ≠ _; omega)))), (show Blk _ _ _ #[.int .i64 (0), .int .i64 (0)] from (by first | with_reducible exact oR | (repeat' first | with_reducible assumption | (with_reducible refine Blk.new' ?_; first | with_reducible rfl | (simp only [World.size_alloc, World.size_setCell, World.size_drew]; done)) | with_reducible refine Blk.alloc ?_ _ | with_reducible refine Blk.drew ?_ | with_reducible refine Blk.drewN ?_ _ | with_reducible apply Blk.both | with_reducible refine Blk.far' ?_ ?_ | (show _ ≠ _; omega))))⟩
        clear B oA oR
        apply Reg.RC_pure (hc := rfl) (hst := rfl) (hw := rfl) (t := 20) (hd := rfl) (ht := Nat.le_of_ble_eq_true rfl)
        · intro D v W hc hj hf K hK
          go_step
          exact hK.out
        · rfl
        apply Reg.RC_pure (hc := rfl) (hst := rfl) (hw := rfl) (t := 21) (hd := rfl) (ht := Nat.le_of_ble_eq_true rfl)
        · intro D v W hc hj hf K hK
          go_step
          exact hK.out
        · rfl
        refine Reg.RC_exact _ (fun _ h => h) rfl (by intro t ht; cases ht; exact Nat.le_of_ble_eq_true rfl) rfl (fun D v W hc hj hf K hK => ?_) (Reg.RC_at (b := ⟨#[_,_,_,_,_,_,_,_,_,_,_,_,_,_,_,_,_,_,_,_,_,_,_,_,_,_,_,_,_,_,_,_,_,_], []⟩) rfl ?_)
        · obtain ⟨B, oA, oR⟩ := hj
          go_step
          refine (times_t _ _ _ _ he (by omega) (by omega) (by omega) (by omega)).mono ?_
          rintro e W' ⟨rfl, hb⟩
          have st : Steps W W' := hb
          exact hK.out _ _ Reg.any ⟨below_steps B (Nat.le_refl _) st, oA.steps st, oR.steps st⟩ Reg.none_ rfl
        apply Reg.RC_pure (hc := rfl) (hst := rfl) (hw := rfl) (t := 23) (hd := rfl) (ht := Nat.le_of_ble_eq_true rfl)
        · intro D v W hc hj hf K hK
          go_step
          exact hK.out
        · rfl
        apply Reg.RC_pure (hc := rfl) (hst := rfl) (hw := rfl) (t := 24) (hd := rfl) (ht := Nat.le_of_ble_eq_true rfl)
        · intro D v W hc hj hf K hK
          obtain ⟨B, oA, oR⟩ := hj
          have cA0 := oA.q0
          have cA1 := oA.q1
          go_step
          exact hK.out
        · rfl
        refine Reg.RC_exact _ (fun _ h => h) rfl (by intro t ht; cases ht; exact Nat.le_of_ble_eq_true rfl) rfl (fun D v W hc hj hf K hK => ?_) (Reg.RC_at (b := ⟨#[_,_,_,_,_,_,_,_,_,_,_,_,_,_,_,_,_,_,_,_,_,_,_,_,_,_,_,_,_,_,_,_,_,_], []⟩) rfl ?_)
        · obtain ⟨B, oA, oR⟩ := hj
          go_step
          refine (times_any _ _ _ (by omega) (by omega) (by omega) (by omega)).mono ?_
          rintro e W' ⟨rfl, hb⟩
          have st : Steps W W' := hb
          exact hK.out _ _ Reg.any ⟨below_steps B (Nat.le_refl _) st, oA.steps st, oR.steps st⟩ Reg.none_ rfl
        apply Reg.RC_pure (hc := rfl) (hst := rfl) (hw := rfl) (t := 26) (hd := rfl) (ht := Nat.le_of_ble_eq_true rfl)
        · intro D v W hc hj hf K hK
          go_step
          exact hK.out
        · rfl
        refine Reg.RC_end (fun D v W hd hj hf => ?_)
        obtain ⟨B, oA, oR⟩ := hj
        clear hd hf
        refine hQ _ _ ?_
        clear hQ hops Q' ops'
        have lA := oA.lt
        have cA0 := oA.c 0 rfl
        have cA1 := oA.c 1 rfl
        have fA := oA.fr
        have lR := oR.lt
        have cR0 := oR.c 0 rfl
        have cR1 := oR.c 1 rfl
        have fR := oR.fr
        go_wp2_with fail
        refine (root_any a _ (by omega) (by omega)).mono ?_
        rintro e w3 ⟨rfl, hb3⟩
        have st : Steps _ w3 := hb3
        have Bn : Below w.heap.size w w3 := belowA st
        have nR := oR.stq st
        clear B oA oR lA cA0 cA1 fA lR cR0 cR1 fR
        clear st
        have B := Bn
        clear Bn
        have oR := nR
        clear nR
        have cR0 := oR.q0
        have cR1 := oR.q1
        have fR := oR.fr
        have lR := oR.lt
        dsimp only
        repeat' (first | go_values | go_skip | go_guarded | go_step | go_upon)
        refine bodyPost_ret (by simp [results, Tryz.results19, go_sem, cR0, cR1, fR, lR]; rfl) rfl ?_
        show G3 w _ _ _
        rw [H.out]
        exact ⟨rfl, belowB⟩
      · have H : Hid (sqrtS a b = (isqrt (a * 1099511627776), isqrt (b * 1099511627776) + 1, 0)) := by show sqrtS a b = _; unfold sqrtS ifV sqrtV; rw [if_pos hv', if_neg ha, if_neg he]
        clear hv'
        have hne := words_ne he
        go_enter Tryz.func19, Tryz.ntmps19
        go_wp2_with fail
        refine (check1_ok _ a b _ (by simp [go_sem]) (by simp [go_sem]) v0 v1 v2).mono ?_
        rintro e w1 ⟨rfl, hb1⟩
        have st : Steps _ w1 := hb1
        have Bn : Below w.heap.size w w1 := belowA st
        have nA : Blk w1 (w.heap.size) 23 #[.int .i64 (a), .int .i64 (b)] := Blk.stepsA st
        have nR : Blk w1 (w.heap.size + 1) 23 #[.int .i64 (0), .int .i64 (0)] := Blk.stepsA st
        clear st
        have B := Bn
        clear Bn
        have oA := nA
        clear nA
        have cA0 := oA.q0
        have cA1 := oA.q1
        have fA := oA.fr
        have lA := oA.lt
        have oR := nR
        clear nR
        have cR0 := oR.q0
        have cR1 := oR.q1
        have fR := oR.fr
        have lR := oR.lt
        go_wp2_with fail
        refine (root_any b _ (by omega) (by omega)).mono ?_
        rintro e w2 ⟨rfl, hb2⟩
        have st : Steps _ w2 := hb2
        have Bn : Below w.heap.size w w2 := belowA st
        have nA := oA.stq st
        have nR := oR.stq st
        clear B oA oR cA0 cA1 fA lA cR0 cR1 fR lR
        clear st
        have B := Bn
        clear Bn
        have oA := nA
        clear nA
        have cA0 := oA.q0
        have cA1 := oA.q1
        have fA := oA.fr
        have lA := oA.lt
        have oR := nR
        clear nR
        have cR0 := oR.q0
        have cR1 := oR.q1
        have fR := oR.fr
        have lR := oR.lt
        go_wp2_with fail
        refine Reg.wp_chain (fun D v W => Below w.heap.size w W ∧ Blk W (w.heap.size) 23 #[.int .i64 (a), .int .i64 (b)] ∧ Blk W (w.heap.size + 1) 23 #[.int .i64 (0), .int .i64 (0)])
          (Reg.inl [2, 5]) (Reg.ge [(2, .agg #[.int .i64 (hi64 (isqrt (b * 1099511627776) * isqrt (b * 1099511627776))), .int .u64 (lo64 (isqrt (b * 1099511627776) * isqrt (b * 1099511627776)))]), (5, .agg #[.int .i64 (hi64 (b * 1099511627776)), .int .u64 (lo64 (b * 1099511627776))])]) Reg.None_ (fun _ => Reg.Any) (fun _ _ => False) (Reg.pl []) (Reg.pl [])
          (by kernel_rfl) (by kernel_rfl) (by kernel_rfl) (Reg.ge_some _) (fun v => ?_) (fun _ _ _ _ _ h => h) (fun _ _ _ _ _ _ _ _ _ _ _ _ _ => Reg.none_) (fun _ _ _ _ h => h.elim) (fun ops' Q' hops hQ => ?_)
        · exact ⟨(by first | with_reducible exact Below.drew B | with_reducible exact Below.drew (belowN B _) | (repeat' first | with_reducible assumption | with_reducible exact Below.refl _ _ | with_reducible refine Below.alloc ?_ ?_ _ | with_reducible refine Below.drew ?_ | with_reducible refine belowN ?_ _ | with_reducible refine Below.setCell ?_ ?_ _ | go_size)), (show Blk _ _ _ #[.int .i64 (a), .int .i64 (b)] from (by first | with_reducible exact oA | (repeat' first | with_reducible assumption | (with_reducible refine Blk.new' ?_; first | with_reducible rfl | (simp only [World.size_alloc, World.size_setCell, World.size_drew]; done)) | with_reducible refine Blk.alloc ?_ _ | with_reducible refine Blk.drew ?_ | with_reducible refine Blk.drewN ?_ _ | with_reducible apply Blk.both | with_reducible refine Blk.far' ?_ ?_ | (show _ ≠ _; omega)))), (show Blk _ _ _ #[.int .i64 (0), .int .i64 (0)] from (by first | with_reducible exact oR | (repeat' first | with_reducible assumption | (with_reducible refine Blk.new' ?_; first | with_reducible rfl | (simp only [World.size_alloc, World.size_setCell, World.size_drew]; done)) | with_reducible refine Blk.alloc ?_ _ | with_reducible refine Blk.drew ?_ | with_reducible refine Blk.drewN ?_ _ | with_reducible apply Blk.both | with_reducible refine Blk.far' ?_ ?_ | (show _ ≠ _; omega))))⟩
        clear B oA oR
        apply Reg.RC_pure (hc := rfl) (hst := rfl) (hw := rfl) (t := 20) (hd := rfl) (ht := Nat.le_of_ble_eq_true rfl)
        · intro D v W hc hj hf K hK
          go_step
          exact hK.out
        · rfl
        apply Reg.RC_pure (hc := rfl) (hst := rfl) (hw := rfl) (t := 21) (hd := rfl) (ht := Nat.le_of_ble_eq_true rfl)
        · intro D v W hc hj hf K hK
          go_step
          exact hK.out
        · rfl
        refine Reg.RC_exact _ (fun _ h => h) rfl (by intro t ht; cases ht; exact Nat.le_of_ble_eq_true rfl) rfl (fun D v W hc hj hf K hK => ?_) (Reg.RC_at (b := ⟨#[_,_,_,_,_,_,_,_,_,_,_,_,_,_,_,_,_,_,_,_,_,_,_,_,_,_,_,_,_,_,_,_,_,_], []⟩) rfl ?_)
        · obtain ⟨B, oA, oR⟩ := hj
          go_step
          refine (times_any _ _ _ (by omega) (by omega) (by omega) (by omega)).mono ?_
          rintro e W' ⟨rfl, hb⟩
          have st : Steps W W' := hb
          exact hK.out _ _ Reg.any ⟨below_steps B (Nat.le_refl _) st, oA.steps st, oR.steps st⟩ Reg.none_ rfl
        apply Reg.RC_pure (hc := rfl) (hst := rfl) (hw := rfl) (t := 23) (hd := rfl) (ht := Nat.le_of_ble_eq_true rfl)
        · intro D v W hc hj hf K hK
          go_step
          exact hK.out
        · rfl
        apply Reg.RC_pure (hc := rfl) (hst := rfl) (hw := rfl) (t := 24) (hd := rfl) (ht := Nat.le_of_ble_eq_true rfl)
        · intro D v W hc hj hf K hK
          obtain ⟨B, oA, oR⟩ := hj
          have cA0 := oA.q0
          have cA1 := oA.q1
          go_step
          exact hK.out
        · rfl
        refine Reg.RC_exact _ (fun _ h => h) rfl (by intro t ht; cases ht; exact Nat.le_of_ble_eq_true rfl) rfl (fun D v W hc hj hf K hK => ?_) (Reg.RC_at (b := ⟨#[_,_,_,_,_,_,_,_,_,_,_,_,_,_,_,_,_,_,_,_,_,_,_,_,_,_,_,_,_,_,_,_,_,_], []⟩) rfl ?_)
        · obtain ⟨B, oA, oR⟩ := hj
          go_step
          refine (times_any _ _ _ (by omega) (by omega) (by omega) (by omega)).mono ?_
          rintro e W' ⟨rfl, hb⟩
          have st : Steps W W' := hb
          exact hK.out _ _ Reg.any ⟨below_steps B (Nat.le_refl _) st, oA.steps st, oR.steps st⟩ Reg.none_ rfl
        apply Reg.RC_pure (hc := rfl) (hst := rfl) (hw := rfl) (t := 26) (hd := rfl) (ht := Nat.le_of_ble_eq_true rfl)
        · intro D v W hc hj hf K hK
          go_step
          rw [ite2 hne, Oper.upon_value]
          show K ⟨#[_,_,_,_,_,_,_,_,_,_,_,_,_,_,_,_,_,_,_,_,_,_,_,_,_,_,_,_,_,_,_,_,_,_], []⟩ W
          exact hK.out
        · rfl
        refine Reg.RC_end (fun D v W hd hj hf => ?_)
        obtain ⟨B, oA, oR⟩ := hj
        clear hd hf
        refine hQ _ _ ?_
        clear hQ hops Q' ops'
        have lA := oA.lt
        have cA0 := oA.c 0 rfl
        have cA1 := oA.c 1 rfl
        have fA := oA.fr
        have lR := oR.lt
        have cR0 := oR.c 0 rfl
        have cR1 := oR.c 1 rfl
        have fR := oR.fr
        go_wp2_with fail
        refine (root_any a _ (by omega) (by omega)).mono ?_
        rintro e w3 ⟨rfl, hb3⟩
        have st : Steps _ w3 := hb3
        have Bn : Below w.heap.size w w3 := belowA st
        have nR := oR.stq st
        clear B oA oR lA cA0 cA1 fA lR cR0 cR1 fR
        clear st
        have B := Bn
        clear Bn
        have oR := nR
        clear nR
        have cR0 := oR.q0
        have cR1 := oR.q1
        have fR := oR.fr
        have lR := oR.lt
        dsimp only
        repeat' (first | go_values | go_skip | go_guarded | go_step | go_upon)
        refine bodyPost_ret (by simp [results, Tryz.results19, go_sem, cR0, cR1, fR, lR]; rfl) rfl ?_
        show G3 w _ _ _
        rw [H.out]
        exact ⟨rfl, belowB⟩
  · have H : Hid (sqrtS a b = (0, 0, 8)) := if_neg hv
    go_enter Tryz.func19, Tryz.ntmps19
    go_wp2_with fail
    refine (check1_bad _ a b _ (by simp [go_sem]) (by simp [go_sem]) hv).mono ?_
    rintro e w1 ⟨rfl, hb1⟩
    have st : Steps _ w1 := hb1
    have Bn : Below w.heap.size w w1 := belowA st
    have nR : Blk w1 (w.heap.size + 1) 23 #[.int .i64 (0), .int .i64 (0)] := Blk.stepsA st
    clear st
    have B := Bn
    clear Bn
    have oR := nR
    clear nR
    have cR0 := oR.q0
    have cR1 := oR.q1
    have fR := oR.fr
    have lR := oR.lt
    go_wp2_with fail
    refine bodyPost_ret (by simp [results, Tryz.results19, go_sem, cR0, cR1, fR, lR]; rfl) rfl ?_
    show G3 w _ _ _
    rw [H.out]
    exact ⟨rfl, belowB⟩
end Go.Proofs.YtalnlnpnacfdfaaGreat
