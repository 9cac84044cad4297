import Derived.Test.YtalnlnpnacfdfaaGreatCSpanG
import Derived.Test.YtalnlnpnacfdfaaGreatCSpanI
import Derived.Test.YtalnlnpnacfdfaaGreatCSpanJ
namespace Go.Proofs.YtalnlnpnacfdfaaGreat
open Go.RowKit
theorem dn_mono {s t d : Int} (hd : 0 < d) (h : s ≤ t) : dn s d ≤ dn t d := by
  have := Int.ediv_le_ediv hd h
  unfold dn; omega
theorem ediv_anti {t c d : Int} (h0 : 0 ≤ t) (hc : 0 < c) (hcd : c ≤ d) : t / d ≤ t / c := by
  rw [Int.le_ediv_iff_mul_le hc]
  have h1 := Int.ediv_nonneg h0 (show 0 ≤ d by omega)
  have h2 := Int.mul_le_mul_of_nonneg_left hcd h1
  have h3 := Int.ediv_mul_le t (show d ≠ 0 by omega)
  omega
theorem ediv_mono_neg {t c d : Int} (h0 : t < 0) (hc : 0 < c) (hcd : c ≤ d) : t / c ≤ t / d := by
  rw [Int.le_ediv_iff_mul_le (show 0 < d by omega)]
  have h1 := Int.ediv_neg_of_neg_of_pos h0 hc
  have h2 := Int.mul_le_mul_of_nonpos_left (show t / c ≤ 0 by omega) hcd
  have h3 := Int.ediv_mul_le t (show c ≠ 0 by omega)
  omega
theorem dn_min {t c d : Int} (hc : 0 < c) (hcd : c ≤ d) : min (dn t c) (dn t d) = dn t (if t < 0 then c else d) := by
  by_cases h : t < 0
  · rw [if_pos h]; have := ediv_mono_neg h hc hcd; unfold dn; omega
  · rw [if_neg h]; have := ediv_anti (show 0 ≤ t by omega) hc hcd; unfold dn; omega
theorem upq_max {t c d : Int} (hc : 0 < c) (hcd : c ≤ d) : max (upq t c) (upq t d) = upq t (if 0 < t then c else d) := by
  have h := dn_min (t := -t) hc hcd
  unfold upq
  rw [show max (- dn (-t) c) (- dn (-t) d) = - min (dn (-t) c) (dn (-t) d) by omega, h]
  by_cases h1 : 0 < t
  · rw [if_pos h1, if_pos (by omega)]
  · rw [if_neg h1, if_neg (by omega)]
theorem divQ_one {lo hi c d : Int} (hc : 0 < c) (hcd : c ≤ d) : divQ lo hi c d = md (dn (lo * 1099511627776) (if lo < 0 then c else d)) (upq (hi * 1099511627776) (if 0 < hi then c else d)) := by
  unfold divQ
  rw [dn_min hc hcd, upq_max hc hcd]
  by_cases h1 : lo < 0 <;> by_cases h2 : 0 < hi
  · rw [if_pos h1, if_pos h2, if_pos (by omega), if_pos (by omega)]
  · rw [if_pos h1, if_neg h2, if_pos (by omega), if_neg (by omega)]
  · rw [if_neg h1, if_pos h2, if_neg (by omega), if_pos (by omega)]
  · rw [if_neg h1, if_neg h2, if_neg (by omega), if_neg (by omega)]
def divV (a b c d : Int) : Int × Int × Int := if c ≤ 0 ∧ 0 ≤ d then (0, 0, 18) else if d < 0 then divQ (-b) (-a) (-d) (-c) else divQ a b c d
def divS (a b c d : Int) : Int × Int × Int := ifV (V a b ∧ V c d) (divV a b c d)
set_option maxRecDepth 100000 in
set_option maxHeartbeats 4000000 in
theorem div_p (a b c d : Int) (w : World) : Calls Tryz.prog 17 #[.agg #[.int .i64 a, .int .i64 b], .agg #[.int .i64 c, .int .i64 d]] w (G3 w (divS a b c d)) := by
  by_cases hv : V a b ∧ V c d
  · have H0 : divS a b c d = divV a b c d := if_pos hv
    obtain ⟨⟨v0, v1, v2⟩, ⟨v3, v4, v5⟩⟩ := hv
    by_cases h1 : c ≤ 0 ∧ 0 ≤ d
    · have H : Hid (divS a b c d = (0, 0, 18)) := by show divS a b c d = _; rw [H0]; exact if_pos h1
      clear H0
      obtain ⟨h1, h2⟩ := h1
      go_enter Tryz.func17, Tryz.ntmps17
      go_wp2_with fail
      refine (check2_ok _ a b c d _ (by go_size) (by simp [go_sem]) (by simp [go_sem]) (by simp [go_sem]) (by simp [go_sem]) v0 v1 v2 v3 v4 v5).mono ?_
      rintro e w1 ⟨rfl, hb1⟩
      have st : Steps _ w1 := hb1
      have Bn : Below w.heap.size w w1 := belowA st
      have nA : Blk w1 (w.heap.size) 23 #[.int .i64 (a), .int .i64 (b)] := Blk.stepsA st
      have nB : Blk w1 (w.heap.size + 1) 23 #[.int .i64 (c), .int .i64 (d)] := Blk.stepsA st
      have nR : Blk w1 (w.heap.size + 1 + 1) 23 #[.int .i64 (0), .int .i64 (0)] := Blk.stepsA st
      clear st
      have B := Bn
      clear Bn
      have oA := nA
      clear nA
      have cA0 := oA.q0
      have cA1 := oA.q1
      have fA := oA.fr
      have lA := oA.lt
      have oB := nB
      clear nB
      have cB0 := oB.q0
      have cB1 := oB.q1
      have fB := oB.fr
      have lB := oB.lt
      have oR := nR
      clear nR
      have cR0 := oR.q0
      have cR1 := oR.q1
      have fR := oR.fr
      have lR := oR.lt
      go_wp2_with fail
      refine bodyPost_ret (by simp [results, Tryz.results17, go_sem, cR0, cR1, fR, lR]; rfl) rfl ?_
      show G3 w _ _ _
      rw [H.out]
      exact ⟨rfl, belowB⟩
    · by_cases h2 : d < 0
      · have H : divS a b c d = divQ (-b) (-a) (-d) (-c) := by rw [H0]; unfold divV; rw [if_neg h1, if_pos h2]
        rw [H]; exact div_neg a b c d w v0 v1 v2 v3 v4 v5 (by omega)
      · have H : divS a b c d = divQ a b c d := by rw [H0]; unfold divV; rw [if_neg h1, if_neg h2]
        rw [H]; exact div_pos a b c d w v0 v1 v2 v3 v4 v5 (by omega)
  · have H : Hid (divS a b c d = (0, 0, 8)) := if_neg hv
    go_enter Tryz.func17, Tryz.ntmps17
    go_wp2_with fail
    refine (check2_bad _ a b c d _ (by go_size) (by simp [go_sem]) (by simp [go_sem]) (by simp [go_sem]) (by simp [go_sem]) hv).mono ?_
    rintro e w1 ⟨rfl, hb1⟩
    have st : Steps _ w1 := hb1
    have Bn : Below w.heap.size w w1 := belowA st
    have nR : Blk w1 (w.heap.size + 1 + 1) 23 #[.int .i64 (0), .int .i64 (0)] := Blk.stepsA st
    clear st
    have B := Bn
    clear Bn
    have oR := nR
    clear nR
    have cR0 := oR.q0
    have cR1 := oR.q1
    have fR := oR.fr
    have lR := oR.lt
    go_wp2_with fail
    refine bodyPost_ret (by simp [results, Tryz.results17, go_sem, cR0, cR1, fR, lR]; rfl) rfl ?_
    show G3 w _ _ _
    rw [H.out]
    exact ⟨rfl, belowB⟩
set_option maxHeartbeats 4000000 in
theorem mul_p (a b c d : Int) (w : World) : Calls Tryz.prog 13 #[.agg #[.int .i64 a, .int .i64 b], .agg #[.int .i64 c, .int .i64 d]] w (G3 w (mulS a b c d)) := by
  by_cases hv : V a b ∧ V c d
  · have H : mulS a b c d = mulV a b c d := if_pos hv
    obtain ⟨⟨v0, v1, v2⟩, ⟨v3, v4, v5⟩⟩ := hv
    rw [H]; exact mul_ok a b c d w v0 v1 v2 v3 v4 v5
  · have H : Hid (mulS a b c d = (0, 0, 8)) := if_neg hv
    go_enter Tryz.func13, Tryz.ntmps13
    go_wp2_with fail
    refine (check2_bad _ a b c d _ (by go_size) (by simp [go_sem]) (by simp [go_sem]) (by simp [go_sem]) (by simp [go_sem]) hv).mono ?_
    rintro e w1 ⟨rfl, hb1⟩
    have st : Steps _ w1 := hb1
    have Bn : Below w.heap.size w w1 := belowA st
    have nR : Blk w1 (w.heap.size + 1 + 1) 23 #[.int .i64 (0), .int .i64 (0)] := Blk.stepsA st
    clear st
    have B := Bn
    clear Bn
    have oR := nR
    clear nR
    have cR0 := oR.q0
    have cR1 := oR.q1
    have fR := oR.fr
    have lR := oR.lt
    go_wp2_with fail
    refine bodyPost_ret (by simp [results, Tryz.results13, go_sem, cR0, cR1, fR, lR]; rfl) rfl ?_
    show G3 w _ _ _
    rw [H.out]
    exact ⟨rfl, belowB⟩
theorem scale_p (a b num den : Int) (w : World) (n0 : -9223372036854775808 ≤ num) (n1 : num ≤ 9223372036854775807) (d0 : -9223372036854775808 ≤ den) (d1 : den ≤ 9223372036854775807) : Calls Tryz.prog 21 #[.agg #[.int .i64 a, .int .i64 b], .int .i64 num, .int .i64 den] w (G3 w (scaleS a b num den)) := by
  by_cases hq : V a b ∧ den ≠ 0
  · obtain ⟨⟨v0, v1, v2⟩, h⟩ := hq
    by_cases hd : 0 < den
    · exact scale_pp a b num den w v0 v1 v2 n0 n1 hd d1
    · exact scale_pn a b num den (den % 18446744073709551616) w v0 v1 v2 n0 n1 d0 (by omega) (IntKind.wrap_u64 _) (by rw [IntKind.wrap_u64]; omega) (by omega) (by omega)
  · exact scale_p0 a b num den w n0 n1 d0 d1 hq
set_option maxHeartbeats 4000000 in
theorem rcheck3 (a b : Int) (w : World) : Calls Tryz.prog 6 #[.agg #[.int .i64 a, .int .i64 b]] w fun e w' => e = .returned (.int .i64 (errV (V a b))) ∧ Below w.heap.size w w' := by
  by_cases hv : V a b
  · have H : Hid (errV (V a b) = 0) := if_pos hv
    obtain ⟨v0, v1, v2⟩ := hv
    go_enter Tryz.func6, Tryz.ntmps6
    go_wp2
    go_returns
    exact ⟨retI H.out.symm, by go_grown⟩
  · have H : Hid (errV (V a b) = 8) := if_neg hv
    unfold V at hv
    go_enter Tryz.func6, Tryz.ntmps6
    go_wp2
    all_goals go_returns
    all_goals exact ⟨retI H.out.symm, by go_grown⟩
end Go.Proofs.YtalnlnpnacfdfaaGreat
