import Derived.Test.YtalnlnpnacfdfaaRefG
import Derived.Test.YtalnlnpnacfdfaaSpanG
namespace Go.Proofs.Ytalnlnpnacfdfaa
open Go.RowKit
theorem dn_mono {s t d : Int} (hd : 0 < d) (h : s ≤ t) : dn s d ≤ dn t d := by
  have := Int.ediv_le_ediv hd h
  unfold dn; omega
theorem ediv_anti {t c d : Int} (h0 : 0 ≤ t) (hc : 0 < c) (hcd : c ≤ d) : t / d ≤ t / c := by
  rw [Int.le_ediv_iff_mul_le hc]
  have h1 := Int.ediv_nonneg h0 (show 0 ≤ d by omega)
  have h2 := Int.mul_le_mul_of_nonneg_left hcd h1
  have h3 := Int.ediv_mul_le t (show d ≠ 0 by omega)
  omega
theorem ediv_mono_neg {t c d : Int} (h0 : t < 0) (hc : 0 < c) (hcd : c ≤ d) : t / c ≤ t / d := by
  rw [Int.le_ediv_iff_mul_le (show 0 < d by omega)]
  have h1 := Int.ediv_neg_of_neg_of_pos h0 hc
  have h2 := Int.mul_le_mul_of_nonpos_left (show t / c ≤ 0 by omega) hcd
  have h3 := Int.ediv_mul_le t (show c ≠ 0 by omega)
  omega
theorem dn_min {t c d : Int} (hc : 0 < c) (hcd : c ≤ d) : min (dn t c) (dn t d) = dn t (if t < 0 then c else d) := by
  by_cases h : t < 0
  · rw [if_pos h]; have := ediv_mono_neg h hc hcd; unfold dn; omega
  · rw [if_neg h]; have := ediv_anti (show 0 ≤ t by omega) hc hcd; unfold dn; omega
theorem upq_max {t c d : Int} (hc : 0 < c) (hcd : c ≤ d) : max (upq t c) (upq t d) = upq t (if 0 < t then c else d) := by
  have h := dn_min (t := -t) hc hcd
  unfold upq
  rw [show max (- dn (-t) c) (- dn (-t) d) = - min (dn (-t) c) (dn (-t) d) by omega, h]
  by_cases h1 : 0 < t
  · rw [if_pos h1, if_pos (by omega)]
  · rw [if_neg h1, if_neg (by omega)]
theorem divQ_one {lo hi c d : Int} (hc : 0 < c) (hcd : c ≤ d) : divQ lo hi c d = md (dn (lo * 1099511627776) (if lo < 0 then c else d)) (upq (hi * 1099511627776) (if 0 < hi then c else d)) := by
  unfold divQ
  rw [dn_min hc hcd, upq_max hc hcd]
  by_cases h1 : lo < 0 <;> by_cases h2 : 0 < hi
  · rw [if_pos h1, if_pos h2, if_pos (by omega), if_pos (by omega)]
  · rw [if_pos h1, if_neg h2, if_pos (by omega), if_neg (by omega)]
  · rw [if_neg h1, if_pos h2, if_neg (by omega), if_pos (by omega)]
  · rw [if_neg h1, if_neg h2, if_neg (by omega), if_neg (by omega)]
def divV (a b c d : Int) : Int × Int × Int := if c ≤ 0 ∧ 0 ≤ d then (0, 0, 18) else if d < 0 then divQ (-b) (-a) (-d) (-c) else divQ a b c d
def divS (a b c d : Int) : Int × Int × Int := ifV (V a b ∧ V c d) (divV a b c d)
set_option maxRecDepth 100000 in
set_option maxHeartbeats 4000000 in
theorem div_p (a b c d : Int) (w : World) : Calls Try.prog 28 #[.agg #[.int .i64 a, .int .i64 b], .agg #[.int .i64 c, .int .i64 d]] w (G3 w (divS a b c d)) := by
  by_cases hv : V a b ∧ V c d
  · have H0 : divS a b c d = divV a b c d := if_pos hv
    obtain ⟨⟨v0, v1, v2⟩, ⟨v3, v4, v5⟩⟩ := hv
    by_cases h1 : c ≤ 0 ∧ 0 ≤ d
    · have H : Hid (divS a b c d = (0, 0, 18)) := by show divS a b c d = _; rw [H0]; exact if_pos h1
      clear H0
      obtain ⟨h1, h2⟩ := h1
      go_enter Try.func28, Try.ntmps28
      go_wp2_with fail
      refine (check2_ok _ a b c d _ (by go_size) (by simp [go_sem]) (by simp [go_sem]) (by simp [go_sem]) (by simp [go_sem]) v0 v1 v2 v3 v4 v5).mono ?_
      rintro e w1 ⟨rfl, hb1⟩
      have st : Steps _ w1 := hb1
      have Bn : Below w.heap.size w w1 := below_steps (by (repeat' first | with_reducible assumption | with_reducible exact Below.refl _ _ | with_reducible refine Below.alloc ?_ ?_ _ | with_reducible refine Below.drew ?_ | with_reducible refine belowN ?_ _ | with_reducible refine Below.setCell ?_ ?_ _ | go_size)) (Nat.le_refl _) st
      have nA : Blk w1 (w.heap.size) 23 #[.int .i64 (a), .int .i64 (b)] := Blk.steps (by (repeat' first | with_reducible assumption | (with_reducible refine Blk.new' ?_; first | with_reducible rfl | (simp only [World.size_alloc, World.size_setCell, World.size_drew]; done)) | with_reducible refine Blk.alloc ?_ _ | with_reducible refine Blk.drew ?_ | with_reducible refine Blk.drewN ?_ _ | with_reducible apply Blk.both | with_reducible refine Blk.far' ?_ ?_ | (show _ ≠ _; omega))) st
      have nB : Blk w1 (w.heap.size + 1) 23 #[.int .i64 (c), .int .i64 (d)] := Blk.steps (by (repeat' first | with_reducible assumption | (with_reducible refine Blk.new' ?_; first | with_reducible rfl | (simp only [World.size_alloc, World.size_setCell, World.size_drew]; done)) | with_reducible refine Blk.alloc ?_ _ | with_reducible refine Blk.drew ?_ | with_reducible refine Blk.drewN ?_ _ | with_reducible apply Blk.both | with_reducible refine Blk.far' ?_ ?_ | (show _ ≠ _; omega))) st
      have nR : Blk w1 (w.heap.size + 1 + 1) 23 #[.int .i64 (0), .int .i64 (0)] := Blk.steps (by (repeat' first | with_reducible assumption | (with_reducible refine Blk.new' ?_; first | with_reducible rfl | (simp only [World.size_alloc, World.size_setCell, World.size_drew]; done)) | with_reducible refine Blk.alloc ?_ _ | with_reducible refine Blk.drew ?_ | with_reducible refine Blk.drewN ?_ _ | with_reducible apply Blk.both | with_reducible refine Blk.far' ?_ ?_ | (show _ ≠ _; omega))) st
      clear st
      have B := Bn
      clear Bn
      have oA := nA
      clear nA
      have cA0 : World.cell? w1 ⟨w.heap.size, 0, none⟩ = some (.int .i64 (a)) := oA.c 0 rfl
      have cA1 : World.cell? w1 ⟨w.heap.size, 1, none⟩ = some (.int .i64 (b)) := oA.c 1 rfl
      have fA := oA.fr
      have lA := oA.lt
      have oB := nB
      clear nB
      have cB0 : World.cell? w1 ⟨w.heap.size + 1, 0, none⟩ = some (.int .i64 (c)) := oB.c 0 rfl
      have cB1 : World.cell? w1 ⟨w.heap.size + 1, 1, none⟩ = some (.int .i64 (d)) := oB.c 1 rfl
      have fB := oB.fr
      have lB := oB.lt
      have oR := nR
      clear nR
      have cR0 : World.cell? w1 ⟨w.heap.size + 1 + 1, 0, none⟩ = some (.int .i64 (0)) := oR.c 0 rfl
      have cR1 : World.cell? w1 ⟨w.heap.size + 1 + 1, 1, none⟩ = some (.int .i64 (0)) := oR.c 1 rfl
      have fR := oR.fr
      have lR := oR.lt
      go_wp2_with fail
      refine bodyPost_ret (by simp [results, Try.results28, go_sem, cR0, cR1, fR, lR]; rfl) rfl ?_
      show G3 w _ _ _
      rw [H.out]
      exact ⟨rfl, by (repeat' first | with_reducible assumption | with_reducible exact Below.refl _ _ | with_reducible refine Below.alloc ?_ ?_ _ | with_reducible refine Below.drew ?_ | with_reducible refine belowN ?_ _ | with_reducible refine Below.setCell ?_ ?_ _ | go_size)⟩
    · by_cases h2 : d < 0
      · have H : divS a b c d = divQ (-b) (-a) (-d) (-c) := by rw [H0]; unfold divV; rw [if_neg h1, if_pos h2]
        rw [H]; exact div_neg a b c d w v0 v1 v2 v3 v4 v5 (by omega)
      · have H : divS a b c d = divQ a b c d := by rw [H0]; unfold divV; rw [if_neg h1, if_neg h2]
        rw [H]; exact div_pos a b c d w v0 v1 v2 v3 v4 v5 (by omega)
  · have H : Hid (divS a b c d = (0, 0, 8)) := if_neg hv
    go_enter Try.func28, Try.ntmps28
    go_wp2_with fail
    refine (check2_bad _ a b c d _ (by go_size) (by simp [go_sem]) (by simp [go_sem]) (by simp [go_sem]) (by simp [go_sem]) hv).mono ?_
    rintro e w1 ⟨rfl, hb1⟩
    have st : Steps _ w1 := hb1
    have Bn : Below w.heap.size w w1 := below_steps (by (repeat' first | with_reducible assumption | with_reducible exact Below.refl _ _ | with_reducible refine Below.alloc ?_ ?_ _ | with_reducible refine Below.drew ?_ | with_reducible refine belowN ?_ _ | with_reducible refine Below.setCell ?_ ?_ _ | go_size)) (Nat.le_refl _) st
    have nR : Blk w1 (w.heap.size + 1 + 1) 23 #[.int .i64 (0), .int .i64 (0)] := Blk.steps (by (repeat' first | with_reducible assumption | (with_reducible refine Blk.new' ?_; first | with_reducible rfl | (simp only [World.size_alloc, World.size_setCell, World.size_drew]; done)) | with_reducible refine Blk.alloc ?_ _ | with_reducible refine Blk.drew ?_ | with_reducible refine Blk.drewN ?_ _ | with_reducible apply Blk.both | with_reducible refine Blk.far' ?_ ?_ | (show _ ≠ _; omega))) st
    clear st
    have B := Bn
    clear Bn
    have oR := nR
    clear nR
    have cR0 : World.cell? w1 ⟨w.heap.size + 1 + 1, 0, none⟩ = some (.int .i64 (0)) := oR.c 0 rfl
    have cR1 : World.cell? w1 ⟨w.heap.size + 1 + 1, 1, none⟩ = some (.int .i64 (0)) := oR.c 1 rfl
    have fR := oR.fr
    have lR := oR.lt
    go_wp2_with fail
    refine bodyPost_ret (by simp [results, Try.results28, go_sem, cR0, cR1, fR, lR]; rfl) rfl ?_
    show G3 w _ _ _
    rw [H.out]
    exact ⟨rfl, by (repeat' first | with_reducible assumption | with_reducible exact Below.refl _ _ | with_reducible refine Below.alloc ?_ ?_ _ | with_reducible refine Below.drew ?_ | with_reducible refine belowN ?_ _ | with_reducible refine Below.setCell ?_ ?_ _ | go_size)⟩
set_option maxRecDepth 100000 in
set_option maxHeartbeats 4000000 in
theorem rdiv (a b c d : Int) (w : World) : Calls Try.prog 29 #[.agg #[.int .i64 a, .int .i64 b], .agg #[.int .i64 c, .int .i64 d]] w (G3 w (divS a b c d)) := by
  by_cases hv : V a b ∧ V c d
  · have H1 : Hid (errV (V a b ∧ V c d) = 0) := if_pos hv
    have H9 : divS a b c d = divV a b c d := if_pos hv
    obtain ⟨⟨v0, v1, v2⟩, ⟨v3, v4, v5⟩⟩ := hv
    by_cases h1 : c ≤ 0 ∧ 0 ≤ d
    · have H : Hid (divS a b c d = (0, 0, 18)) := by show divS a b c d = _; rw [H9]; exact if_pos h1
      clear H9
      obtain ⟨h1, h2⟩ := h1
      go_enter Try.func29, Try.ntmps29
      go_wp2_with fail
      refine (rboth a b c d _).mono ?_
      rintro e w1 ⟨rfl, hb1⟩
      have st : Steps _ w1 := hb1
      have Bn : Below w.heap.size w w1 := below_steps (by (repeat' first | with_reducible assumption | with_reducible exact Below.refl _ _ | with_reducible refine Below.alloc ?_ ?_ _ | with_reducible refine Below.drew ?_ | with_reducible refine belowN ?_ _ | with_reducible refine Below.setCell ?_ ?_ _ | go_size)) (Nat.le_refl _) st
      have nA : Blk w1 (w.heap.size) 23 #[.int .i64 (a), .int .i64 (b)] := Blk.steps (by (repeat' first | with_reducible assumption | (with_reducible refine Blk.new' ?_; first | with_reducible rfl | (simp only [World.size_alloc, World.size_setCell, World.size_drew]; done)) | with_reducible refine Blk.alloc ?_ _ | with_reducible refine Blk.drew ?_ | with_reducible refine Blk.drewN ?_ _ | with_reducible apply Blk.both | with_reducible refine Blk.far' ?_ ?_ | (show _ ≠ _; omega))) st
      have nB : Blk w1 (w.heap.size + 1) 23 #[.int .i64 (c), .int .i64 (d)] := Blk.steps (by (repeat' first | with_reducible assumption | (with_reducible refine Blk.new' ?_; first | with_reducible rfl | (simp only [World.size_alloc, World.size_setCell, World.size_drew]; done)) | with_reducible refine Blk.alloc ?_ _ | with_reducible refine Blk.drew ?_ | with_reducible refine Blk.drewN ?_ _ | with_reducible apply Blk.both | with_reducible refine Blk.far' ?_ ?_ | (show _ ≠ _; omega))) st
      have nR : Blk w1 (w.heap.size + 1 + 1) 23 #[.int .i64 (0), .int .i64 (0)] := Blk.steps (by (repeat' first | with_reducible assumption | (with_reducible refine Blk.new' ?_; first | with_reducible rfl | (simp only [World.size_alloc, World.size_setCell, World.size_drew]; done)) | with_reducible refine Blk.alloc ?_ _ | with_reducible refine Blk.drew ?_ | with_reducible refine Blk.drewN ?_ _ | with_reducible apply Blk.both | with_reducible refine Blk.far' ?_ ?_ | (show _ ≠ _; omega))) st
      clear st
      have B := Bn
      clear Bn
      have oA := nA
      clear nA
      have cA0 : World.cell? w1 ⟨w.heap.size, 0, none⟩ = some (.int .i64 (a)) := oA.c 0 rfl
      have cA1 : World.cell? w1 ⟨w.heap.size, 1, none⟩ = some (.int .i64 (b)) := oA.c 1 rfl
      have fA := oA.fr
      have lA := oA.lt
      have oB := nB
      clear nB
      have cB0 : World.cell? w1 ⟨w.heap.size + 1, 0, none⟩ = some (.int .i64 (c)) := oB.c 0 rfl
      have cB1 : World.cell? w1 ⟨w.heap.size + 1, 1, none⟩ = some (.int .i64 (d)) := oB.c 1 rfl
      have fB := oB.fr
      have lB := oB.lt
      have oR := nR
      clear nR
      have cR0 : World.cell? w1 ⟨w.heap.size + 1 + 1, 0, none⟩ = some (.int .i64 (0)) := oR.c 0 rfl
      have cR1 : World.cell? w1 ⟨w.heap.size + 1 + 1, 1, none⟩ = some (.int .i64 (0)) := oR.c 1 rfl
      have fR := oR.fr
      have lR := oR.lt
      rw [H1.out]
      go_wp2_with fail
      refine bodyPost_ret (by simp [results, Try.results29, go_sem, cR0, cR1, fR, lR]; rfl) rfl ?_
      show G3 w _ _ _
      rw [H.out]
      exact ⟨rfl, by (repeat' first | with_reducible assumption | with_reducible exact Below.refl _ _ | with_reducible refine Below.alloc ?_ ?_ _ | with_reducible refine Below.drew ?_ | with_reducible refine belowN ?_ _ | with_reducible refine Below.setCell ?_ ?_ _ | go_size)⟩
    · by_cases h2 : d < 0
      · have H0 : Hid (divS a b c d = divQ (-b) (-a) (-d) (-c)) := by show divS a b c d = _; rw [H9]; unfold divV; rw [if_neg h1, if_pos h2]
        clear H9 h1
        have hc0 : c < 0 := by omega
        by_cases hl : 0 < b
        all_goals by_cases hh : a < 0
        all_goals
          go_enter Try.func29, Try.ntmps29
          go_wp2_with fail
          refine (rboth a b c d _).mono ?_
          rintro e w1 ⟨rfl, hb1⟩
          have st : Steps _ w1 := hb1
          have Bn : Below w.heap.size w w1 := below_steps (by (repeat' first | with_reducible assumption | with_reducible exact Below.refl _ _ | with_reducible refine Below.alloc ?_ ?_ _ | with_reducible refine Below.drew ?_ | with_reducible refine belowN ?_ _ | with_reducible refine Below.setCell ?_ ?_ _ | go_size)) (Nat.le_refl _) st
          have nA : Blk w1 (w.heap.size) 23 #[.int .i64 (a), .int .i64 (b)] := Blk.steps (by (repeat' first | with_reducible assumption | (with_reducible refine Blk.new' ?_; first | with_reducible rfl | (simp only [World.size_alloc, World.size_setCell, World.size_drew]; done)) | with_reducible refine Blk.alloc ?_ _ | with_reducible refine Blk.drew ?_ | with_reducible refine Blk.drewN ?_ _ | with_reducible apply Blk.both | with_reducible refine Blk.far' ?_ ?_ | (show _ ≠ _; omega))) st
          have nB : Blk w1 (w.heap.size + 1) 23 #[.int .i64 (c), .int .i64 (d)] := Blk.steps (by (repeat' first | with_reducible assumption | (with_reducible refine Blk.new' ?_; first | with_reducible rfl | (simp only [World.size_alloc, World.size_setCell, World.size_drew]; done)) | with_reducible refine Blk.alloc ?_ _ | with_reducible refine Blk.drew ?_ | with_reducible refine Blk.drewN ?_ _ | with_reducible apply Blk.both | with_reducible refine Blk.far' ?_ ?_ | (show _ ≠ _; omega))) st
          have nR : Blk w1 (w.heap.size + 1 + 1) 23 #[.int .i64 (0), .int .i64 (0)] := Blk.steps (by (repeat' first | with_reducible assumption | (with_reducible refine Blk.new' ?_; first | with_reducible rfl | (simp only [World.size_alloc, World.size_setCell, World.size_drew]; done)) | with_reducible refine Blk.alloc ?_ _ | with_reducible refine Blk.drew ?_ | with_reducible refine Blk.drewN ?_ _ | with_reducible apply Blk.both | with_reducible refine Blk.far' ?_ ?_ | (show _ ≠ _; omega))) st
          clear st
          have B := Bn
          clear Bn
          have oA := nA
          clear nA
          have cA0 : World.cell? w1 ⟨w.heap.size, 0, none⟩ = some (.int .i64 (a)) := oA.c 0 rfl
          have cA1 : World.cell? w1 ⟨w.heap.size, 1, none⟩ = some (.int .i64 (b)) := oA.c 1 rfl
          have fA := oA.fr
          have lA := oA.lt
          have oB := nB
          clear nB
          have cB0 : World.cell? w1 ⟨w.heap.size + 1, 0, none⟩ = some (.int .i64 (c)) := oB.c 0 rfl
          have cB1 : World.cell? w1 ⟨w.heap.size + 1, 1, none⟩ = some (.int .i64 (d)) := oB.c 1 rfl
          have fB := oB.fr
          have lB := oB.lt
          have oR := nR
          clear nR
          have cR0 : World.cell? w1 ⟨w.heap.size + 1 + 1, 0, none⟩ = some (.int .i64 (0)) := oR.c 0 rfl
          have cR1 : World.cell? w1 ⟨w.heap.size + 1 + 1, 1, none⟩ = some (.int .i64 (0)) := oR.c 1 rfl
          have fR := oR.fr
          have lR := oR.lt
          rw [H1.out]
          go_wp2_with fail
          refine Reg.wp_chain (fun D v W => Below w.heap.size w W ∧ Blk W (w.heap.size) 23 #[Reg.sel (D 14) (.int .i64 (a)) (.int .i64 (-b)), Reg.sel (D 14) (.int .i64 (b)) (.int .i64 (-a))] ∧ Blk W (w.heap.size + 1) 23 #[Reg.sel (D 15) (.int .i64 (c)) (.int .i64 (-d)), Reg.sel (D 15) (.int .i64 (d)) (.int .i64 (-c))] ∧ Blk W (w.heap.size + 1 + 1) 23 #[.int .i64 (0), .int .i64 (0)])
            (Reg.inl [14, 15]) (Reg.ge []) Reg.None_ (fun _ => Reg.Any) (fun _ _ => False) (Reg.pl []) (Reg.pl [(1, [14]), (4, [14]), (8, [15]), (11, [15])])
            (by kernel_rfl) (by kernel_rfl) (by kernel_rfl) (Reg.ge_some _) (fun v => ?_) (fun _ _ _ _ _ h => h) (fun _ _ _ _ _ _ _ _ _ _ _ _ _ => Reg.none_) (fun _ _ _ _ h => h.elim) (fun ops' Q' hops hQ => ?_)
          · exact ⟨(by first | with_reducible exact Below.drew B | with_reducible exact Below.drew (belowN B _) | (repeat' first | with_reducible assumption | with_reducible exact Below.refl _ _ | with_reducible refine Below.alloc ?_ ?_ _ | with_reducible refine Below.drew ?_ | with_reducible refine belowN ?_ _ | with_reducible refine Below.setCell ?_ ?_ _ | go_size)), (show Blk _ _ _ #[.int .i64 (a), .int .i64 (b)] from (by first | with_reducible exact oA | (repeat' first | with_reducible assumption | (with_reducible refine Blk.new' ?_; first | with_reducible rfl | (simp only [World.size_alloc, World.size_setCell, World.size_drew]; done)) | with_reducible refine Blk.alloc ?_ _ | with_reducible refine Blk.drew ?_ | with_reducible refine Blk.drewN ?_ _ | with_reducible apply Blk.both | with_reducible refine Blk.far' ?_ ?_ | (show _ ≠ _; omega)))), (show Blk _ _ _ #[.int .i64 (c), .int .i64 (d)] from (by first | with_reducible exact oB | (repeat' first | with_reducible assumption | (with_reducible refine Blk.new' ?_; first | with_reducible rfl | (simp only [World.size_alloc, World.size_setCell, World.size_drew]; done)) | with_reducible refine Blk.alloc ?_ _ | with_reducible refine Blk.drew ?_ | with_reducible refine Blk.drewN ?_ _ | with_reducible apply Blk.both | with_reducible refine Blk.far' ?_ ?_ | (show _ ≠ _; omega)))), (show Blk _ _ _ #[.int .i64 (0), .int .i64 (0)] from (by first | with_reducible exact oR | (repeat' first | with_reducible assumption | (with_reducible refine Blk.new' ?_; first | with_reducible rfl | (simp only [World.size_alloc, World.size_setCell, World.size_drew]; done)) | with_reducible refine Blk.alloc ?_ _ | with_reducible refine Blk.drew ?_ | with_reducible refine Blk.drewN ?_ _ | with_reducible apply Blk.both | with_reducible refine Blk.far' ?_ ?_ | (show _ ≠ _; omega))))⟩
          clear B oA oB oR
          apply Reg.RC_pure (hc := rfl) (hst := rfl) (hw := rfl) (t := 28) (hd := rfl) (ht := Nat.le_of_ble_eq_true rfl)
          · intro D v W hc hj hf K hK
            go_step
            exact hK.out
          · rfl
          apply Reg.RC_pure (hc := rfl) (hst := rfl) (hw := rfl) (t := 29) (hd := rfl) (ht := Nat.le_of_ble_eq_true rfl)
          · intro D v W hc hj hf K hK
            obtain ⟨B, oA, oB, oR⟩ := hj
            have oA : Blk W (w.heap.size) 23 #[.int .i64 (a), .int .i64 (b)] := by have o := oA; simp only [hc.2 14 (by decide), Reg.sel_false] at o; exact o
            have cA0 : World.cell? W ⟨w.heap.size, 0, none⟩ = some (.int .i64 (a)) := oA.c 0 rfl
            have cA1 : World.cell? W ⟨w.heap.size, 1, none⟩ = some (.int .i64 (b)) := oA.c 1 rfl
            go_step
            exact hK.out
          · rfl
          apply Reg.RC_pure (hc := rfl) (hst := rfl) (hw := rfl) (t := 30) (hd := rfl) (ht := Nat.le_of_ble_eq_true rfl)
          · intro D v W hc hj hf K hK
            go_step
            exact hK.out
          · rfl
          apply Reg.RC_pure (hc := rfl) (hst := rfl) (hw := rfl) (t := 31) (hd := rfl) (ht := Nat.le_of_ble_eq_true rfl)
          · intro D v W hc hj hf K hK
            go_step
            exact hK.out
          · rfl
          apply Reg.RC_pure (hc := rfl) (hst := rfl) (hw := rfl) (t := 32) (hd := rfl) (ht := Nat.le_of_ble_eq_true rfl)
          · intro D v W hc hj hf K hK
            obtain ⟨B, oA, oB, oR⟩ := hj
            have oA : Blk W (w.heap.size) 23 #[.int .i64 (a), .int .i64 (b)] := by have o := oA; simp only [hc.2 14 (by decide), Reg.sel_false] at o; exact o
            have cA0 : World.cell? W ⟨w.heap.size, 0, none⟩ = some (.int .i64 (a)) := oA.c 0 rfl
            have cA1 : World.cell? W ⟨w.heap.size, 1, none⟩ = some (.int .i64 (b)) := oA.c 1 rfl
            go_step
            exact hK.out
          · rfl
          apply Reg.RC_pure (hc := rfl) (hst := rfl) (hw := rfl) (t := 33) (hd := rfl) (ht := Nat.le_of_ble_eq_true rfl)
          · intro D v W hc hj hf K hK
            go_step
            exact hK.out
          · rfl
          apply Reg.RC_pure (hc := rfl) (hst := rfl) (hw := rfl) (t := 34) (hd := rfl) (ht := Nat.le_of_ble_eq_true rfl)
          · intro D v W hc hj hf K hK
            go_step
            exact hK.out
          · rfl
          apply Reg.RC_pure (hc := rfl) (hst := rfl) (hw := rfl) (t := 35) (hd := rfl) (ht := Nat.le_of_ble_eq_true rfl)
          · intro D v W hc hj hf K hK
            go_step
            exact hK.out
          · rfl
          apply Reg.RC_pure (hc := rfl) (hst := rfl) (hw := rfl) (t := 36) (hd := rfl) (ht := Nat.le_of_ble_eq_true rfl)
          · intro D v W hc hj hf K hK
            obtain ⟨B, oA, oB, oR⟩ := hj
            have oB : Blk W (w.heap.size + 1) 23 #[.int .i64 (c), .int .i64 (d)] := by have o := oB; simp only [hc.2 15 (by decide), Reg.sel_false] at o; exact o
            have cB0 : World.cell? W ⟨w.heap.size + 1, 0, none⟩ = some (.int .i64 (c)) := oB.c 0 rfl
            have cB1 : World.cell? W ⟨w.heap.size + 1, 1, none⟩ = some (.int .i64 (d)) := oB.c 1 rfl
            go_step
            exact hK.out
          · rfl
          apply Reg.RC_pure (hc := rfl) (hst := rfl) (hw := rfl) (t := 37) (hd := rfl) (ht := Nat.le_of_ble_eq_true rfl)
          · intro D v W hc hj hf K hK
            go_step
            exact hK.out
          · rfl
          apply Reg.RC_pure (hc := rfl) (hst := rfl) (hw := rfl) (t := 38) (hd := rfl) (ht := Nat.le_of_ble_eq_true rfl)
          · intro D v W hc hj hf K hK
            go_step
            exact hK.out
          · rfl
          apply Reg.RC_pure (hc := rfl) (hst := rfl) (hw := rfl) (t := 39) (hd := rfl) (ht := Nat.le_of_ble_eq_true rfl)
          · intro D v W hc hj hf K hK
            obtain ⟨B, oA, oB, oR⟩ := hj
            have oB : Blk W (w.heap.size + 1) 23 #[.int .i64 (c), .int .i64 (d)] := by have o := oB; simp only [hc.2 15 (by decide), Reg.sel_false] at o; exact o
            have cB0 : World.cell? W ⟨w.heap.size + 1, 0, none⟩ = some (.int .i64 (c)) := oB.c 0 rfl
            have cB1 : World.cell? W ⟨w.heap.size + 1, 1, none⟩ = some (.int .i64 (d)) := oB.c 1 rfl
            go_step
            exact hK.out
          · rfl
          apply Reg.RC_pure (hc := rfl) (hst := rfl) (hw := rfl) (t := 40) (hd := rfl) (ht := Nat.le_of_ble_eq_true rfl)
          · intro D v W hc hj hf K hK
            go_step
            exact hK.out
          · rfl
          apply Reg.RC_pure (hc := rfl) (hst := rfl) (hw := rfl) (t := 41) (hd := rfl) (ht := Nat.le_of_ble_eq_true rfl)
          · intro D v W hc hj hf K hK
            go_step
            exact hK.out
          · rfl
          refine Reg.RC_call rfl (by intro t ht; cases ht) rfl (fun D v W hc hj hf K hK => ?_) (fun _ _ => Reg.RC_at (b := ⟨_, []⟩) rfl ?_)
          · obtain ⟨B, oA, oB, oR⟩ := hj
            have hs : D 14 = false := hc.1
            have oA : Blk W (w.heap.size) 23 #[.int .i64 (a), .int .i64 (b)] := by have o := oA; simp only [hs, Reg.sel_false] at o; exact o
            have lA := oA.lt
            have fA := oA.fr
            have cA0 : World.cell? W ⟨w.heap.size, 0, none⟩ = some (.int .i64 (a)) := oA.c 0 rfl
            have cA1 : World.cell? W ⟨w.heap.size, 1, none⟩ = some (.int .i64 (b)) := oA.c 1 rfl
            go_step
            exact hK.out undef _ Reg.any ⟨(by (repeat' first | with_reducible assumption | with_reducible exact Below.refl _ _ | with_reducible refine Below.alloc ?_ ?_ _ | with_reducible refine Below.drew ?_ | with_reducible refine belowN ?_ _ | with_reducible refine Below.setCell ?_ ?_ _ | go_size)), (show Blk _ _ _ #[.int .i64 (-b), .int .i64 (-a)] from (Blk.set2 (cs' := #[.int .i64 (-b), .int .i64 (-a)]) (Blk.set2 (cs' := #[.int .i64 (-b), .int .i64 (b)]) oA (i := 0) rfl) (i := 1) rfl)), (show Blk _ _ _ #[Reg.sel (D 15) (.int .i64 (c)) (.int .i64 (-d)), Reg.sel (D 15) (.int .i64 (d)) (.int .i64 (-c))] from (by (repeat' first | with_reducible assumption | (with_reducible refine Blk.new' ?_; first | with_reducible rfl | (simp only [World.size_alloc, World.size_setCell, World.size_drew]; done)) | with_reducible refine Blk.alloc ?_ _ | with_reducible refine Blk.drew ?_ | with_reducible refine Blk.drewN ?_ _ | with_reducible apply Blk.both | with_reducible refine Blk.far' ?_ ?_ | (show _ ≠ _; omega)))), (show Blk _ _ _ #[.int .i64 (0), .int .i64 (0)] from (by (repeat' first | with_reducible assumption | (with_reducible refine Blk.new' ?_; first | with_reducible rfl | (simp only [World.size_alloc, World.size_setCell, World.size_drew]; done)) | with_reducible refine Blk.alloc ?_ _ | with_reducible refine Blk.drew ?_ | with_reducible refine Blk.drewN ?_ _ | with_reducible apply Blk.both | with_reducible refine Blk.far' ?_ ?_ | (show _ ≠ _; omega))))⟩ Reg.none_ trivial
          refine Reg.RC_call rfl (by intro t ht; cases ht) rfl (fun D v W hc hj hf K hK => ?_) (fun _ _ => Reg.RC_at (b := ⟨_, []⟩) rfl ?_)
          · obtain ⟨B, oA, oB, oR⟩ := hj
            have hs : D 15 = false := hc.1
            have oB : Blk W (w.heap.size + 1) 23 #[.int .i64 (c), .int .i64 (d)] := by have o := oB; simp only [hs, Reg.sel_false] at o; exact o
            have lB := oB.lt
            have fB := oB.fr
            have cB0 : World.cell? W ⟨w.heap.size + 1, 0, none⟩ = some (.int .i64 (c)) := oB.c 0 rfl
            have cB1 : World.cell? W ⟨w.heap.size + 1, 1, none⟩ = some (.int .i64 (d)) := oB.c 1 rfl
            go_step
            exact hK.out undef _ Reg.any ⟨(by (repeat' first | with_reducible assumption | with_reducible exact Below.refl _ _ | with_reducible refine Below.alloc ?_ ?_ _ | with_reducible refine Below.drew ?_ | with_reducible refine belowN ?_ _ | with_reducible refine Below.setCell ?_ ?_ _ | go_size)), (show Blk _ _ _ #[Reg.sel (D 14) (.int .i64 (a)) (.int .i64 (-b)), Reg.sel (D 14) (.int .i64 (b)) (.int .i64 (-a))] from (by (repeat' first | with_reducible assumption | (with_reducible refine Blk.new' ?_; first | with_reducible rfl | (simp only [World.size_alloc, World.size_setCell, World.size_drew]; done)) | with_reducible refine Blk.alloc ?_ _ | with_reducible refine Blk.drew ?_ | with_reducible refine Blk.drewN ?_ _ | with_reducible apply Blk.both | with_reducible refine Blk.far' ?_ ?_ | (show _ ≠ _; omega)))), (show Blk _ _ _ #[.int .i64 (-d), .int .i64 (-c)] from (Blk.set2 (cs' := #[.int .i64 (-d), .int .i64 (-c)]) (Blk.set2 (cs' := #[.int .i64 (-d), .int .i64 (d)]) oB (i := 0) rfl) (i := 1) rfl)), (show Blk _ _ _ #[.int .i64 (0), .int .i64 (0)] from (by (repeat' first | with_reducible assumption | (with_reducible refine Blk.new' ?_; first | with_reducible rfl | (simp only [World.size_alloc, World.size_setCell, World.size_drew]; done)) | with_reducible refine Blk.alloc ?_ _ | with_reducible refine Blk.drew ?_ | with_reducible refine Blk.drewN ?_ _ | with_reducible apply Blk.both | with_reducible refine Blk.far' ?_ ?_ | (show _ ≠ _; omega))))⟩ Reg.none_ trivial
          refine Reg.RC_end (fun D v W hd hj hf => ?_)
          obtain ⟨B, oA, oB, oR⟩ := hj
          have e14 : D 14 = true := hd 14 (by decide)
          have e15 : D 15 = true := hd 15 (by decide)
          have oA : Blk W (w.heap.size) 23 #[.int .i64 (-b), .int .i64 (-a)] := by have o := oA; simp only [e14, Reg.sel_true] at o; exact o
          have oB : Blk W (w.heap.size + 1) 23 #[.int .i64 (-d), .int .i64 (-c)] := by have o := oB; simp only [e15, Reg.sel_true] at o; exact o
          clear e14 e15
          clear hd hf
          refine hQ _ _ ?_
          clear hQ hops Q' ops'
          repeat' (first | go_values | go_skip | go_guarded | go_step | go_upon)
        · have H : Hid (divQ (-b) (-a) (-d) (-c) = md (dn (-b * 1099511627776) (-d)) (upq (-a * 1099511627776) (-d))) := by show divQ (-b) (-a) (-d) (-c) = _; rw [divQ_one (by omega) (by omega), if_pos (by omega), if_pos (by omega)]
          refine Reg.wp_chain (fun D v W => Below w.heap.size w W ∧ Blk W (w.heap.size) 23 #[.int .i64 (-b), .int .i64 (-a)] ∧ Blk W (w.heap.size + 1) 23 #[.int .i64 (-d), .int .i64 (-c)] ∧ Blk W (w.heap.size + 1 + 1) 23 #[.int .i64 (0), .int .i64 (0)])
            (Reg.inl []) (Reg.ge []) Reg.None_ (fun _ => Reg.Any) (fun _ _ => False) (Reg.pl []) (Reg.pl [])
            (by kernel_rfl) (by kernel_rfl) (by kernel_rfl) (Reg.ge_some _) (fun v => ?_) (fun _ _ _ _ _ h => h) (fun _ _ _ _ _ _ _ _ _ _ _ _ _ => Reg.none_) (fun _ _ _ _ h => h.elim) (fun ops' Q' hops hQ => ?_)
          · exact ⟨(by first | with_reducible exact Below.drew B | with_reducible exact Below.drew (belowN B _) | (repeat' first | with_reducible assumption | with_reducible exact Below.refl _ _ | with_reducible refine Below.alloc ?_ ?_ _ | with_reducible refine Below.drew ?_ | with_reducible refine belowN ?_ _ | with_reducible refine Below.setCell ?_ ?_ _ | go_size)), (show Blk _ _ _ #[.int .i64 (-b), .int .i64 (-a)] from (by first | with_reducible exact oA | (repeat' first | with_reducible assumption | (with_reducible refine Blk.new' ?_; first | with_reducible rfl | (simp only [World.size_alloc, World.size_setCell, World.size_drew]; done)) | with_reducible refine Blk.alloc ?_ _ | with_reducible refine Blk.drew ?_ | with_reducible refine Blk.drewN ?_ _ | with_reducible apply Blk.both | with_reducible refine Blk.far' ?_ ?_ | (show _ ≠ _; omega)))), (show Blk _ _ _ #[.int .i64 (-d), .int .i64 (-c)] from (by first | with_reducible exact oB | (repeat' first | with_reducible assumption | (with_reducible refine Blk.new' ?_; first | with_reducible rfl | (simp only [World.size_alloc, World.size_setCell, World.size_drew]; done)) | with_reducible refine Blk.alloc ?_ _ | with_reducible refine Blk.drew ?_ | with_reducible refine Blk.drewN ?_ _ | with_reducible apply Blk.both | with_reducible refine Blk.far' ?_ ?_ | (show _ ≠ _; omega)))), (show Blk _ _ _ #[.int .i64 (0), .int .i64 (0)] from (by first | with_reducible exact oR | (repeat' first | with_reducible assumption | (with_reducible refine Blk.new' ?_; first | with_reducible rfl | (simp only [World.size_alloc, World.size_setCell, World.size_drew]; done)) | with_reducible refine Blk.alloc ?_ _ | with_reducible refine Blk.drew ?_ | with_reducible refine Blk.drewN ?_ _ | with_reducible apply Blk.both | with_reducible refine Blk.far' ?_ ?_ | (show _ ≠ _; omega))))⟩
          clear B oA oB oR
          apply Reg.RC_pure (hc := rfl) (hst := rfl) (hw := rfl) (t := 42) (hd := rfl) (ht := Nat.le_of_ble_eq_true rfl)
          · intro D v W hc hj hf K hK
            go_step
            exact hK.out
          · rfl
          apply Reg.RC_pure (hc := rfl) (hst := rfl) (hw := rfl) (t := 43) (hd := rfl) (ht := Nat.le_of_ble_eq_true rfl)
          · intro D v W hc hj hf K hK
            obtain ⟨B, oA, oB, oR⟩ := hj
            have cB0 : World.cell? W ⟨w.heap.size + 1, 0, none⟩ = some (.int .i64 (-d)) := oB.c 0 rfl
            have cB1 : World.cell? W ⟨w.heap.size + 1, 1, none⟩ = some (.int .i64 (-c)) := oB.c 1 rfl
            go_step
            exact hK.out
          · rfl
          apply Reg.RC_pure (hc := rfl) (hst := rfl) (hw := rfl) (t := 44) (hd := rfl) (ht := Nat.le_of_ble_eq_true rfl)
          · intro D v W hc hj hf K hK
            go_step
            exact hK.out
          · rfl
          apply Reg.RC_pure (hc := rfl) (hst := rfl) (hw := rfl) (t := 45) (hd := rfl) (ht := Nat.le_of_ble_eq_true rfl)
          · intro D v W hc hj hf K hK
            go_step
            exact hK.out
          · rfl
          apply Reg.RC_pure (hc := rfl) (hst := rfl) (hw := rfl) (t := 46) (hd := rfl) (ht := Nat.le_of_ble_eq_true rfl)
          · intro D v W hc hj hf K hK
            obtain ⟨B, oA, oB, oR⟩ := hj
            have cB0 : World.cell? W ⟨w.heap.size + 1, 0, none⟩ = some (.int .i64 (-d)) := oB.c 0 rfl
            have cB1 : World.cell? W ⟨w.heap.size + 1, 1, none⟩ = some (.int .i64 (-c)) := oB.c 1 rfl
            go_step
            exact hK.out
          · rfl
          apply Reg.RC_pure (hc := rfl) (hst := rfl) (hw := rfl) (t := 47) (hd := rfl) (ht := Nat.le_of_ble_eq_true rfl)
          · intro D v W hc hj hf K hK
            go_step
            exact hK.out
          · rfl
          apply Reg.RC_pure (hc := rfl) (hst := rfl) (hw := rfl) (t := 6) (hd := rfl) (ht := Nat.le_of_ble_eq_true rfl)
          · intro D v W hc hj hf K hK
            go_step
            exact hK.out
          · rfl
          apply Reg.RC_pure (hc := rfl) (hst := rfl) (hw := rfl) (t := 7) (hd := rfl) (ht := Nat.le_of_ble_eq_true rfl)
          · intro D v W hc hj hf K hK
            go_step
            exact hK.out
          · rfl
          refine Reg.RC_end (fun D v W hd hj hf => ?_)
          obtain ⟨B, oA, oB, oR⟩ := hj
          clear hd hf
          refine hQ _ _ ?_
          clear hQ hops Q' ops'
          have lA := oA.lt
          have fA := oA.fr
          have cA0 := oA.c 0 rfl
          have cA1 := oA.c 1 rfl
          have lB := oB.lt
          have fB := oB.fr
          have cB0 := oB.c 0 rfl
          have cB1 := oB.c 1 rfl
          go_wp2_with fail
          clear lA fA cA0 cA1 lB fB cB0 cB1
          refine Reg.wp_chain (fun D v W => Below w.heap.size w W ∧ Blk W (w.heap.size) 23 #[.int .i64 (-b), .int .i64 (-a)] ∧ Blk W (w.heap.size + 1) 23 #[.int .i64 (-d), .int .i64 (-c)] ∧ Blk W (w.heap.size + 1 + 1) 23 #[Reg.sel (D 13) (.int .i64 (0)) (.int .i64 ((md (dn (-b * 1099511627776) (-d)) (upq (-a * 1099511627776) (-d))).1)), Reg.sel (D 13) (.int .i64 (0)) (.int .i64 ((md (dn (-b * 1099511627776) (-d)) (upq (-a * 1099511627776) (-d))).2.1))])
            (Reg.inl [2, 4, 7, 9, 10, 13]) (Reg.ge [(2, .agg #[.bool (negB (-b * 1099511627776)), .int .u64 (aHi (-b * 1099511627776)), .int .u64 (aLo (-b * 1099511627776))]), (4, .int .i64 (dn (-b * 1099511627776) (-d))), (7, .agg #[.bool (negB (-a * 1099511627776)), .int .u64 (aHi (-a * 1099511627776)), .int .u64 (aLo (-a * 1099511627776))]), (9, .int .i64 (upq (-a * 1099511627776) (-d))), (10, .tuple #[.agg #[.int .i64 ((md (dn (-b * 1099511627776) (-d)) (upq (-a * 1099511627776) (-d))).1), .int .i64 ((md (dn (-b * 1099511627776) (-d)) (upq (-a * 1099511627776) (-d))).2.1)], .int .i64 ((md (dn (-b * 1099511627776) (-d)) (upq (-a * 1099511627776) (-d))).2.2)])]) Reg.None_ (fun _ => Reg.Any) (fun _ _ => False) (Reg.pl []) (Reg.pl [])
            (by kernel_rfl) (by kernel_rfl) (by kernel_rfl) (Reg.ge_some _) (fun v => ?_) (fun _ _ _ _ _ h => h) (fun _ _ _ _ _ _ _ _ _ _ _ _ _ => Reg.none_) (fun _ _ _ _ h => h.elim) (fun ops' Q' hops hQ => ?_)
          · exact ⟨(by first | with_reducible exact Below.drew B | with_reducible exact Below.drew (belowN B _) | (repeat' first | with_reducible assumption | with_reducible exact Below.refl _ _ | with_reducible refine Below.alloc ?_ ?_ _ | with_reducible refine Below.drew ?_ | with_reducible refine belowN ?_ _ | with_reducible refine Below.setCell ?_ ?_ _ | go_size)), (show Blk _ _ _ #[.int .i64 (-b), .int .i64 (-a)] from (by first | with_reducible exact oA | (repeat' first | with_reducible assumption | (with_reducible refine Blk.new' ?_; first | with_reducible rfl | (simp only [World.size_alloc, World.size_setCell, World.size_drew]; done)) | with_reducible refine Blk.alloc ?_ _ | with_reducible refine Blk.drew ?_ | with_reducible refine Blk.drewN ?_ _ | with_reducible apply Blk.both | with_reducible refine Blk.far' ?_ ?_ | (show _ ≠ _; omega)))), (show Blk _ _ _ #[.int .i64 (-d), .int .i64 (-c)] from (by first | with_reducible exact oB | (repeat' first | with_reducible assumption | (with_reducible refine Blk.new' ?_; first | with_reducible rfl | (simp only [World.size_alloc, World.size_setCell, World.size_drew]; done)) | with_reducible refine Blk.alloc ?_ _ | with_reducible refine Blk.drew ?_ | with_reducible refine Blk.drewN ?_ _ | with_reducible apply Blk.both | with_reducible refine Blk.far' ?_ ?_ | (show _ ≠ _; omega)))), (show Blk _ _ _ #[.int .i64 (0), .int .i64 (0)] from (by first | with_reducible exact oR | (repeat' first | with_reducible assumption | (with_reducible refine Blk.new' ?_; first | with_reducible rfl | (simp only [World.size_alloc, World.size_setCell, World.size_drew]; done)) | with_reducible refine Blk.alloc ?_ _ | with_reducible refine Blk.drew ?_ | with_reducible refine Blk.drewN ?_ _ | with_reducible apply Blk.both | with_reducible refine Blk.far' ?_ ?_ | (show _ ≠ _; omega))))⟩
          clear B oA oB oR
          apply Reg.RC_pure (hc := rfl) (hst := rfl) (hw := rfl) (t := 60) (hd := rfl) (ht := Nat.le_of_ble_eq_true rfl)
          · intro D v W hc hj hf K hK
            go_step
            exact hK.out
          · rfl
          apply Reg.RC_pure (hc := rfl) (hst := rfl) (hw := rfl) (t := 61) (hd := rfl) (ht := Nat.le_of_ble_eq_true rfl)
          · intro D v W hc hj hf K hK
            obtain ⟨B, oA, oB, oR⟩ := hj
            have cA0 : World.cell? W ⟨w.heap.size, 0, none⟩ = some (.int .i64 (-b)) := oA.c 0 rfl
            have cA1 : World.cell? W ⟨w.heap.size, 1, none⟩ = some (.int .i64 (-a)) := oA.c 1 rfl
            go_step
            exact hK.out
          · rfl
          refine Reg.RC_exact _ (fun _ h => h) rfl (by intro t ht; cases ht; exact Nat.le_of_ble_eq_true rfl) rfl (fun D v W hc hj hf K hK => ?_) (Reg.RC_at (b := ⟨#[_, _, _, _, _, _, _, _, _, _, _, _, _, _, _, _, _, _, _, _, _, _, _, _, _, _, _, _, _, _, _, _, _, _, _, _, _, _, _, _, _, _, _, _, _, _, _, _, _, _, _, _, _, _, _, _, _, _, _, _, _, _, _, _, _, _, _, _, _, _, _, _, _], []⟩) rfl ?_)
          · obtain ⟨B, oA, oB, oR⟩ := hj
            go_step
            refine (rtimes_b _ _ _ (by omega) (by omega) (by omega) (by omega)).mono ?_
            rintro e W' ⟨rfl, hb⟩
            have st : Steps W W' := hb
            exact hK.out _ _ Reg.any ⟨below_steps B (Nat.le_refl _) st, oA.steps st, oB.steps st, oR.steps st⟩ Reg.none_ rfl
          apply Reg.RC_pure (hc := rfl) (hst := rfl) (hw := rfl) (t := 63) (hd := rfl) (ht := Nat.le_of_ble_eq_true rfl)
          · intro D v W hc hj hf K hK
            go_step
            exact hK.out
          · rfl
          refine Reg.RC_exact _ (fun _ h => h) rfl (by intro t ht; cases ht; exact Nat.le_of_ble_eq_true rfl) rfl (fun D v W hc hj hf K hK => ?_) (Reg.RC_at (b := ⟨#[_, _, _, _, _, _, _, _, _, _, _, _, _, _, _, _, _, _, _, _, _, _, _, _, _, _, _, _, _, _, _, _, _, _, _, _, _, _, _, _, _, _, _, _, _, _, _, _, _, _, _, _, _, _, _, _, _, _, _, _, _, _, _, _, _, _, _, _, _, _, _, _, _], []⟩) rfl ?_)
          · obtain ⟨B, oA, oB, oR⟩ := hj
            go_step
            refine (rover_dn _ _ _ (by omega) (by omega) (by omega) (by omega)).mono ?_
            rintro e W' ⟨rfl, hb⟩
            have st : Steps W W' := hb
            exact hK.out _ _ Reg.any ⟨below_steps B (Nat.le_refl _) st, oA.steps st, oB.steps st, oR.steps st⟩ Reg.none_ rfl
          apply Reg.RC_pure (hc := rfl) (hst := rfl) (hw := rfl) (t := 65) (hd := rfl) (ht := Nat.le_of_ble_eq_true rfl)
          · intro D v W hc hj hf K hK
            go_step
            exact hK.out
          · rfl
          apply Reg.RC_pure (hc := rfl) (hst := rfl) (hw := rfl) (t := 66) (hd := rfl) (ht := Nat.le_of_ble_eq_true rfl)
          · intro D v W hc hj hf K hK
            obtain ⟨B, oA, oB, oR⟩ := hj
            have cA0 : World.cell? W ⟨w.heap.size, 0, none⟩ = some (.int .i64 (-b)) := oA.c 0 rfl
            have cA1 : World.cell? W ⟨w.heap.size, 1, none⟩ = some (.int .i64 (-a)) := oA.c 1 rfl
            go_step
            exact hK.out
          · rfl
          refine Reg.RC_exact _ (fun _ h => h) rfl (by intro t ht; cases ht; exact Nat.le_of_ble_eq_true rfl) rfl (fun D v W hc hj hf K hK => ?_) (Reg.RC_at (b := ⟨#[_, _, _, _, _, _, _, _, _, _, _, _, _, _, _, _, _, _, _, _, _, _, _, _, _, _, _, _, _, _, _, _, _, _, _, _, _, _, _, _, _, _, _, _, _, _, _, _, _, _, _, _, _, _, _, _, _, _, _, _, _, _, _, _, _, _, _, _, _, _, _, _, _], []⟩) rfl ?_)
          · obtain ⟨B, oA, oB, oR⟩ := hj
            go_step
            refine (rtimes_b _ _ _ (by omega) (by omega) (by omega) (by omega)).mono ?_
            rintro e W' ⟨rfl, hb⟩
            have st : Steps W W' := hb
            exact hK.out _ _ Reg.any ⟨below_steps B (Nat.le_refl _) st, oA.steps st, oB.steps st, oR.steps st⟩ Reg.none_ rfl
          apply Reg.RC_pure (hc := rfl) (hst := rfl) (hw := rfl) (t := 68) (hd := rfl) (ht := Nat.le_of_ble_eq_true rfl)
          · intro D v W hc hj hf K hK
            go_step
            exact hK.out
          · rfl
          refine Reg.RC_exact _ (fun _ h => h) rfl (by intro t ht; cases ht; exact Nat.le_of_ble_eq_true rfl) rfl (fun D v W hc hj hf K hK => ?_) (Reg.RC_at (b := ⟨#[_, _, _, _, _, _, _, _, _, _, _, _, _, _, _, _, _, _, _, _, _, _, _, _, _, _, _, _, _, _, _, _, _, _, _, _, _, _, _, _, _, _, _, _, _, _, _, _, _, _, _, _, _, _, _, _, _, _, _, _, _, _, _, _, _, _, _, _, _, _, _, _, _], []⟩) rfl ?_)
          · obtain ⟨B, oA, oB, oR⟩ := hj
            go_step
            refine (rover_up _ _ _ (by omega) (by omega) (by omega) (by omega)).mono ?_
            rintro e W' ⟨rfl, hb⟩
            have st : Steps W W' := hb
            exact hK.out _ _ Reg.any ⟨below_steps B (Nat.le_refl _) st, oA.steps st, oB.steps st, oR.steps st⟩ Reg.none_ rfl
          refine Reg.RC_exact _ (fun _ h => h) rfl (by intro t ht; cases ht; exact Nat.le_of_ble_eq_true rfl) rfl (fun D v W hc hj hf K hK => ?_) (Reg.RC_at (b := ⟨#[_, _, _, _, _, _, _, _, _, _, _, _, _, _, _, _, _, _, _, _, _, _, _, _, _, _, _, _, _, _, _, _, _, _, _, _, _, _, _, _, _, _, _, _, _, _, _, _, _, _, _, _, _, _, _, _, _, _, _, _, _, _, _, _, _, _, _, _, _, _, _, _, _], []⟩) rfl ?_)
          · obtain ⟨B, oA, oB, oR⟩ := hj
            go_step
            refine (rmade _ _ _).mono ?_
            rintro e W' ⟨rfl, hb⟩
            have st : Steps W W' := hb
            exact hK.out _ _ Reg.any ⟨below_steps B (Nat.le_refl _) st, oA.steps st, oB.steps st, oR.steps st⟩ Reg.none_ rfl
          apply Reg.RC_pure (hc := rfl) (hst := rfl) (hw := rfl) (t := 71) (hd := rfl) (ht := Nat.le_of_ble_eq_true rfl)
          · intro D v W hc hj hf K hK
            go_step
            exact hK.out
          · rfl
          apply Reg.RC_pure (hc := rfl) (hst := rfl) (hw := rfl) (t := 72) (hd := rfl) (ht := Nat.le_of_ble_eq_true rfl)
          · intro D v W hc hj hf K hK
            go_step
            exact hK.out
          · rfl
          refine Reg.RC_call rfl (by intro t ht; cases ht) rfl (fun D v W hc hj hf K hK => ?_) (fun _ _ => Reg.RC_at (b := ⟨_, []⟩) rfl ?_)
          · obtain ⟨B, oA, oB, oR⟩ := hj
            have hs : D 13 = false := hc.1
            have oR : Blk W (w.heap.size + 1 + 1) 23 #[.int .i64 (0), .int .i64 (0)] := by have o := oR; simp only [hs, Reg.sel_false] at o; exact o
            have lR := oR.lt
            have fR := oR.fr
            have cR0 : World.cell? W ⟨w.heap.size + 1 + 1, 0, none⟩ = some (.int .i64 (0)) := oR.c 0 rfl
            have cR1 : World.cell? W ⟨w.heap.size + 1 + 1, 1, none⟩ = some (.int .i64 (0)) := oR.c 1 rfl
            go_step
            exact hK.out undef _ Reg.any ⟨(by (repeat' first | with_reducible assumption | with_reducible exact Below.refl _ _ | with_reducible refine Below.alloc ?_ ?_ _ | with_reducible refine Below.drew ?_ | with_reducible refine belowN ?_ _ | with_reducible refine Below.setCell ?_ ?_ _ | go_size)), (show Blk _ _ _ #[.int .i64 (-b), .int .i64 (-a)] from (by (repeat' first | with_reducible assumption | (with_reducible refine Blk.new' ?_; first | with_reducible rfl | (simp only [World.size_alloc, World.size_setCell, World.size_drew]; done)) | with_reducible refine Blk.alloc ?_ _ | with_reducible refine Blk.drew ?_ | with_reducible refine Blk.drewN ?_ _ | with_reducible apply Blk.both | with_reducible refine Blk.far' ?_ ?_ | (show _ ≠ _; omega)))), (show Blk _ _ _ #[.int .i64 (-d), .int .i64 (-c)] from (by (repeat' first | with_reducible assumption | (with_reducible refine Blk.new' ?_; first | with_reducible rfl | (simp only [World.size_alloc, World.size_setCell, World.size_drew]; done)) | with_reducible refine Blk.alloc ?_ _ | with_reducible refine Blk.drew ?_ | with_reducible refine Blk.drewN ?_ _ | with_reducible apply Blk.both | with_reducible refine Blk.far' ?_ ?_ | (show _ ≠ _; omega)))), (show Blk _ _ _ #[.int .i64 ((md (dn (-b * 1099511627776) (-d)) (upq (-a * 1099511627776) (-d))).1), .int .i64 ((md (dn (-b * 1099511627776) (-d)) (upq (-a * 1099511627776) (-d))).2.1)] from (Blk.set2 (cs' := #[.int .i64 ((md (dn (-b * 1099511627776) (-d)) (upq (-a * 1099511627776) (-d))).1), .int .i64 ((md (dn (-b * 1099511627776) (-d)) (upq (-a * 1099511627776) (-d))).2.1)]) (Blk.set2 (cs' := #[.int .i64 ((md (dn (-b * 1099511627776) (-d)) (upq (-a * 1099511627776) (-d))).1), .int .i64 (0)]) oR (i := 0) rfl) (i := 1) rfl))⟩ Reg.none_ trivial
          apply Reg.RC_pure (hc := rfl) (hst := rfl) (hw := rfl) (t := 5) (hd := rfl) (ht := Nat.le_of_ble_eq_true rfl)
          · intro D v W hc hj hf K hK
            go_step
            exact hK.out
          · rfl
          refine Reg.RC_end (fun D v W hd hj hf => ?_)
          obtain ⟨B, oA, oB, oR⟩ := hj
          have e13 : D 13 = true := hd 13 (by decide)
          have oR : Blk W (w.heap.size + 1 + 1) 23 #[.int .i64 ((md (dn (-b * 1099511627776) (-d)) (upq (-a * 1099511627776) (-d))).1), .int .i64 ((md (dn (-b * 1099511627776) (-d)) (upq (-a * 1099511627776) (-d))).2.1)] := by have o := oR; simp only [e13, Reg.sel_true] at o; exact o
          clear e13
          clear hd hf
          refine hQ _ _ ?_
          clear hQ hops Q' ops'
          have lR := oR.lt
          have cR0 := oR.c 0 rfl
          have cR1 := oR.c 1 rfl
          have fR := oR.fr
          repeat' (first | go_values | go_skip | go_guarded | go_step | go_upon)
          refine bodyPost_ret (by simp [results, Try.results29, go_sem, lR, cR0, cR1, fR]; rfl) rfl ?_
          show G3 w _ _ _
          rw [H0.out, H.out]
          exact ⟨rfl, B⟩
        · have H : Hid (divQ (-b) (-a) (-d) (-c) = md (dn (-b * 1099511627776) (-d)) (upq (-a * 1099511627776) (-c))) := by show divQ (-b) (-a) (-d) (-c) = _; rw [divQ_one (by omega) (by omega), if_pos (by omega), if_neg (by omega)]
          refine Reg.wp_chain (fun D v W => Below w.heap.size w W ∧ Blk W (w.heap.size) 23 #[.int .i64 (-b), .int .i64 (-a)] ∧ Blk W (w.heap.size + 1) 23 #[.int .i64 (-d), .int .i64 (-c)] ∧ Blk W (w.heap.size + 1 + 1) 23 #[.int .i64 (0), .int .i64 (0)])
            (Reg.inl []) (Reg.ge []) Reg.None_ (fun _ => Reg.Any) (fun _ _ => False) (Reg.pl []) (Reg.pl [])
            (by kernel_rfl) (by kernel_rfl) (by kernel_rfl) (Reg.ge_some _) (fun v => ?_) (fun _ _ _ _ _ h => h) (fun _ _ _ _ _ _ _ _ _ _ _ _ _ => Reg.none_) (fun _ _ _ _ h => h.elim) (fun ops' Q' hops hQ => ?_)
          · exact ⟨(by first | with_reducible exact Below.drew B | with_reducible exact Below.drew (belowN B _) | (repeat' first | with_reducible assumption | with_reducible exact Below.refl _ _ | with_reducible refine Below.alloc ?_ ?_ _ | with_reducible refine Below.drew ?_ | with_reducible refine belowN ?_ _ | with_reducible refine Below.setCell ?_ ?_ _ | go_size)), (show Blk _ _ _ #[.int .i64 (-b), .int .i64 (-a)] from (by first | with_reducible exact oA | (repeat' first | with_reducible assumption | (with_reducible refine Blk.new' ?_; first | with_reducible rfl | (simp only [World.size_alloc, World.size_setCell, World.size_drew]; done)) | with_reducible refine Blk.alloc ?_ _ | with_reducible refine Blk.drew ?_ | with_reducible refine Blk.drewN ?_ _ | with_reducible apply Blk.both | with_reducible refine Blk.far' ?_ ?_ | (show _ ≠ _; omega)))), (show Blk _ _ _ #[.int .i64 (-d), .int .i64 (-c)] from (by first | with_reducible exact oB | (repeat' first | with_reducible assumption | (with_reducible refine Blk.new' ?_; first | with_reducible rfl | (simp only [World.size_alloc, World.size_setCell, World.size_drew]; done)) | with_reducible refine Blk.alloc ?_ _ | with_reducible refine Blk.drew ?_ | with_reducible refine Blk.drewN ?_ _ | with_reducible apply Blk.both | with_reducible refine Blk.far' ?_ ?_ | (show _ ≠ _; omega)))), (show Blk _ _ _ #[.int .i64 (0), .int .i64 (0)] from (by first | with_reducible exact oR | (repeat' first | with_reducible assumption | (with_reducible refine Blk.new' ?_; first | with_reducible rfl | (simp only [World.size_alloc, World.size_setCell, World.size_drew]; done)) | with_reducible refine Blk.alloc ?_ _ | with_reducible refine Blk.drew ?_ | with_reducible refine Blk.drewN ?_ _ | with_reducible apply Blk.both | with_reducible refine Blk.far' ?_ ?_ | (show _ ≠ _; omega))))⟩
          clear B oA oB oR
          apply Reg.RC_pure (hc := rfl) (hst := rfl) (hw := rfl) (t := 42) (hd := rfl) (ht := Nat.le_of_ble_eq_true rfl)
          · intro D v W hc hj hf K hK
            go_step
            exact hK.out
          · rfl
          apply Reg.RC_pure (hc := rfl) (hst := rfl) (hw := rfl) (t := 43) (hd := rfl) (ht := Nat.le_of_ble_eq_true rfl)
          · intro D v W hc hj hf K hK
            obtain ⟨B, oA, oB, oR⟩ := hj
            have cB0 : World.cell? W ⟨w.heap.size + 1, 0, none⟩ = some (.int .i64 (-d)) := oB.c 0 rfl
            have cB1 : World.cell? W ⟨w.heap.size + 1, 1, none⟩ = some (.int .i64 (-c)) := oB.c 1 rfl
            go_step
            exact hK.out
          · rfl
          apply Reg.RC_pure (hc := rfl) (hst := rfl) (hw := rfl) (t := 44) (hd := rfl) (ht := Nat.le_of_ble_eq_true rfl)
          · intro D v W hc hj hf K hK
            go_step
            exact hK.out
          · rfl
          apply Reg.RC_pure (hc := rfl) (hst := rfl) (hw := rfl) (t := 45) (hd := rfl) (ht := Nat.le_of_ble_eq_true rfl)
          · intro D v W hc hj hf K hK
            go_step
            exact hK.out
          · rfl
          apply Reg.RC_pure (hc := rfl) (hst := rfl) (hw := rfl) (t := 46) (hd := rfl) (ht := Nat.le_of_ble_eq_true rfl)
          · intro D v W hc hj hf K hK
            obtain ⟨B, oA, oB, oR⟩ := hj
            have cB0 : World.cell? W ⟨w.heap.size + 1, 0, none⟩ = some (.int .i64 (-d)) := oB.c 0 rfl
            have cB1 : World.cell? W ⟨w.heap.size + 1, 1, none⟩ = some (.int .i64 (-c)) := oB.c 1 rfl
            go_step
            exact hK.out
          · rfl
          apply Reg.RC_pure (hc := rfl) (hst := rfl) (hw := rfl) (t := 47) (hd := rfl) (ht := Nat.le_of_ble_eq_true rfl)
          · intro D v W hc hj hf K hK
            go_step
            exact hK.out
          · rfl
          apply Reg.RC_pure (hc := rfl) (hst := rfl) (hw := rfl) (t := 6) (hd := rfl) (ht := Nat.le_of_ble_eq_true rfl)
          · intro D v W hc hj hf K hK
            go_step
            exact hK.out
          · rfl
          apply Reg.RC_pure (hc := rfl) (hst := rfl) (hw := rfl) (t := 7) (hd := rfl) (ht := Nat.le_of_ble_eq_true rfl)
          · intro D v W hc hj hf K hK
            go_step
            exact hK.out
          · rfl
          refine Reg.RC_end (fun D v W hd hj hf => ?_)
          obtain ⟨B, oA, oB, oR⟩ := hj
          clear hd hf
          refine hQ _ _ ?_
          clear hQ hops Q' ops'
          have lA := oA.lt
          have fA := oA.fr
          have cA0 := oA.c 0 rfl
          have cA1 := oA.c 1 rfl
          have lB := oB.lt
          have fB := oB.fr
          have cB0 := oB.c 0 rfl
          have cB1 := oB.c 1 rfl
          go_wp2_with fail
          clear lA fA cA0 cA1 lB fB cB0 cB1
          refine Reg.wp_chain (fun D v W => Below w.heap.size w W ∧ Blk W (w.heap.size) 23 #[.int .i64 (-b), .int .i64 (-a)] ∧ Blk W (w.heap.size + 1) 23 #[.int .i64 (-d), .int .i64 (-c)] ∧ Blk W (w.heap.size + 1 + 1) 23 #[Reg.sel (D 13) (.int .i64 (0)) (.int .i64 ((md (dn (-b * 1099511627776) (-d)) (upq (-a * 1099511627776) (-c))).1)), Reg.sel (D 13) (.int .i64 (0)) (.int .i64 ((md (dn (-b * 1099511627776) (-d)) (upq (-a * 1099511627776) (-c))).2.1))])
            (Reg.inl [2, 4, 7, 9, 10, 13]) (Reg.ge [(2, .agg #[.bool (negB (-b * 1099511627776)), .int .u64 (aHi (-b * 1099511627776)), .int .u64 (aLo (-b * 1099511627776))]), (4, .int .i64 (dn (-b * 1099511627776) (-d))), (7, .agg #[.bool (negB (-a * 1099511627776)), .int .u64 (aHi (-a * 1099511627776)), .int .u64 (aLo (-a * 1099511627776))]), (9, .int .i64 (upq (-a * 1099511627776) (-c))), (10, .tuple #[.agg #[.int .i64 ((md (dn (-b * 1099511627776) (-d)) (upq (-a * 1099511627776) (-c))).1), .int .i64 ((md (dn (-b * 1099511627776) (-d)) (upq (-a * 1099511627776) (-c))).2.1)], .int .i64 ((md (dn (-b * 1099511627776) (-d)) (upq (-a * 1099511627776) (-c))).2.2)])]) Reg.None_ (fun _ => Reg.Any) (fun _ _ => False) (Reg.pl []) (Reg.pl [])
            (by kernel_rfl) (by kernel_rfl) (by kernel_rfl) (Reg.ge_some _) (fun v => ?_) (fun _ _ _ _ _ h => h) (fun _ _ _ _ _ _ _ _ _ _ _ _ _ => Reg.none_) (fun _ _ _ _ h => h.elim) (fun ops' Q' hops hQ => ?_)
          · exact ⟨(by first | with_reducible exact Below.drew B | with_reducible exact Below.drew (belowN B _) | (repeat' first | with_reducible assumption | with_reducible exact Below.refl _ _ | with_reducible refine Below.alloc ?_ ?_ _ | with_reducible refine Below.drew ?_ | with_reducible refine belowN ?_ _ | with_reducible refine Below.setCell ?_ ?_ _ | go_size)), (show Blk _ _ _ #[.int .i64 (-b), .int .i64 (-a)] from (by first | with_reducible exact oA | (repeat' first | with_reducible assumption | (with_reducible refine Blk.new' ?_; first | with_reducible rfl | (simp only [World.size_alloc, World.size_setCell, World.size_drew]; done)) | with_reducible refine Blk.alloc ?_ _ | with_reducible refine Blk.drew ?_ | with_reducible refine Blk.drewN ?_ _ | with_reducible apply Blk.both | with_reducible refine Blk.far' ?_ ?_ | (show _ ≠ _; omega)))), (show Blk _ _ _ #[.int .i64 (-d), .int .i64 (-c)] from (by first | with_reducible exact oB | (repeat' first | with_reducible assumption | (with_reducible refine Blk.new' ?_; first | with_reducible rfl | (simp only [World.size_alloc, World.size_setCell, World.size_drew]; done)) | with_reducible refine Blk.alloc ?_ _ | with_reducible refine Blk.drew ?_ | with_reducible refine Blk.drewN ?_ _ | with_reducible apply Blk.both | with_reducible refine Blk.far' ?_ ?_ | (show _ ≠ _; omega)))), (show Blk _ _ _ #[.int .i64 (0), .int .i64 (0)] from (by first | with_reducible exact oR | (repeat' first | with_reducible assumption | (with_reducible refine Blk.new' ?_; first | with_reducible rfl | (simp only [World.size_alloc, World.size_setCell, World.size_drew]; done)) | with_reducible refine Blk.alloc ?_ _ | with_reducible refine Blk.drew ?_ | with_reducible refine Blk.drewN ?_ _ | with_reducible apply Blk.both | with_reducible refine Blk.far' ?_ ?_ | (show _ ≠ _; omega))))⟩
          clear B oA oB oR
          apply Reg.RC_pure (hc := rfl) (hst := rfl) (hw := rfl) (t := 60) (hd := rfl) (ht := Nat.le_of_ble_eq_true rfl)
          · intro D v W hc hj hf K hK
            go_step
            exact hK.out
          · rfl
          apply Reg.RC_pure (hc := rfl) (hst := rfl) (hw := rfl) (t := 61) (hd := rfl) (ht := Nat.le_of_ble_eq_true rfl)
          · intro D v W hc hj hf K hK
            obtain ⟨B, oA, oB, oR⟩ := hj
            have cA0 : World.cell? W ⟨w.heap.size, 0, none⟩ = some (.int .i64 (-b)) := oA.c 0 rfl
            have cA1 : World.cell? W ⟨w.heap.size, 1, none⟩ = some (.int .i64 (-a)) := oA.c 1 rfl
            go_step
            exact hK.out
          · rfl
          refine Reg.RC_exact _ (fun _ h => h) rfl (by intro t ht; cases ht; exact Nat.le_of_ble_eq_true rfl) rfl (fun D v W hc hj hf K hK => ?_) (Reg.RC_at (b := ⟨#[_, _, _, _, _, _, _, _, _, _, _, _, _, _, _, _, _, _, _, _, _, _, _, _, _, _, _, _, _, _, _, _, _, _, _, _, _, _, _, _, _, _, _, _, _, _, _, _, _, _, _, _, _, _, _, _, _, _, _, _, _, _, _, _, _, _, _, _, _, _, _, _, _], []⟩) rfl ?_)
          · obtain ⟨B, oA, oB, oR⟩ := hj
            go_step
            refine (rtimes_b _ _ _ (by omega) (by omega) (by omega) (by omega)).mono ?_
            rintro e W' ⟨rfl, hb⟩
            have st : Steps W W' := hb
            exact hK.out _ _ Reg.any ⟨below_steps B (Nat.le_refl _) st, oA.steps st, oB.steps st, oR.steps st⟩ Reg.none_ rfl
          apply Reg.RC_pure (hc := rfl) (hst := rfl) (hw := rfl) (t := 63) (hd := rfl) (ht := Nat.le_of_ble_eq_true rfl)
          · intro D v W hc hj hf K hK
            go_step
            exact hK.out
          · rfl
          refine Reg.RC_exact _ (fun _ h => h) rfl (by intro t ht; cases ht; exact Nat.le_of_ble_eq_true rfl) rfl (fun D v W hc hj hf K hK => ?_) (Reg.RC_at (b := ⟨#[_, _, _, _, _, _, _, _, _, _, _, _, _, _, _, _, _, _, _, _, _, _, _, _, _, _, _, _, _, _, _, _, _, _, _, _, _, _, _, _, _, _, _, _, _, _, _, _, _, _, _, _, _, _, _, _, _, _, _, _, _, _, _, _, _, _, _, _, _, _, _, _, _], []⟩) rfl ?_)
          · obtain ⟨B, oA, oB, oR⟩ := hj
            go_step
            refine (rover_dn _ _ _ (by omega) (by omega) (by omega) (by omega)).mono ?_
            rintro e W' ⟨rfl, hb⟩
            have st : Steps W W' := hb
            exact hK.out _ _ Reg.any ⟨below_steps B (Nat.le_refl _) st, oA.steps st, oB.steps st, oR.steps st⟩ Reg.none_ rfl
          apply Reg.RC_pure (hc := rfl) (hst := rfl) (hw := rfl) (t := 65) (hd := rfl) (ht := Nat.le_of_ble_eq_true rfl)
          · intro D v W hc hj hf K hK
            go_step
            exact hK.out
          · rfl
          apply Reg.RC_pure (hc := rfl) (hst := rfl) (hw := rfl) (t := 66) (hd := rfl) (ht := Nat.le_of_ble_eq_true rfl)
          · intro D v W hc hj hf K hK
            obtain ⟨B, oA, oB, oR⟩ := hj
            have cA0 : World.cell? W ⟨w.heap.size, 0, none⟩ = some (.int .i64 (-b)) := oA.c 0 rfl
            have cA1 : World.cell? W ⟨w.heap.size, 1, none⟩ = some (.int .i64 (-a)) := oA.c 1 rfl
            go_step
            exact hK.out
          · rfl
          refine Reg.RC_exact _ (fun _ h => h) rfl (by intro t ht; cases ht; exact Nat.le_of_ble_eq_true rfl) rfl (fun D v W hc hj hf K hK => ?_) (Reg.RC_at (b := ⟨#[_, _, _, _, _, _, _, _, _, _, _, _, _, _, _, _, _, _, _, _, _, _, _, _, _, _, _, _, _, _, _, _, _, _, _, _, _, _, _, _, _, _, _, _, _, _, _, _, _, _, _, _, _, _, _, _, _, _, _, _, _, _, _, _, _, _, _, _, _, _, _, _, _], []⟩) rfl ?_)
          · obtain ⟨B, oA, oB, oR⟩ := hj
            go_step
            refine (rtimes_b _ _ _ (by omega) (by omega) (by omega) (by omega)).mono ?_
            rintro e W' ⟨rfl, hb⟩
            have st : Steps W W' := hb
            exact hK.out _ _ Reg.any ⟨below_steps B (Nat.le_refl _) st, oA.steps st, oB.steps st, oR.steps st⟩ Reg.none_ rfl
          apply Reg.RC_pure (hc := rfl) (hst := rfl) (hw := rfl) (t := 68) (hd := rfl) (ht := Nat.le_of_ble_eq_true rfl)
          · intro D v W hc hj hf K hK
            go_step
            exact hK.out
          · rfl
          refine Reg.RC_exact _ (fun _ h => h) rfl (by intro t ht; cases ht; exact Nat.le_of_ble_eq_true rfl) rfl (fun D v W hc hj hf K hK => ?_) (Reg.RC_at (b := ⟨#[_, _, _, _, _, _, _, _, _, _, _, _, _, _, _, _, _, _, _, _, _, _, _, _, _, _, _, _, _, _, _, _, _, _, _, _, _, _, _, _, _, _, _, _, _, _, _, _, _, _, _, _, _, _, _, _, _, _, _, _, _, _, _, _, _, _, _, _, _, _, _, _, _], []⟩) rfl ?_)
          · obtain ⟨B, oA, oB, oR⟩ := hj
            go_step
            refine (rover_up _ _ _ (by omega) (by omega) (by omega) (by omega)).mono ?_
            rintro e W' ⟨rfl, hb⟩
            have st : Steps W W' := hb
            exact hK.out _ _ Reg.any ⟨below_steps B (Nat.le_refl _) st, oA.steps st, oB.steps st, oR.steps st⟩ Reg.none_ rfl
          refine Reg.RC_exact _ (fun _ h => h) rfl (by intro t ht; cases ht; exact Nat.le_of_ble_eq_true rfl) rfl (fun D v W hc hj hf K hK => ?_) (Reg.RC_at (b := ⟨#[_, _, _, _, _, _, _, _, _, _, _, _, _, _, _, _, _, _, _, _, _, _, _, _, _, _, _, _, _, _, _, _, _, _, _, _, _, _, _, _, _, _, _, _, _, _, _, _, _, _, _, _, _, _, _, _, _, _, _, _, _, _, _, _, _, _, _, _, _, _, _, _, _], []⟩) rfl ?_)
          · obtain ⟨B, oA, oB, oR⟩ := hj
            go_step
            refine (rmade _ _ _).mono ?_
            rintro e W' ⟨rfl, hb⟩
            have st : Steps W W' := hb
            exact hK.out _ _ Reg.any ⟨below_steps B (Nat.le_refl _) st, oA.steps st, oB.steps st, oR.steps st⟩ Reg.none_ rfl
          apply Reg.RC_pure (hc := rfl) (hst := rfl) (hw := rfl) (t := 71) (hd := rfl) (ht := Nat.le_of_ble_eq_true rfl)
          · intro D v W hc hj hf K hK
            go_step
            exact hK.out
          · rfl
          apply Reg.RC_pure (hc := rfl) (hst := rfl) (hw := rfl) (t := 72) (hd := rfl) (ht := Nat.le_of_ble_eq_true rfl)
          · intro D v W hc hj hf K hK
            go_step
            exact hK.out
          · rfl
          refine Reg.RC_call rfl (by intro t ht; cases ht) rfl (fun D v W hc hj hf K hK => ?_) (fun _ _ => Reg.RC_at (b := ⟨_, []⟩) rfl ?_)
          · obtain ⟨B, oA, oB, oR⟩ := hj
            have hs : D 13 = false := hc.1
            have oR : Blk W (w.heap.size + 1 + 1) 23 #[.int .i64 (0), .int .i64 (0)] := by have o := oR; simp only [hs, Reg.sel_false] at o; exact o
            have lR := oR.lt
            have fR := oR.fr
            have cR0 : World.cell? W ⟨w.heap.size + 1 + 1, 0, none⟩ = some (.int .i64 (0)) := oR.c 0 rfl
            have cR1 : World.cell? W ⟨w.heap.size + 1 + 1, 1, none⟩ = some (.int .i64 (0)) := oR.c 1 rfl
            go_step
            exact hK.out undef _ Reg.any ⟨(by (repeat' first | with_reducible assumption | with_reducible exact Below.refl _ _ | with_reducible refine Below.alloc ?_ ?_ _ | with_reducible refine Below.drew ?_ | with_reducible refine belowN ?_ _ | with_reducible refine Below.setCell ?_ ?_ _ | go_size)), (show Blk _ _ _ #[.int .i64 (-b), .int .i64 (-a)] from (by (repeat' first | with_reducible assumption | (with_reducible refine Blk.new' ?_; first | with_reducible rfl | (simp only [World.size_alloc, World.size_setCell, World.size_drew]; done)) | with_reducible refine Blk.alloc ?_ _ | with_reducible refine Blk.drew ?_ | with_reducible refine Blk.drewN ?_ _ | with_reducible apply Blk.both | with_reducible refine Blk.far' ?_ ?_ | (show _ ≠ _; omega)))), (show Blk _ _ _ #[.int .i64 (-d), .int .i64 (-c)] from (by (repeat' first | with_reducible assumption | (with_reducible refine Blk.new' ?_; first | with_reducible rfl | (simp only [World.size_alloc, World.size_setCell, World.size_drew]; done)) | with_reducible refine Blk.alloc ?_ _ | with_reducible refine Blk.drew ?_ | with_reducible refine Blk.drewN ?_ _ | with_reducible apply Blk.both | with_reducible refine Blk.far' ?_ ?_ | (show _ ≠ _; omega)))), (show Blk _ _ _ #[.int .i64 ((md (dn (-b * 1099511627776) (-d)) (upq (-a * 1099511627776) (-c))).1), .int .i64 ((md (dn (-b * 1099511627776) (-d)) (upq (-a * 1099511627776) (-c))).2.1)] from (Blk.set2 (cs' := #[.int .i64 ((md (dn (-b * 1099511627776) (-d)) (upq (-a * 1099511627776) (-c))).1), .int .i64 ((md (dn (-b * 1099511627776) (-d)) (upq (-a * 1099511627776) (-c))).2.1)]) (Blk.set2 (cs' := #[.int .i64 ((md (dn (-b * 1099511627776) (-d)) (upq (-a * 1099511627776) (-c))).1), .int .i64 (0)]) oR (i := 0) rfl) (i := 1) rfl))⟩ Reg.none_ trivial
          apply Reg.RC_pure (hc := rfl) (hst := rfl) (hw := rfl) (t := 5) (hd := rfl) (ht := Nat.le_of_ble_eq_true rfl)
          · intro D v W hc hj hf K hK
            go_step
            exact hK.out
          · rfl
          refine Reg.RC_end (fun D v W hd hj hf => ?_)
          obtain ⟨B, oA, oB, oR⟩ := hj
          have e13 : D 13 = true := hd 13 (by decide)
          have oR : Blk W (w.heap.size + 1 + 1) 23 #[.int .i64 ((md (dn (-b * 1099511627776) (-d)) (upq (-a * 1099511627776) (-c))).1), .int .i64 ((md (dn (-b * 1099511627776) (-d)) (upq (-a * 1099511627776) (-c))).2.1)] := by have o := oR; simp only [e13, Reg.sel_true] at o; exact o
          clear e13
          clear hd hf
          refine hQ _ _ ?_
          clear hQ hops Q' ops'
          have lR := oR.lt
          have cR0 := oR.c 0 rfl
          have cR1 := oR.c 1 rfl
          have fR := oR.fr
          repeat' (first | go_values | go_skip | go_guarded | go_step | go_upon)
          refine bodyPost_ret (by simp [results, Try.results29, go_sem, lR, cR0, cR1, fR]; rfl) rfl ?_
          show G3 w _ _ _
          rw [H0.out, H.out]
          exact ⟨rfl, B⟩
        · have H : Hid (divQ (-b) (-a) (-d) (-c) = md (dn (-b * 1099511627776) (-c)) (upq (-a * 1099511627776) (-d))) := by show divQ (-b) (-a) (-d) (-c) = _; rw [divQ_one (by omega) (by omega), if_neg (by omega), if_pos (by omega)]
          refine Reg.wp_chain (fun D v W => Below w.heap.size w W ∧ Blk W (w.heap.size) 23 #[.int .i64 (-b), .int .i64 (-a)] ∧ Blk W (w.heap.size + 1) 23 #[.int .i64 (-d), .int .i64 (-c)] ∧ Blk W (w.heap.size + 1 + 1) 23 #[.int .i64 (0), .int .i64 (0)])
            (Reg.inl []) (Reg.ge []) Reg.None_ (fun _ => Reg.Any) (fun _ _ => False) (Reg.pl []) (Reg.pl [])
            (by kernel_rfl) (by kernel_rfl) (by kernel_rfl) (Reg.ge_some _) (fun v => ?_) (fun _ _ _ _ _ h => h) (fun _ _ _ _ _ _ _ _ _ _ _ _ _ => Reg.none_) (fun _ _ _ _ h => h.elim) (fun ops' Q' hops hQ => ?_)
          · exact ⟨(by first | with_reducible exact Below.drew B | with_reducible exact Below.drew (belowN B _) | (repeat' first | with_reducible assumption | with_reducible exact Below.refl _ _ | with_reducible refine Below.alloc ?_ ?_ _ | with_reducible refine Below.drew ?_ | with_reducible refine belowN ?_ _ | with_reducible refine Below.setCell ?_ ?_ _ | go_size)), (show Blk _ _ _ #[.int .i64 (-b), .int .i64 (-a)] from (by first | with_reducible exact oA | (repeat' first | with_reducible assumption | (with_reducible refine Blk.new' ?_; first | with_reducible rfl | (simp only [World.size_alloc, World.size_setCell, World.size_drew]; done)) | with_reducible refine Blk.alloc ?_ _ | with_reducible refine Blk.drew ?_ | with_reducible refine Blk.drewN ?_ _ | with_reducible apply Blk.both | with_reducible refine Blk.far' ?_ ?_ | (show _ ≠ _; omega)))), (show Blk _ _ _ #[.int .i64 (-d), .int .i64 (-c)] from (by first | with_reducible exact oB | (repeat' first | with_reducible assumption | (with_reducible refine Blk.new' ?_; first | with_reducible rfl | (simp only [World.size_alloc, World.size_setCell, World.size_drew]; done)) | with_reducible refine Blk.alloc ?_ _ | with_reducible refine Blk.drew ?_ | with_reducible refine Blk.drewN ?_ _ | with_reducible apply Blk.both | with_reducible refine Blk.far' ?_ ?_ | (show _ ≠ _; omega)))), (show Blk _ _ _ #[.int .i64 (0), .int .i64 (0)] from (by first | with_reducible exact oR | (repeat' first | with_reducible assumption | (with_reducible refine Blk.new' ?_; first | with_reducible rfl | (simp only [World.size_alloc, World.size_setCell, World.size_drew]; done)) | with_reducible refine Blk.alloc ?_ _ | with_reducible refine Blk.drew ?_ | with_reducible refine Blk.drewN ?_ _ | with_reducible apply Blk.both | with_reducible refine Blk.far' ?_ ?_ | (show _ ≠ _; omega))))⟩
          clear B oA oB oR
          apply Reg.RC_pure (hc := rfl) (hst := rfl) (hw := rfl) (t := 42) (hd := rfl) (ht := Nat.le_of_ble_eq_true rfl)
          · intro D v W hc hj hf K hK
            go_step
            exact hK.out
          · rfl
          apply Reg.RC_pure (hc := rfl) (hst := rfl) (hw := rfl) (t := 43) (hd := rfl) (ht := Nat.le_of_ble_eq_true rfl)
          · intro D v W hc hj hf K hK
            obtain ⟨B, oA, oB, oR⟩ := hj
            have cB0 : World.cell? W ⟨w.heap.size + 1, 0, none⟩ = some (.int .i64 (-d)) := oB.c 0 rfl
            have cB1 : World.cell? W ⟨w.heap.size + 1, 1, none⟩ = some (.int .i64 (-c)) := oB.c 1 rfl
            go_step
            exact hK.out
          · rfl
          apply Reg.RC_pure (hc := rfl) (hst := rfl) (hw := rfl) (t := 44) (hd := rfl) (ht := Nat.le_of_ble_eq_true rfl)
          · intro D v W hc hj hf K hK
            go_step
            exact hK.out
          · rfl
          apply Reg.RC_pure (hc := rfl) (hst := rfl) (hw := rfl) (t := 45) (hd := rfl) (ht := Nat.le_of_ble_eq_true rfl)
          · intro D v W hc hj hf K hK
            go_step
            exact hK.out
          · rfl
          apply Reg.RC_pure (hc := rfl) (hst := rfl) (hw := rfl) (t := 46) (hd := rfl) (ht := Nat.le_of_ble_eq_true rfl)
          · intro D v W hc hj hf K hK
            obtain ⟨B, oA, oB, oR⟩ := hj
            have cB0 : World.cell? W ⟨w.heap.size + 1, 0, none⟩ = some (.int .i64 (-d)) := oB.c 0 rfl
            have cB1 : World.cell? W ⟨w.heap.size + 1, 1, none⟩ = some (.int .i64 (-c)) := oB.c 1 rfl
            go_step
            exact hK.out
          · rfl
          apply Reg.RC_pure (hc := rfl) (hst := rfl) (hw := rfl) (t := 47) (hd := rfl) (ht := Nat.le_of_ble_eq_true rfl)
          · intro D v W hc hj hf K hK
            go_step
            exact hK.out
          · rfl
          apply Reg.RC_pure (hc := rfl) (hst := rfl) (hw := rfl) (t := 6) (hd := rfl) (ht := Nat.le_of_ble_eq_true rfl)
          · intro D v W hc hj hf K hK
            go_step
            exact hK.out
          · rfl
          apply Reg.RC_pure (hc := rfl) (hst := rfl) (hw := rfl) (t := 7) (hd := rfl) (ht := Nat.le_of_ble_eq_true rfl)
          · intro D v W hc hj hf K hK
            go_step
            exact hK.out
          · rfl
          refine Reg.RC_end (fun D v W hd hj hf => ?_)
          obtain ⟨B, oA, oB, oR⟩ := hj
          clear hd hf
          refine hQ _ _ ?_
          clear hQ hops Q' ops'
          have lA := oA.lt
          have fA := oA.fr
          have cA0 := oA.c 0 rfl
          have cA1 := oA.c 1 rfl
          have lB := oB.lt
          have fB := oB.fr
          have cB0 := oB.c 0 rfl
          have cB1 := oB.c 1 rfl
          go_wp2_with fail
          clear lA fA cA0 cA1 lB fB cB0 cB1
          refine Reg.wp_chain (fun D v W => Below w.heap.size w W ∧ Blk W (w.heap.size) 23 #[.int .i64 (-b), .int .i64 (-a)] ∧ Blk W (w.heap.size + 1) 23 #[.int .i64 (-d), .int .i64 (-c)] ∧ Blk W (w.heap.size + 1 + 1) 23 #[Reg.sel (D 13) (.int .i64 (0)) (.int .i64 ((md (dn (-b * 1099511627776) (-c)) (upq (-a * 1099511627776) (-d))).1)), Reg.sel (D 13) (.int .i64 (0)) (.int .i64 ((md (dn (-b * 1099511627776) (-c)) (upq (-a * 1099511627776) (-d))).2.1))])
            (Reg.inl [2, 4, 7, 9, 10, 13]) (Reg.ge [(2, .agg #[.bool (negB (-b * 1099511627776)), .int .u64 (aHi (-b * 1099511627776)), .int .u64 (aLo (-b * 1099511627776))]), (4, .int .i64 (dn (-b * 1099511627776) (-c))), (7, .agg #[.bool (negB (-a * 1099511627776)), .int .u64 (aHi (-a * 1099511627776)), .int .u64 (aLo (-a * 1099511627776))]), (9, .int .i64 (upq (-a * 1099511627776) (-d))), (10, .tuple #[.agg #[.int .i64 ((md (dn (-b * 1099511627776) (-c)) (upq (-a * 1099511627776) (-d))).1), .int .i64 ((md (dn (-b * 1099511627776) (-c)) (upq (-a * 1099511627776) (-d))).2.1)], .int .i64 ((md (dn (-b * 1099511627776) (-c)) (upq (-a * 1099511627776) (-d))).2.2)])]) Reg.None_ (fun _ => Reg.Any) (fun _ _ => False) (Reg.pl []) (Reg.pl [])
            (by kernel_rfl) (by kernel_rfl) (by kernel_rfl) (Reg.ge_some _) (fun v => ?_) (fun _ _ _ _ _ h => h) (fun _ _ _ _ _ _ _ _ _ _ _ _ _ => Reg.none_) (fun _ _ _ _ h => h.elim) (fun ops' Q' hops hQ => ?_)
          · exact ⟨(by first | with_reducible exact Below.drew B | with_reducible exact Below.drew (belowN B _) | (repeat' first | with_reducible assumption | with_reducible exact Below.refl _ _ | with_reducible refine Below.alloc ?_ ?_ _ | with_reducible refine Below.drew ?_ | with_reducible refine belowN ?_ _ | with_reducible refine Below.setCell ?_ ?_ _ | go_size)), (show Blk _ _ _ #[.int .i64 (-b), .int .i64 (-a)] from (by first | with_reducible exact oA | (repeat' first | with_reducible assumption | (with_reducible refine Blk.new' ?_; first | with_reducible rfl | (simp only [World.size_alloc, World.size_setCell, World.size_drew]; done)) | with_reducible refine Blk.alloc ?_ _ | with_reducible refine Blk.drew ?_ | with_reducible refine Blk.drewN ?_ _ | with_reducible apply Blk.both | with_reducible refine Blk.far' ?_ ?_ | (show _ ≠ _; omega)))), (show Blk _ _ _ #[.int .i64 (-d), .int .i64 (-c)] from (by first | with_reducible exact oB | (repeat' first | with_reducible assumption | (with_reducible refine Blk.new' ?_; first | with_reducible rfl | (simp only [World.size_alloc, World.size_setCell, World.size_drew]; done)) | with_reducible refine Blk.alloc ?_ _ | with_reducible refine Blk.drew ?_ | with_reducible refine Blk.drewN ?_ _ | with_reducible apply Blk.both | with_reducible refine Blk.far' ?_ ?_ | (show _ ≠ _; omega)))), (show Blk _ _ _ #[.int .i64 (0), .int .i64 (0)] from (by first | with_reducible exact oR | (repeat' first | with_reducible assumption | (with_reducible refine Blk.new' ?_; first | with_reducible rfl | (simp only [World.size_alloc, World.size_setCell, World.size_drew]; done)) | with_reducible refine Blk.alloc ?_ _ | with_reducible refine Blk.drew ?_ | with_reducible refine Blk.drewN ?_ _ | with_reducible apply Blk.both | with_reducible refine Blk.far' ?_ ?_ | (show _ ≠ _; omega))))⟩
          clear B oA oB oR
          apply Reg.RC_pure (hc := rfl) (hst := rfl) (hw := rfl) (t := 60) (hd := rfl) (ht := Nat.le_of_ble_eq_true rfl)
          · intro D v W hc hj hf K hK
            go_step
            exact hK.out
          · rfl
          apply Reg.RC_pure (hc := rfl) (hst := rfl) (hw := rfl) (t := 61) (hd := rfl) (ht := Nat.le_of_ble_eq_true rfl)
          · intro D v W hc hj hf K hK
            obtain ⟨B, oA, oB, oR⟩ := hj
            have cA0 : World.cell? W ⟨w.heap.size, 0, none⟩ = some (.int .i64 (-b)) := oA.c 0 rfl
            have cA1 : World.cell? W ⟨w.heap.size, 1, none⟩ = some (.int .i64 (-a)) := oA.c 1 rfl
            go_step
            exact hK.out
          · rfl
          refine Reg.RC_exact _ (fun _ h => h) rfl (by intro t ht; cases ht; exact Nat.le_of_ble_eq_true rfl) rfl (fun D v W hc hj hf K hK => ?_) (Reg.RC_at (b := ⟨#[_, _, _, _, _, _, _, _, _, _, _, _, _, _, _, _, _, _, _, _, _, _, _, _, _, _, _, _, _, _, _, _, _, _, _, _, _, _, _, _, _, _, _, _, _, _, _, _, _, _, _, _, _, _, _, _, _, _, _, _, _, _, _, _, _, _, _, _, _, _, _, _, _], []⟩) rfl ?_)
          · obtain ⟨B, oA, oB, oR⟩ := hj
            go_step
            refine (rtimes_b _ _ _ (by omega) (by omega) (by omega) (by omega)).mono ?_
            rintro e W' ⟨rfl, hb⟩
            have st : Steps W W' := hb
            exact hK.out _ _ Reg.any ⟨below_steps B (Nat.le_refl _) st, oA.steps st, oB.steps st, oR.steps st⟩ Reg.none_ rfl
          apply Reg.RC_pure (hc := rfl) (hst := rfl) (hw := rfl) (t := 63) (hd := rfl) (ht := Nat.le_of_ble_eq_true rfl)
          · intro D v W hc hj hf K hK
            go_step
            exact hK.out
          · rfl
          refine Reg.RC_exact _ (fun _ h => h) rfl (by intro t ht; cases ht; exact Nat.le_of_ble_eq_true rfl) rfl (fun D v W hc hj hf K hK => ?_) (Reg.RC_at (b := ⟨#[_, _, _, _, _, _, _, _, _, _, _, _, _, _, _, _, _, _, _, _, _, _, _, _, _, _, _, _, _, _, _, _, _, _, _, _, _, _, _, _, _, _, _, _, _, _, _, _, _, _, _, _, _, _, _, _, _, _, _, _, _, _, _, _, _, _, _, _, _, _, _, _, _], []⟩) rfl ?_)
          · obtain ⟨B, oA, oB, oR⟩ := hj
            go_step
            refine (rover_dn _ _ _ (by omega) (by omega) (by omega) (by omega)).mono ?_
            rintro e W' ⟨rfl, hb⟩
            have st : Steps W W' := hb
            exact hK.out _ _ Reg.any ⟨below_steps B (Nat.le_refl _) st, oA.steps st, oB.steps st, oR.steps st⟩ Reg.none_ rfl
          apply Reg.RC_pure (hc := rfl) (hst := rfl) (hw := rfl) (t := 65) (hd := rfl) (ht := Nat.le_of_ble_eq_true rfl)
          · intro D v W hc hj hf K hK
            go_step
            exact hK.out
          · rfl
          apply Reg.RC_pure (hc := rfl) (hst := rfl) (hw := rfl) (t := 66) (hd := rfl) (ht := Nat.le_of_ble_eq_true rfl)
          · intro D v W hc hj hf K hK
            obtain ⟨B, oA, oB, oR⟩ := hj
            have cA0 : World.cell? W ⟨w.heap.size, 0, none⟩ = some (.int .i64 (-b)) := oA.c 0 rfl
            have cA1 : World.cell? W ⟨w.heap.size, 1, none⟩ = some (.int .i64 (-a)) := oA.c 1 rfl
            go_step
            exact hK.out
          · rfl
          refine Reg.RC_exact _ (fun _ h => h) rfl (by intro t ht; cases ht; exact Nat.le_of_ble_eq_true rfl) rfl (fun D v W hc hj hf K hK => ?_) (Reg.RC_at (b := ⟨#[_, _, _, _, _, _, _, _, _, _, _, _, _, _, _, _, _, _, _, _, _, _, _, _, _, _, _, _, _, _, _, _, _, _, _, _, _, _, _, _, _, _, _, _, _, _, _, _, _, _, _, _, _, _, _, _, _, _, _, _, _, _, _, _, _, _, _, _, _, _, _, _, _], []⟩) rfl ?_)
          · obtain ⟨B, oA, oB, oR⟩ := hj
            go_step
            refine (rtimes_b _ _ _ (by omega) (by omega) (by omega) (by omega)).mono ?_
            rintro e W' ⟨rfl, hb⟩
            have st : Steps W W' := hb
            exact hK.out _ _ Reg.any ⟨below_steps B (Nat.le_refl _) st, oA.steps st, oB.steps st, oR.steps st⟩ Reg.none_ rfl
          apply Reg.RC_pure (hc := rfl) (hst := rfl) (hw := rfl) (t := 68) (hd := rfl) (ht := Nat.le_of_ble_eq_true rfl)
          · intro D v W hc hj hf K hK
            go_step
            exact hK.out
          · rfl
          refine Reg.RC_exact _ (fun _ h => h) rfl (by intro t ht; cases ht; exact Nat.le_of_ble_eq_true rfl) rfl (fun D v W hc hj hf K hK => ?_) (Reg.RC_at (b := ⟨#[_, _, _, _, _, _, _, _, _, _, _, _, _, _, _, _, _, _, _, _, _, _, _, _, _, _, _, _, _, _, _, _, _, _, _, _, _, _, _, _, _, _, _, _, _, _, _, _, _, _, _, _, _, _, _, _, _, _, _, _, _, _, _, _, _, _, _, _, _, _, _, _, _], []⟩) rfl ?_)
          · obtain ⟨B, oA, oB, oR⟩ := hj
            go_step
            refine (rover_up _ _ _ (by omega) (by omega) (by omega) (by omega)).mono ?_
            rintro e W' ⟨rfl, hb⟩
            have st : Steps W W' := hb
            exact hK.out _ _ Reg.any ⟨below_steps B (Nat.le_refl _) st, oA.steps st, oB.steps st, oR.steps st⟩ Reg.none_ rfl
          refine Reg.RC_exact _ (fun _ h => h) rfl (by intro t ht; cases ht; exact Nat.le_of_ble_eq_true rfl) rfl (fun D v W hc hj hf K hK => ?_) (Reg.RC_at (b := ⟨#[_, _, _, _, _, _, _, _, _, _, _, _, _, _, _, _, _, _, _, _, _, _, _, _, _, _, _, _, _, _, _, _, _, _, _, _, _, _, _, _, _, _, _, _, _, _, _, _, _, _, _, _, _, _, _, _, _, _, _, _, _, _, _, _, _, _, _, _, _, _, _, _, _], []⟩) rfl ?_)
          · obtain ⟨B, oA, oB, oR⟩ := hj
            go_step
            refine (rmade _ _ _).mono ?_
            rintro e W' ⟨rfl, hb⟩
            have st : Steps W W' := hb
            exact hK.out _ _ Reg.any ⟨below_steps B (Nat.le_refl _) st, oA.steps st, oB.steps st, oR.steps st⟩ Reg.none_ rfl
          apply Reg.RC_pure (hc := rfl) (hst := rfl) (hw := rfl) (t := 71) (hd := rfl) (ht := Nat.le_of_ble_eq_true rfl)
          · intro D v W hc hj hf K hK
            go_step
            exact hK.out
          · rfl
          apply Reg.RC_pure (hc := rfl) (hst := rfl) (hw := rfl) (t := 72) (hd := rfl) (ht := Nat.le_of_ble_eq_true rfl)
          · intro D v W hc hj hf K hK
            go_step
            exact hK.out
          · rfl
          refine Reg.RC_call rfl (by intro t ht; cases ht) rfl (fun D v W hc hj hf K hK => ?_) (fun _ _ => Reg.RC_at (b := ⟨_, []⟩) rfl ?_)
          · obtain ⟨B, oA, oB, oR⟩ := hj
            have hs : D 13 = false := hc.1
            have oR : Blk W (w.heap.size + 1 + 1) 23 #[.int .i64 (0), .int .i64 (0)] := by have o := oR; simp only [hs, Reg.sel_false] at o; exact o
            have lR := oR.lt
            have fR := oR.fr
            have cR0 : World.cell? W ⟨w.heap.size + 1 + 1, 0, none⟩ = some (.int .i64 (0)) := oR.c 0 rfl
            have cR1 : World.cell? W ⟨w.heap.size + 1 + 1, 1, none⟩ = some (.int .i64 (0)) := oR.c 1 rfl
            go_step
            exact hK.out undef _ Reg.any ⟨(by (repeat' first | with_reducible assumption | with_reducible exact Below.refl _ _ | with_reducible refine Below.alloc ?_ ?_ _ | with_reducible refine Below.drew ?_ | with_reducible refine belowN ?_ _ | with_reducible refine Below.setCell ?_ ?_ _ | go_size)), (show Blk _ _ _ #[.int .i64 (-b), .int .i64 (-a)] from (by (repeat' first | with_reducible assumption | (with_reducible refine Blk.new' ?_; first | with_reducible rfl | (simp only [World.size_alloc, World.size_setCell, World.size_drew]; done)) | with_reducible refine Blk.alloc ?_ _ | with_reducible refine Blk.drew ?_ | with_reducible refine Blk.drewN ?_ _ | with_reducible apply Blk.both | with_reducible refine Blk.far' ?_ ?_ | (show _ ≠ _; omega)))), (show Blk _ _ _ #[.int .i64 (-d), .int .i64 (-c)] from (by (repeat' first | with_reducible assumption | (with_reducible refine Blk.new' ?_; first | with_reducible rfl | (simp only [World.size_alloc, World.size_setCell, World.size_drew]; done)) | with_reducible refine Blk.alloc ?_ _ | with_reducible refine Blk.drew ?_ | with_reducible refine Blk.drewN ?_ _ | with_reducible apply Blk.both | with_reducible refine Blk.far' ?_ ?_ | (show _ ≠ _; omega)))), (show Blk _ _ _ #[.int .i64 ((md (dn (-b * 1099511627776) (-c)) (upq (-a * 1099511627776) (-d))).1), .int .i64 ((md (dn (-b * 1099511627776) (-c)) (upq (-a * 1099511627776) (-d))).2.1)] from (Blk.set2 (cs' := #[.int .i64 ((md (dn (-b * 1099511627776) (-c)) (upq (-a * 1099511627776) (-d))).1), .int .i64 ((md (dn (-b * 1099511627776) (-c)) (upq (-a * 1099511627776) (-d))).2.1)]) (Blk.set2 (cs' := #[.int .i64 ((md (dn (-b * 1099511627776) (-c)) (upq (-a * 1099511627776) (-d))).1), .int .i64 (0)]) oR (i := 0) rfl) (i := 1) rfl))⟩ Reg.none_ trivial
          apply Reg.RC_pure (hc := rfl) (hst := rfl) (hw := rfl) (t := 5) (hd := rfl) (ht := Nat.le_of_ble_eq_true rfl)
          · intro D v W hc hj hf K hK
            go_step
            exact hK.out
          · rfl
          refine Reg.RC_end (fun D v W hd hj hf => ?_)
          obtain ⟨B, oA, oB, oR⟩ := hj
          have e13 : D 13 = true := hd 13 (by decide)
          have oR : Blk W (w.heap.size + 1 + 1) 23 #[.int .i64 ((md (dn (-b * 1099511627776) (-c)) (upq (-a * 1099511627776) (-d))).1), .int .i64 ((md (dn (-b * 1099511627776) (-c)) (upq (-a * 1099511627776) (-d))).2.1)] := by have o := oR; simp only [e13, Reg.sel_true] at o; exact o
          clear e13
          clear hd hf
          refine hQ _ _ ?_
          clear hQ hops Q' ops'
          have lR := oR.lt
          have cR0 := oR.c 0 rfl
          have cR1 := oR.c 1 rfl
          have fR := oR.fr
          repeat' (first | go_values | go_skip | go_guarded | go_step | go_upon)
          refine bodyPost_ret (by simp [results, Try.results29, go_sem, lR, cR0, cR1, fR]; rfl) rfl ?_
          show G3 w _ _ _
          rw [H0.out, H.out]
          exact ⟨rfl, B⟩
        · have H : Hid (divQ (-b) (-a) (-d) (-c) = md (dn (-b * 1099511627776) (-c)) (upq (-a * 1099511627776) (-c))) := by show divQ (-b) (-a) (-d) (-c) = _; rw [divQ_one (by omega) (by omega), if_neg (by omega), if_neg (by omega)]
          refine Reg.wp_chain (fun D v W => Below w.heap.size w W ∧ Blk W (w.heap.size) 23 #[.int .i64 (-b), .int .i64 (-a)] ∧ Blk W (w.heap.size + 1) 23 #[.int .i64 (-d), .int .i64 (-c)] ∧ Blk W (w.heap.size + 1 + 1) 23 #[.int .i64 (0), .int .i64 (0)])
            (Reg.inl []) (Reg.ge []) Reg.None_ (fun _ => Reg.Any) (fun _ _ => False) (Reg.pl []) (Reg.pl [])
            (by kernel_rfl) (by kernel_rfl) (by kernel_rfl) (Reg.ge_some _) (fun v => ?_) (fun _ _ _ _ _ h => h) (fun _ _ _ _ _ _ _ _ _ _ _ _ _ => Reg.none_) (fun _ _ _ _ h => h.elim) (fun ops' Q' hops hQ => ?_)
          · exact ⟨(by first | with_reducible exact Below.drew B | with_reducible exact Below.drew (belowN B _) | (repeat' first | with_reducible assumption | with_reducible exact Below.refl _ _ | with_reducible refine Below.alloc ?_ ?_ _ | with_reducible refine Below.drew ?_ | with_reducible refine belowN ?_ _ | with_reducible refine Below.setCell ?_ ?_ _ | go_size)), (show Blk _ _ _ #[.int .i64 (-b), .int .i64 (-a)] from (by first | with_reducible exact oA | (repeat' first | with_reducible assumption | (with_reducible refine Blk.new' ?_; first | with_reducible rfl | (simp only [World.size_alloc, World.size_setCell, World.size_drew]; done)) | with_reducible refine Blk.alloc ?_ _ | with_reducible refine Blk.drew ?_ | with_reducible refine Blk.drewN ?_ _ | with_reducible apply Blk.both | with_reducible refine Blk.far' ?_ ?_ | (show _ ≠ _; omega)))), (show Blk _ _ _ #[.int .i64 (-d), .int .i64 (-c)] from (by first | with_reducible exact oB | (repeat' first | with_reducible assumption | (with_reducible refine Blk.new' ?_; first | with_reducible rfl | (simp only [World.size_alloc, World.size_setCell, World.size_drew]; done)) | with_reducible refine Blk.alloc ?_ _ | with_reducible refine Blk.drew ?_ | with_reducible refine Blk.drewN ?_ _ | with_reducible apply Blk.both | with_reducible refine Blk.far' ?_ ?_ | (show _ ≠ _; omega)))), (show Blk _ _ _ #[.int .i64 (0), .int .i64 (0)] from (by first | with_reducible exact oR | (repeat' first | with_reducible assumption | (with_reducible refine Blk.new' ?_; first | with_reducible rfl | (simp only [World.size_alloc, World.size_setCell, World.size_drew]; done)) | with_reducible refine Blk.alloc ?_ _ | with_reducible refine Blk.drew ?_ | with_reducible refine Blk.drewN ?_ _ | with_reducible apply Blk.both | with_reducible refine Blk.far' ?_ ?_ | (show _ ≠ _; omega))))⟩
          clear B oA oB oR
          apply Reg.RC_pure (hc := rfl) (hst := rfl) (hw := rfl) (t := 42) (hd := rfl) (ht := Nat.le_of_ble_eq_true rfl)
          · intro D v W hc hj hf K hK
            go_step
            exact hK.out
          · rfl
          apply Reg.RC_pure (hc := rfl) (hst := rfl) (hw := rfl) (t := 43) (hd := rfl) (ht := Nat.le_of_ble_eq_true rfl)
          · intro D v W hc hj hf K hK
            obtain ⟨B, oA, oB, oR⟩ := hj
            have cB0 : World.cell? W ⟨w.heap.size + 1, 0, none⟩ = some (.int .i64 (-d)) := oB.c 0 rfl
            have cB1 : World.cell? W ⟨w.heap.size + 1, 1, none⟩ = some (.int .i64 (-c)) := oB.c 1 rfl
            go_step
            exact hK.out
          · rfl
          apply Reg.RC_pure (hc := rfl) (hst := rfl) (hw := rfl) (t := 44) (hd := rfl) (ht := Nat.le_of_ble_eq_true rfl)
          · intro D v W hc hj hf K hK
            go_step
            exact hK.out
          · rfl
          apply Reg.RC_pure (hc := rfl) (hst := rfl) (hw := rfl) (t := 45) (hd := rfl) (ht := Nat.le_of_ble_eq_true rfl)
          · intro D v W hc hj hf K hK
            go_step
            exact hK.out
          · rfl
          apply Reg.RC_pure (hc := rfl) (hst := rfl) (hw := rfl) (t := 46) (hd := rfl) (ht := Nat.le_of_ble_eq_true rfl)
          · intro D v W hc hj hf K hK
            obtain ⟨B, oA, oB, oR⟩ := hj
            have cB0 : World.cell? W ⟨w.heap.size + 1, 0, none⟩ = some (.int .i64 (-d)) := oB.c 0 rfl
            have cB1 : World.cell? W ⟨w.heap.size + 1, 1, none⟩ = some (.int .i64 (-c)) := oB.c 1 rfl
            go_step
            exact hK.out
          · rfl
          apply Reg.RC_pure (hc := rfl) (hst := rfl) (hw := rfl) (t := 47) (hd := rfl) (ht := Nat.le_of_ble_eq_true rfl)
          · intro D v W hc hj hf K hK
            go_step
            exact hK.out
          · rfl
          apply Reg.RC_pure (hc := rfl) (hst := rfl) (hw := rfl) (t := 6) (hd := rfl) (ht := Nat.le_of_ble_eq_true rfl)
          · intro D v W hc hj hf K hK
            go_step
            exact hK.out
          · rfl
          apply Reg.RC_pure (hc := rfl) (hst := rfl) (hw := rfl) (t := 7) (hd := rfl) (ht := Nat.le_of_ble_eq_true rfl)
          · intro D v W hc hj hf K hK
            go_step
            exact hK.out
          · rfl
          refine Reg.RC_end (fun D v W hd hj hf => ?_)
          obtain ⟨B, oA, oB, oR⟩ := hj
          clear hd hf
          refine hQ _ _ ?_
          clear hQ hops Q' ops'
          have lA := oA.lt
          have fA := oA.fr
          have cA0 := oA.c 0 rfl
          have cA1 := oA.c 1 rfl
          have lB := oB.lt
          have fB := oB.fr
          have cB0 := oB.c 0 rfl
          have cB1 := oB.c 1 rfl
          go_wp2_with fail
          clear lA fA cA0 cA1 lB fB cB0 cB1
          refine Reg.wp_chain (fun D v W => Below w.heap.size w W ∧ Blk W (w.heap.size) 23 #[.int .i64 (-b), .int .i64 (-a)] ∧ Blk W (w.heap.size + 1) 23 #[.int .i64 (-d), .int .i64 (-c)] ∧ Blk W (w.heap.size + 1 + 1) 23 #[Reg.sel (D 13) (.int .i64 (0)) (.int .i64 ((md (dn (-b * 1099511627776) (-c)) (upq (-a * 1099511627776) (-c))).1)), Reg.sel (D 13) (.int .i64 (0)) (.int .i64 ((md (dn (-b * 1099511627776) (-c)) (upq (-a * 1099511627776) (-c))).2.1))])
            (Reg.inl [2, 4, 7, 9, 10, 13]) (Reg.ge [(2, .agg #[.bool (negB (-b * 1099511627776)), .int .u64 (aHi (-b * 1099511627776)), .int .u64 (aLo (-b * 1099511627776))]), (4, .int .i64 (dn (-b * 1099511627776) (-c))), (7, .agg #[.bool (negB (-a * 1099511627776)), .int .u64 (aHi (-a * 1099511627776)), .int .u64 (aLo (-a * 1099511627776))]), (9, .int .i64 (upq (-a * 1099511627776) (-c))), (10, .tuple #[.agg #[.int .i64 ((md (dn (-b * 1099511627776) (-c)) (upq (-a * 1099511627776) (-c))).1), .int .i64 ((md (dn (-b * 1099511627776) (-c)) (upq (-a * 1099511627776) (-c))).2.1)], .int .i64 ((md (dn (-b * 1099511627776) (-c)) (upq (-a * 1099511627776) (-c))).2.2)])]) Reg.None_ (fun _ => Reg.Any) (fun _ _ => False) (Reg.pl []) (Reg.pl [])
            (by kernel_rfl) (by kernel_rfl) (by kernel_rfl) (Reg.ge_some _) (fun v => ?_) (fun _ _ _ _ _ h => h) (fun _ _ _ _ _ _ _ _ _ _ _ _ _ => Reg.none_) (fun _ _ _ _ h => h.elim) (fun ops' Q' hops hQ => ?_)
          · exact ⟨(by first | with_reducible exact Below.drew B | with_reducible exact Below.drew (belowN B _) | (repeat' first | with_reducible assumption | with_reducible exact Below.refl _ _ | with_reducible refine Below.alloc ?_ ?_ _ | with_reducible refine Below.drew ?_ | with_reducible refine belowN ?_ _ | with_reducible refine Below.setCell ?_ ?_ _ | go_size)), (show Blk _ _ _ #[.int .i64 (-b), .int .i64 (-a)] from (by first | with_reducible exact oA | (repeat' first | with_reducible assumption | (with_reducible refine Blk.new' ?_; first | with_reducible rfl | (simp only [World.size_alloc, World.size_setCell, World.size_drew]; done)) | with_reducible refine Blk.alloc ?_ _ | with_reducible refine Blk.drew ?_ | with_reducible refine Blk.drewN ?_ _ | with_reducible apply Blk.both | with_reducible refine Blk.far' ?_ ?_ | (show _ ≠ _; omega)))), (show Blk _ _ _ #[.int .i64 (-d), .int .i64 (-c)] from (by first | with_reducible exact oB | (repeat' first | with_reducible assumption | (with_reducible refine Blk.new' ?_; first | with_reducible rfl | (simp only [World.size_alloc, World.size_setCell, World.size_drew]; done)) | with_reducible refine Blk.alloc ?_ _ | with_reducible refine Blk.drew ?_ | with_reducible refine Blk.drewN ?_ _ | with_reducible apply Blk.both | with_reducible refine Blk.far' ?_ ?_ | (show _ ≠ _; omega)))), (show Blk _ _ _ #[.int .i64 (0), .int .i64 (0)] from (by first | with_reducible exact oR | (repeat' first | with_reducible assumption | (with_reducible refine Blk.new' ?_; first | with_reducible rfl | (simp only [World.size_alloc, World.size_setCell, World.size_drew]; done)) | with_reducible refine Blk.alloc ?_ _ | with_reducible refine Blk.drew ?_ | with_reducible refine Blk.drewN ?_ _ | with_reducible apply Blk.both | with_reducible refine Blk.far' ?_ ?_ | (show _ ≠ _; omega))))⟩
          clear B oA oB oR
          apply Reg.RC_pure (hc := rfl) (hst := rfl) (hw := rfl) (t := 60) (hd := rfl) (ht := Nat.le_of_ble_eq_true rfl)
          · intro D v W hc hj hf K hK
            go_step
            exact hK.out
          · rfl
          apply Reg.RC_pure (hc := rfl) (hst := rfl) (hw := rfl) (t := 61) (hd := rfl) (ht := Nat.le_of_ble_eq_true rfl)
          · intro D v W hc hj hf K hK
            obtain ⟨B, oA, oB, oR⟩ := hj
            have cA0 : World.cell? W ⟨w.heap.size, 0, none⟩ = some (.int .i64 (-b)) := oA.c 0 rfl
            have cA1 : World.cell? W ⟨w.heap.size, 1, none⟩ = some (.int .i64 (-a)) := oA.c 1 rfl
            go_step
            exact hK.out
          · rfl
          refine Reg.RC_exact _ (fun _ h => h) rfl (by intro t ht; cases ht; exact Nat.le_of_ble_eq_true rfl) rfl (fun D v W hc hj hf K hK => ?_) (Reg.RC_at (b := ⟨#[_, _, _, _, _, _, _, _, _, _, _, _, _, _, _, _, _, _, _, _, _, _, _, _, _, _, _, _, _, _, _, _, _, _, _, _, _, _, _, _, _, _, _, _, _, _, _, _, _, _, _, _, _, _, _, _, _, _, _, _, _, _, _, _, _, _, _, _, _, _, _, _, _], []⟩) rfl ?_)
          · obtain ⟨B, oA, oB, oR⟩ := hj
            go_step
            refine (rtimes_b _ _ _ (by omega) (by omega) (by omega) (by omega)).mono ?_
            rintro e W' ⟨rfl, hb⟩
            have st : Steps W W' := hb
            exact hK.out _ _ Reg.any ⟨below_steps B (Nat.le_refl _) st, oA.steps st, oB.steps st, oR.steps st⟩ Reg.none_ rfl
          apply Reg.RC_pure (hc := rfl) (hst := rfl) (hw := rfl) (t := 63) (hd := rfl) (ht := Nat.le_of_ble_eq_true rfl)
          · intro D v W hc hj hf K hK
            go_step
            exact hK.out
          · rfl
          refine Reg.RC_exact _ (fun _ h => h) rfl (by intro t ht; cases ht; exact Nat.le_of_ble_eq_true rfl) rfl (fun D v W hc hj hf K hK => ?_) (Reg.RC_at (b := ⟨#[_, _, _, _, _, _, _, _, _, _, _, _, _, _, _, _, _, _, _, _, _, _, _, _, _, _, _, _, _, _, _, _, _, _, _, _, _, _, _, _, _, _, _, _, _, _, _, _, _, _, _, _, _, _, _, _, _, _, _, _, _, _, _, _, _, _, _, _, _, _, _, _, _], []⟩) rfl ?_)
          · obtain ⟨B, oA, oB, oR⟩ := hj
            go_step
            refine (rover_dn _ _ _ (by omega) (by omega) (by omega) (by omega)).mono ?_
            rintro e W' ⟨rfl, hb⟩
            have st : Steps W W' := hb
            exact hK.out _ _ Reg.any ⟨below_steps B (Nat.le_refl _) st, oA.steps st, oB.steps st, oR.steps st⟩ Reg.none_ rfl
          apply Reg.RC_pure (hc := rfl) (hst := rfl) (hw := rfl) (t := 65) (hd := rfl) (ht := Nat.le_of_ble_eq_true rfl)
          · intro D v W hc hj hf K hK
            go_step
            exact hK.out
          · rfl
          apply Reg.RC_pure (hc := rfl) (hst := rfl) (hw := rfl) (t := 66) (hd := rfl) (ht := Nat.le_of_ble_eq_true rfl)
          · intro D v W hc hj hf K hK
            obtain ⟨B, oA, oB, oR⟩ := hj
            have cA0 : World.cell? W ⟨w.heap.size, 0, none⟩ = some (.int .i64 (-b)) := oA.c 0 rfl
            have cA1 : World.cell? W ⟨w.heap.size, 1, none⟩ = some (.int .i64 (-a)) := oA.c 1 rfl
            go_step
            exact hK.out
          · rfl
          refine Reg.RC_exact _ (fun _ h => h) rfl (by intro t ht; cases ht; exact Nat.le_of_ble_eq_true rfl) rfl (fun D v W hc hj hf K hK => ?_) (Reg.RC_at (b := ⟨#[_, _, _, _, _, _, _, _, _, _, _, _, _, _, _, _, _, _, _, _, _, _, _, _, _, _, _, _, _, _, _, _, _, _, _, _, _, _, _, _, _, _, _, _, _, _, _, _, _, _, _, _, _, _, _, _, _, _, _, _, _, _, _, _, _, _, _, _, _, _, _, _, _], []⟩) rfl ?_)
          · obtain ⟨B, oA, oB, oR⟩ := hj
            go_step
            refine (rtimes_b _ _ _ (by omega) (by omega) (by omega) (by omega)).mono ?_
            rintro e W' ⟨rfl, hb⟩
            have st : Steps W W' := hb
            exact hK.out _ _ Reg.any ⟨below_steps B (Nat.le_refl _) st, oA.steps st, oB.steps st, oR.steps st⟩ Reg.none_ rfl
          apply Reg.RC_pure (hc := rfl) (hst := rfl) (hw := rfl) (t := 68) (hd := rfl) (ht := Nat.le_of_ble_eq_true rfl)
          · intro D v W hc hj hf K hK
            go_step
            exact hK.out
          · rfl
          refine Reg.RC_exact _ (fun _ h => h) rfl (by intro t ht; cases ht; exact Nat.le_of_ble_eq_true rfl) rfl (fun D v W hc hj hf K hK => ?_) (Reg.RC_at (b := ⟨#[_, _, _, _, _, _, _, _, _, _, _, _, _, _, _, _, _, _, _, _, _, _, _, _, _, _, _, _, _, _, _, _, _, _, _, _, _, _, _, _, _, _, _, _, _, _, _, _, _, _, _, _, _, _, _, _, _, _, _, _, _, _, _, _, _, _, _, _, _, _, _, _, _], []⟩) rfl ?_)
          · obtain ⟨B, oA, oB, oR⟩ := hj
            go_step
            refine (rover_up _ _ _ (by omega) (by omega) (by omega) (by omega)).mono ?_
            rintro e W' ⟨rfl, hb⟩
            have st : Steps W W' := hb
            exact hK.out _ _ Reg.any ⟨below_steps B (Nat.le_refl _) st, oA.steps st, oB.steps st, oR.steps st⟩ Reg.none_ rfl
          refine Reg.RC_exact _ (fun _ h => h) rfl (by intro t ht; cases ht; exact Nat.le_of_ble_eq_true rfl) rfl (fun D v W hc hj hf K hK => ?_) (Reg.RC_at (b := ⟨#[_, _, _, _, _, _, _, _, _, _, _, _, _, _, _, _, _, _, _, _, _, _, _, _, _, _, _, _, _, _, _, _, _, _, _, _, _, _, _, _, _, _, _, _, _, _, _, _, _, _, _, _, _, _, _, _, _, _, _, _, _, _, _, _, _, _, _, _, _, _, _, _, _], []⟩) rfl ?_)
          · obtain ⟨B, oA, oB, oR⟩ := hj
            go_step
            refine (rmade _ _ _).mono ?_
            rintro e W' ⟨rfl, hb⟩
            have st : Steps W W' := hb
            exact hK.out _ _ Reg.any ⟨below_steps B (Nat.le_refl _) st, oA.steps st, oB.steps st, oR.steps st⟩ Reg.none_ rfl
          apply Reg.RC_pure (hc := rfl) (hst := rfl) (hw := rfl) (t := 71) (hd := rfl) (ht := Nat.le_of_ble_eq_true rfl)
          · intro D v W hc hj hf K hK
            go_step
            exact hK.out
          · rfl
          apply Reg.RC_pure (hc := rfl) (hst := rfl) (hw := rfl) (t := 72) (hd := rfl) (ht := Nat.le_of_ble_eq_true rfl)
          · intro D v W hc hj hf K hK
            go_step
            exact hK.out
          · rfl
          refine Reg.RC_call rfl (by intro t ht; cases ht) rfl (fun D v W hc hj hf K hK => ?_) (fun _ _ => Reg.RC_at (b := ⟨_, []⟩) rfl ?_)
          · obtain ⟨B, oA, oB, oR⟩ := hj
            have hs : D 13 = false := hc.1
            have oR : Blk W (w.heap.size + 1 + 1) 23 #[.int .i64 (0), .int .i64 (0)] := by have o := oR; simp only [hs, Reg.sel_false] at o; exact o
            have lR := oR.lt
            have fR := oR.fr
            have cR0 : World.cell? W ⟨w.heap.size + 1 + 1, 0, none⟩ = some (.int .i64 (0)) := oR.c 0 rfl
            have cR1 : World.cell? W ⟨w.heap.size + 1 + 1, 1, none⟩ = some (.int .i64 (0)) := oR.c 1 rfl
            go_step
            exact hK.out undef _ Reg.any ⟨(by (repeat' first | with_reducible assumption | with_reducible exact Below.refl _ _ | with_reducible refine Below.alloc ?_ ?_ _ | with_reducible refine Below.drew ?_ | with_reducible refine belowN ?_ _ | with_reducible refine Below.setCell ?_ ?_ _ | go_size)), (show Blk _ _ _ #[.int .i64 (-b), .int .i64 (-a)] from (by (repeat' first | with_reducible assumption | (with_reducible refine Blk.new' ?_; first | with_reducible rfl | (simp only [World.size_alloc, World.size_setCell, World.size_drew]; done)) | with_reducible refine Blk.alloc ?_ _ | with_reducible refine Blk.drew ?_ | with_reducible refine Blk.drewN ?_ _ | with_reducible apply Blk.both | with_reducible refine Blk.far' ?_ ?_ | (show _ ≠ _; omega)))), (show Blk _ _ _ #[.int .i64 (-d), .int .i64 (-c)] from (by (repeat' first | with_reducible assumption | (with_reducible refine Blk.new' ?_; first | with_reducible rfl | (simp only [World.size_alloc, World.size_setCell, World.size_drew]; done)) | with_reducible refine Blk.alloc ?_ _ | with_reducible refine Blk.drew ?_ | with_reducible refine Blk.drewN ?_ _ | with_reducible apply Blk.both | with_reducible refine Blk.far' ?_ ?_ | (show _ ≠ _; omega)))), (show Blk _ _ _ #[.int .i64 ((md (dn (-b * 1099511627776) (-c)) (upq (-a * 1099511627776) (-c))).1), .int .i64 ((md (dn (-b * 1099511627776) (-c)) (upq (-a * 1099511627776) (-c))).2.1)] from (Blk.set2 (cs' := #[.int .i64 ((md (dn (-b * 1099511627776) (-c)) (upq (-a * 1099511627776) (-c))).1), .int .i64 ((md (dn (-b * 1099511627776) (-c)) (upq (-a * 1099511627776) (-c))).2.1)]) (Blk.set2 (cs' := #[.int .i64 ((md (dn (-b * 1099511627776) (-c)) (upq (-a * 1099511627776) (-c))).1), .int .i64 (0)]) oR (i := 0) rfl) (i := 1) rfl))⟩ Reg.none_ trivial
          apply Reg.RC_pure (hc := rfl) (hst := rfl) (hw := rfl) (t := 5) (hd := rfl) (ht := Nat.le_of_ble_eq_true rfl)
          · intro D v W hc hj hf K hK
            go_step
            exact hK.out
          · rfl
          refine Reg.RC_end (fun D v W hd hj hf => ?_)
          obtain ⟨B, oA, oB, oR⟩ := hj
          have e13 : D 13 = true := hd 13 (by decide)
          have oR : Blk W (w.heap.size + 1 + 1) 23 #[.int .i64 ((md (dn (-b * 1099511627776) (-c)) (upq (-a * 1099511627776) (-c))).1), .int .i64 ((md (dn (-b * 1099511627776) (-c)) (upq (-a * 1099511627776) (-c))).2.1)] := by have o := oR; simp only [e13, Reg.sel_true] at o; exact o
          clear e13
          clear hd hf
          refine hQ _ _ ?_
          clear hQ hops Q' ops'
          have lR := oR.lt
          have cR0 := oR.c 0 rfl
          have cR1 := oR.c 1 rfl
          have fR := oR.fr
          repeat' (first | go_values | go_skip | go_guarded | go_step | go_upon)
          refine bodyPost_ret (by simp [results, Try.results29, go_sem, lR, cR0, cR1, fR]; rfl) rfl ?_
          show G3 w _ _ _
          rw [H0.out, H.out]
          exact ⟨rfl, B⟩
      · have H0 : Hid (divS a b c d = divQ a b c d) := by show divS a b c d = _; rw [H9]; unfold divV; rw [if_neg h1, if_neg h2]
        have h3 : 1 ≤ c := by omega
        clear H9 h1 h2
        by_cases hl : a < 0
        all_goals by_cases hh : 0 < b
        all_goals
          go_enter Try.func29, Try.ntmps29
          go_wp2_with fail
          refine (rboth a b c d _).mono ?_
          rintro e w1 ⟨rfl, hb1⟩
          have st : Steps _ w1 := hb1
          have Bn : Below w.heap.size w w1 := below_steps (by (repeat' first | with_reducible assumption | with_reducible exact Below.refl _ _ | with_reducible refine Below.alloc ?_ ?_ _ | with_reducible refine Below.drew ?_ | with_reducible refine belowN ?_ _ | with_reducible refine Below.setCell ?_ ?_ _ | go_size)) (Nat.le_refl _) st
          have nA : Blk w1 (w.heap.size) 23 #[.int .i64 (a), .int .i64 (b)] := Blk.steps (by (repeat' first | with_reducible assumption | (with_reducible refine Blk.new' ?_; first | with_reducible rfl | (simp only [World.size_alloc, World.size_setCell, World.size_drew]; done)) | with_reducible refine Blk.alloc ?_ _ | with_reducible refine Blk.drew ?_ | with_reducible refine Blk.drewN ?_ _ | with_reducible apply Blk.both | with_reducible refine Blk.far' ?_ ?_ | (show _ ≠ _; omega))) st
          have nB : Blk w1 (w.heap.size + 1) 23 #[.int .i64 (c), .int .i64 (d)] := Blk.steps (by (repeat' first | with_reducible assumption | (with_reducible refine Blk.new' ?_; first | with_reducible rfl | (simp only [World.size_alloc, World.size_setCell, World.size_drew]; done)) | with_reducible refine Blk.alloc ?_ _ | with_reducible refine Blk.drew ?_ | with_reducible refine Blk.drewN ?_ _ | with_reducible apply Blk.both | with_reducible refine Blk.far' ?_ ?_ | (show _ ≠ _; omega))) st
          have nR : Blk w1 (w.heap.size + 1 + 1) 23 #[.int .i64 (0), .int .i64 (0)] := Blk.steps (by (repeat' first | with_reducible assumption | (with_reducible refine Blk.new' ?_; first | with_reducible rfl | (simp only [World.size_alloc, World.size_setCell, World.size_drew]; done)) | with_reducible refine Blk.alloc ?_ _ | with_reducible refine Blk.drew ?_ | with_reducible refine Blk.drewN ?_ _ | with_reducible apply Blk.both | with_reducible refine Blk.far' ?_ ?_ | (show _ ≠ _; omega))) st
          clear st
          have B := Bn
          clear Bn
          have oA := nA
          clear nA
          have cA0 : World.cell? w1 ⟨w.heap.size, 0, none⟩ = some (.int .i64 (a)) := oA.c 0 rfl
          have cA1 : World.cell? w1 ⟨w.heap.size, 1, none⟩ = some (.int .i64 (b)) := oA.c 1 rfl
          have fA := oA.fr
          have lA := oA.lt
          have oB := nB
          clear nB
          have cB0 : World.cell? w1 ⟨w.heap.size + 1, 0, none⟩ = some (.int .i64 (c)) := oB.c 0 rfl
          have cB1 : World.cell? w1 ⟨w.heap.size + 1, 1, none⟩ = some (.int .i64 (d)) := oB.c 1 rfl
          have fB := oB.fr
          have lB := oB.lt
          have oR := nR
          clear nR
          have cR0 : World.cell? w1 ⟨w.heap.size + 1 + 1, 0, none⟩ = some (.int .i64 (0)) := oR.c 0 rfl
          have cR1 : World.cell? w1 ⟨w.heap.size + 1 + 1, 1, none⟩ = some (.int .i64 (0)) := oR.c 1 rfl
          have fR := oR.fr
          have lR := oR.lt
          rw [H1.out]
          go_wp2_with fail
          clear cA0 cA1 fA lA cB0 cB1 fB lB cR0 cR1 fR lR
        · have H : Hid (divQ (a) (b) (c) (d) = md (dn (a * 1099511627776) (c)) (upq (b * 1099511627776) (c))) := by show divQ (a) (b) (c) (d) = _; rw [divQ_one (by omega) (by omega), if_pos (by omega), if_pos (by omega)]
          refine Reg.wp_chain (fun D v W => Below w.heap.size w W ∧ Blk W (w.heap.size) 23 #[.int .i64 (a), .int .i64 (b)] ∧ Blk W (w.heap.size + 1) 23 #[.int .i64 (c), .int .i64 (d)] ∧ Blk W (w.heap.size + 1 + 1) 23 #[.int .i64 (0), .int .i64 (0)])
            (Reg.inl []) (Reg.ge []) Reg.None_ (fun _ => Reg.Any) (fun _ _ => False) (Reg.pl []) (Reg.pl [])
            (by kernel_rfl) (by kernel_rfl) (by kernel_rfl) (Reg.ge_some _) (fun v => ?_) (fun _ _ _ _ _ h => h) (fun _ _ _ _ _ _ _ _ _ _ _ _ _ => Reg.none_) (fun _ _ _ _ h => h.elim) (fun ops' Q' hops hQ => ?_)
          · exact ⟨(by first | with_reducible exact Below.drew B | with_reducible exact Below.drew (belowN B _) | (repeat' first | with_reducible assumption | with_reducible exact Below.refl _ _ | with_reducible refine Below.alloc ?_ ?_ _ | with_reducible refine Below.drew ?_ | with_reducible refine belowN ?_ _ | with_reducible refine Below.setCell ?_ ?_ _ | go_size)), (show Blk _ _ _ #[.int .i64 (a), .int .i64 (b)] from (by first | with_reducible exact oA | (repeat' first | with_reducible assumption | (with_reducible refine Blk.new' ?_; first | with_reducible rfl | (simp only [World.size_alloc, World.size_setCell, World.size_drew]; done)) | with_reducible refine Blk.alloc ?_ _ | with_reducible refine Blk.drew ?_ | with_reducible refine Blk.drewN ?_ _ | with_reducible apply Blk.both | with_reducible refine Blk.far' ?_ ?_ | (show _ ≠ _; omega)))), (show Blk _ _ _ #[.int .i64 (c), .int .i64 (d)] from (by first | with_reducible exact oB | (repeat' first | with_reducible assumption | (with_reducible refine Blk.new' ?_; first | with_reducible rfl | (simp only [World.size_alloc, World.size_setCell, World.size_drew]; done)) | with_reducible refine Blk.alloc ?_ _ | with_reducible refine Blk.drew ?_ | with_reducible refine Blk.drewN ?_ _ | with_reducible apply Blk.both | with_reducible refine Blk.far' ?_ ?_ | (show _ ≠ _; omega)))), (show Blk _ _ _ #[.int .i64 (0), .int .i64 (0)] from (by first | with_reducible exact oR | (repeat' first | with_reducible assumption | (with_reducible refine Blk.new' ?_; first | with_reducible rfl | (simp only [World.size_alloc, World.size_setCell, World.size_drew]; done)) | with_reducible refine Blk.alloc ?_ _ | with_reducible refine Blk.drew ?_ | with_reducible refine Blk.drewN ?_ _ | with_reducible apply Blk.both | with_reducible refine Blk.far' ?_ ?_ | (show _ ≠ _; omega))))⟩
          clear B oA oB oR
          apply Reg.RC_pure (hc := rfl) (hst := rfl) (hw := rfl) (t := 42) (hd := rfl) (ht := Nat.le_of_ble_eq_true rfl)
          · intro D v W hc hj hf K hK
            go_step
            exact hK.out
          · rfl
          apply Reg.RC_pure (hc := rfl) (hst := rfl) (hw := rfl) (t := 43) (hd := rfl) (ht := Nat.le_of_ble_eq_true rfl)
          · intro D v W hc hj hf K hK
            obtain ⟨B, oA, oB, oR⟩ := hj
            have cB0 : World.cell? W ⟨w.heap.size + 1, 0, none⟩ = some (.int .i64 (c)) := oB.c 0 rfl
            have cB1 : World.cell? W ⟨w.heap.size + 1, 1, none⟩ = some (.int .i64 (d)) := oB.c 1 rfl
            go_step
            exact hK.out
          · rfl
          apply Reg.RC_pure (hc := rfl) (hst := rfl) (hw := rfl) (t := 44) (hd := rfl) (ht := Nat.le_of_ble_eq_true rfl)
          · intro D v W hc hj hf K hK
            go_step
            exact hK.out
          · rfl
          apply Reg.RC_pure (hc := rfl) (hst := rfl) (hw := rfl) (t := 45) (hd := rfl) (ht := Nat.le_of_ble_eq_true rfl)
          · intro D v W hc hj hf K hK
            go_step
            exact hK.out
          · rfl
          apply Reg.RC_pure (hc := rfl) (hst := rfl) (hw := rfl) (t := 46) (hd := rfl) (ht := Nat.le_of_ble_eq_true rfl)
          · intro D v W hc hj hf K hK
            obtain ⟨B, oA, oB, oR⟩ := hj
            have cB0 : World.cell? W ⟨w.heap.size + 1, 0, none⟩ = some (.int .i64 (c)) := oB.c 0 rfl
            have cB1 : World.cell? W ⟨w.heap.size + 1, 1, none⟩ = some (.int .i64 (d)) := oB.c 1 rfl
            go_step
            exact hK.out
          · rfl
          apply Reg.RC_pure (hc := rfl) (hst := rfl) (hw := rfl) (t := 47) (hd := rfl) (ht := Nat.le_of_ble_eq_true rfl)
          · intro D v W hc hj hf K hK
            go_step
            exact hK.out
          · rfl
          apply Reg.RC_pure (hc := rfl) (hst := rfl) (hw := rfl) (t := 6) (hd := rfl) (ht := Nat.le_of_ble_eq_true rfl)
          · intro D v W hc hj hf K hK
            go_step
            exact hK.out
          · rfl
          apply Reg.RC_pure (hc := rfl) (hst := rfl) (hw := rfl) (t := 7) (hd := rfl) (ht := Nat.le_of_ble_eq_true rfl)
          · intro D v W hc hj hf K hK
            go_step
            exact hK.out
          · rfl
          refine Reg.RC_end (fun D v W hd hj hf => ?_)
          obtain ⟨B, oA, oB, oR⟩ := hj
          clear hd hf
          refine hQ _ _ ?_
          clear hQ hops Q' ops'
          have lA := oA.lt
          have fA := oA.fr
          have cA0 := oA.c 0 rfl
          have cA1 := oA.c 1 rfl
          have lB := oB.lt
          have fB := oB.fr
          have cB0 := oB.c 0 rfl
          have cB1 := oB.c 1 rfl
          go_wp2_with fail
          clear lA fA cA0 cA1 lB fB cB0 cB1
          refine Reg.wp_chain (fun D v W => Below w.heap.size w W ∧ Blk W (w.heap.size) 23 #[.int .i64 (a), .int .i64 (b)] ∧ Blk W (w.heap.size + 1) 23 #[.int .i64 (c), .int .i64 (d)] ∧ Blk W (w.heap.size + 1 + 1) 23 #[Reg.sel (D 13) (.int .i64 (0)) (.int .i64 ((md (dn (a * 1099511627776) (c)) (upq (b * 1099511627776) (c))).1)), Reg.sel (D 13) (.int .i64 (0)) (.int .i64 ((md (dn (a * 1099511627776) (c)) (upq (b * 1099511627776) (c))).2.1))])
            (Reg.inl [2, 4, 7, 9, 10, 13]) (Reg.ge [(2, .agg #[.bool (negB (a * 1099511627776)), .int .u64 (aHi (a * 1099511627776)), .int .u64 (aLo (a * 1099511627776))]), (4, .int .i64 (dn (a * 1099511627776) (c))), (7, .agg #[.bool (negB (b * 1099511627776)), .int .u64 (aHi (b * 1099511627776)), .int .u64 (aLo (b * 1099511627776))]), (9, .int .i64 (upq (b * 1099511627776) (c))), (10, .tuple #[.agg #[.int .i64 ((md (dn (a * 1099511627776) (c)) (upq (b * 1099511627776) (c))).1), .int .i64 ((md (dn (a * 1099511627776) (c)) (upq (b * 1099511627776) (c))).2.1)], .int .i64 ((md (dn (a * 1099511627776) (c)) (upq (b * 1099511627776) (c))).2.2)])]) Reg.None_ (fun _ => Reg.Any) (fun _ _ => False) (Reg.pl []) (Reg.pl [])
            (by kernel_rfl) (by kernel_rfl) (by kernel_rfl) (Reg.ge_some _) (fun v => ?_) (fun _ _ _ _ _ h => h) (fun _ _ _ _ _ _ _ _ _ _ _ _ _ => Reg.none_) (fun _ _ _ _ h => h.elim) (fun ops' Q' hops hQ => ?_)
          · exact ⟨(by first | with_reducible exact Below.drew B | with_reducible exact Below.drew (belowN B _) | (repeat' first | with_reducible assumption | with_reducible exact Below.refl _ _ | with_reducible refine Below.alloc ?_ ?_ _ | with_reducible refine Below.drew ?_ | with_reducible refine belowN ?_ _ | with_reducible refine Below.setCell ?_ ?_ _ | go_size)), (show Blk _ _ _ #[.int .i64 (a), .int .i64 (b)] from (by first | with_reducible exact oA | (repeat' first | with_reducible assumption | (with_reducible refine Blk.new' ?_; first | with_reducible rfl | (simp only [World.size_alloc, World.size_setCell, World.size_drew]; done)) | with_reducible refine Blk.alloc ?_ _ | with_reducible refine Blk.drew ?_ | with_reducible refine Blk.drewN ?_ _ | with_reducible apply Blk.both | with_reducible refine Blk.far' ?_ ?_ | (show _ ≠ _; omega)))), (show Blk _ _ _ #[.int .i64 (c), .int .i64 (d)] from (by first | with_reducible exact oB | (repeat' first | with_reducible assumption | (with_reducible refine Blk.new' ?_; first | with_reducible rfl | (simp only [World.size_alloc, World.size_setCell, World.size_drew]; done)) | with_reducible refine Blk.alloc ?_ _ | with_reducible refine Blk.drew ?_ | with_reducible refine Blk.drewN ?_ _ | with_reducible apply Blk.both | with_reducible refine Blk.far' ?_ ?_ | (show _ ≠ _; omega)))), (show Blk _ _ _ #[.int .i64 (0), .int .i64 (0)] from (by first | with_reducible exact oR | (repeat' first | with_reducible assumption | (with_reducible refine Blk.new' ?_; first | with_reducible rfl | (simp only [World.size_alloc, World.size_setCell, World.size_drew]; done)) | with_reducible refine Blk.alloc ?_ _ | with_reducible refine Blk.drew ?_ | with_reducible refine Blk.drewN ?_ _ | with_reducible apply Blk.both | with_reducible refine Blk.far' ?_ ?_ | (show _ ≠ _; omega))))⟩
          clear B oA oB oR
          apply Reg.RC_pure (hc := rfl) (hst := rfl) (hw := rfl) (t := 60) (hd := rfl) (ht := Nat.le_of_ble_eq_true rfl)
          · intro D v W hc hj hf K hK
            go_step
            exact hK.out
          · rfl
          apply Reg.RC_pure (hc := rfl) (hst := rfl) (hw := rfl) (t := 61) (hd := rfl) (ht := Nat.le_of_ble_eq_true rfl)
          · intro D v W hc hj hf K hK
            obtain ⟨B, oA, oB, oR⟩ := hj
            have cA0 : World.cell? W ⟨w.heap.size, 0, none⟩ = some (.int .i64 (a)) := oA.c 0 rfl
            have cA1 : World.cell? W ⟨w.heap.size, 1, none⟩ = some (.int .i64 (b)) := oA.c 1 rfl
            go_step
            exact hK.out
          · rfl
          refine Reg.RC_exact _ (fun _ h => h) rfl (by intro t ht; cases ht; exact Nat.le_of_ble_eq_true rfl) rfl (fun D v W hc hj hf K hK => ?_) (Reg.RC_at (b := ⟨#[_, _, _, _, _, _, _, _, _, _, _, _, _, _, _, _, _, _, _, _, _, _, _, _, _, _, _, _, _, _, _, _, _, _, _, _, _, _, _, _, _, _, _, _, _, _, _, _, _, _, _, _, _, _, _, _, _, _, _, _, _, _, _, _, _, _, _, _, _, _, _, _, _], []⟩) rfl ?_)
          · obtain ⟨B, oA, oB, oR⟩ := hj
            go_step
            refine (rtimes_b _ _ _ (by omega) (by omega) (by omega) (by omega)).mono ?_
            rintro e W' ⟨rfl, hb⟩
            have st : Steps W W' := hb
            exact hK.out _ _ Reg.any ⟨below_steps B (Nat.le_refl _) st, oA.steps st, oB.steps st, oR.steps st⟩ Reg.none_ rfl
          apply Reg.RC_pure (hc := rfl) (hst := rfl) (hw := rfl) (t := 63) (hd := rfl) (ht := Nat.le_of_ble_eq_true rfl)
          · intro D v W hc hj hf K hK
            go_step
            exact hK.out
          · rfl
          refine Reg.RC_exact _ (fun _ h => h) rfl (by intro t ht; cases ht; exact Nat.le_of_ble_eq_true rfl) rfl (fun D v W hc hj hf K hK => ?_) (Reg.RC_at (b := ⟨#[_, _, _, _, _, _, _, _, _, _, _, _, _, _, _, _, _, _, _, _, _, _, _, _, _, _, _, _, _, _, _, _, _, _, _, _, _, _, _, _, _, _, _, _, _, _, _, _, _, _, _, _, _, _, _, _, _, _, _, _, _, _, _, _, _, _, _, _, _, _, _, _, _], []⟩) rfl ?_)
          · obtain ⟨B, oA, oB, oR⟩ := hj
            go_step
            refine (rover_dn _ _ _ (by omega) (by omega) (by omega) (by omega)).mono ?_
            rintro e W' ⟨rfl, hb⟩
            have st : Steps W W' := hb
            exact hK.out _ _ Reg.any ⟨below_steps B (Nat.le_refl _) st, oA.steps st, oB.steps st, oR.steps st⟩ Reg.none_ rfl
          apply Reg.RC_pure (hc := rfl) (hst := rfl) (hw := rfl) (t := 65) (hd := rfl) (ht := Nat.le_of_ble_eq_true rfl)
          · intro D v W hc hj hf K hK
            go_step
            exact hK.out
          · rfl
          apply Reg.RC_pure (hc := rfl) (hst := rfl) (hw := rfl) (t := 66) (hd := rfl) (ht := Nat.le_of_ble_eq_true rfl)
          · intro D v W hc hj hf K hK
            obtain ⟨B, oA, oB, oR⟩ := hj
            have cA0 : World.cell? W ⟨w.heap.size, 0, none⟩ = some (.int .i64 (a)) := oA.c 0 rfl
            have cA1 : World.cell? W ⟨w.heap.size, 1, none⟩ = some (.int .i64 (b)) := oA.c 1 rfl
            go_step
            exact hK.out
          · rfl
          refine Reg.RC_exact _ (fun _ h => h) rfl (by intro t ht; cases ht; exact Nat.le_of_ble_eq_true rfl) rfl (fun D v W hc hj hf K hK => ?_) (Reg.RC_at (b := ⟨#[_, _, _, _, _, _, _, _, _, _, _, _, _, _, _, _, _, _, _, _, _, _, _, _, _, _, _, _, _, _, _, _, _, _, _, _, _, _, _, _, _, _, _, _, _, _, _, _, _, _, _, _, _, _, _, _, _, _, _, _, _, _, _, _, _, _, _, _, _, _, _, _, _], []⟩) rfl ?_)
          · obtain ⟨B, oA, oB, oR⟩ := hj
            go_step
            refine (rtimes_b _ _ _ (by omega) (by omega) (by omega) (by omega)).mono ?_
            rintro e W' ⟨rfl, hb⟩
            have st : Steps W W' := hb
            exact hK.out _ _ Reg.any ⟨below_steps B (Nat.le_refl _) st, oA.steps st, oB.steps st, oR.steps st⟩ Reg.none_ rfl
          apply Reg.RC_pure (hc := rfl) (hst := rfl) (hw := rfl) (t := 68) (hd := rfl) (ht := Nat.le_of_ble_eq_true rfl)
          · intro D v W hc hj hf K hK
            go_step
            exact hK.out
          · rfl
          refine Reg.RC_exact _ (fun _ h => h) rfl (by intro t ht; cases ht; exact Nat.le_of_ble_eq_true rfl) rfl (fun D v W hc hj hf K hK => ?_) (Reg.RC_at (b := ⟨#[_, _, _, _, _, _, _, _, _, _, _, _, _, _, _, _, _, _, _, _, _, _, _, _, _, _, _, _, _, _, _, _, _, _, _, _, _, _, _, _, _, _, _, _, _, _, _, _, _, _, _, _, _, _, _, _, _, _, _, _, _, _, _, _, _, _, _, _, _, _, _, _, _], []⟩) rfl ?_)
          · obtain ⟨B, oA, oB, oR⟩ := hj
            go_step
            refine (rover_up _ _ _ (by omega) (by omega) (by omega) (by omega)).mono ?_
            rintro e W' ⟨rfl, hb⟩
            have st : Steps W W' := hb
            exact hK.out _ _ Reg.any ⟨below_steps B (Nat.le_refl _) st, oA.steps st, oB.steps st, oR.steps st⟩ Reg.none_ rfl
          refine Reg.RC_exact _ (fun _ h => h) rfl (by intro t ht; cases ht; exact Nat.le_of_ble_eq_true rfl) rfl (fun D v W hc hj hf K hK => ?_) (Reg.RC_at (b := ⟨#[_, _, _, _, _, _, _, _, _, _, _, _, _, _, _, _, _, _, _, _, _, _, _, _, _, _, _, _, _, _, _, _, _, _, _, _, _, _, _, _, _, _, _, _, _, _, _, _, _, _, _, _, _, _, _, _, _, _, _, _, _, _, _, _, _, _, _, _, _, _, _, _, _], []⟩) rfl ?_)
          · obtain ⟨B, oA, oB, oR⟩ := hj
            go_step
            refine (rmade _ _ _).mono ?_
            rintro e W' ⟨rfl, hb⟩
            have st : Steps W W' := hb
            exact hK.out _ _ Reg.any ⟨below_steps B (Nat.le_refl _) st, oA.steps st, oB.steps st, oR.steps st⟩ Reg.none_ rfl
          apply Reg.RC_pure (hc := rfl) (hst := rfl) (hw := rfl) (t := 71) (hd := rfl) (ht := Nat.le_of_ble_eq_true rfl)
          · intro D v W hc hj hf K hK
            go_step
            exact hK.out
          · rfl
          apply Reg.RC_pure (hc := rfl) (hst := rfl) (hw := rfl) (t := 72) (hd := rfl) (ht := Nat.le_of_ble_eq_true rfl)
          · intro D v W hc hj hf K hK
            go_step
            exact hK.out
          · rfl
          refine Reg.RC_call rfl (by intro t ht; cases ht) rfl (fun D v W hc hj hf K hK => ?_) (fun _ _ => Reg.RC_at (b := ⟨_, []⟩) rfl ?_)
          · obtain ⟨B, oA, oB, oR⟩ := hj
            have hs : D 13 = false := hc.1
            have oR : Blk W (w.heap.size + 1 + 1) 23 #[.int .i64 (0), .int .i64 (0)] := by have o := oR; simp only [hs, Reg.sel_false] at o; exact o
            have lR := oR.lt
            have fR := oR.fr
            have cR0 : World.cell? W ⟨w.heap.size + 1 + 1, 0, none⟩ = some (.int .i64 (0)) := oR.c 0 rfl
            have cR1 : World.cell? W ⟨w.heap.size + 1 + 1, 1, none⟩ = some (.int .i64 (0)) := oR.c 1 rfl
            go_step
            exact hK.out undef _ Reg.any ⟨(by (repeat' first | with_reducible assumption | with_reducible exact Below.refl _ _ | with_reducible refine Below.alloc ?_ ?_ _ | with_reducible refine Below.drew ?_ | with_reducible refine belowN ?_ _ | with_reducible refine Below.setCell ?_ ?_ _ | go_size)), (show Blk _ _ _ #[.int .i64 (a), .int .i64 (b)] from (by (repeat' first | with_reducible assumption | (with_reducible refine Blk.new' ?_; first | with_reducible rfl | (simp only [World.size_alloc, World.size_setCell, World.size_drew]; done)) | with_reducible refine Blk.alloc ?_ _ | with_reducible refine Blk.drew ?_ | with_reducible refine Blk.drewN ?_ _ | with_reducible apply Blk.both | with_reducible refine Blk.far' ?_ ?_ | (show _ ≠ _; omega)))), (show Blk _ _ _ #[.int .i64 (c), .int .i64 (d)] from (by (repeat' first | with_reducible assumption | (with_reducible refine Blk.new' ?_; first | with_reducible rfl | (simp only [World.size_alloc, World.size_setCell, World.size_drew]; done)) | with_reducible refine Blk.alloc ?_ _ | with_reducible refine Blk.drew ?_ | with_reducible refine Blk.drewN ?_ _ | with_reducible apply Blk.both | with_reducible refine Blk.far' ?_ ?_ | (show _ ≠ _; omega)))), (show Blk _ _ _ #[.int .i64 ((md (dn (a * 1099511627776) (c)) (upq (b * 1099511627776) (c))).1), .int .i64 ((md (dn (a * 1099511627776) (c)) (upq (b * 1099511627776) (c))).2.1)] from (Blk.set2 (cs' := #[.int .i64 ((md (dn (a * 1099511627776) (c)) (upq (b * 1099511627776) (c))).1), .int .i64 ((md (dn (a * 1099511627776) (c)) (upq (b * 1099511627776) (c))).2.1)]) (Blk.set2 (cs' := #[.int .i64 ((md (dn (a * 1099511627776) (c)) (upq (b * 1099511627776) (c))).1), .int .i64 (0)]) oR (i := 0) rfl) (i := 1) rfl))⟩ Reg.none_ trivial
          apply Reg.RC_pure (hc := rfl) (hst := rfl) (hw := rfl) (t := 5) (hd := rfl) (ht := Nat.le_of_ble_eq_true rfl)
          · intro D v W hc hj hf K hK
            go_step
            exact hK.out
          · rfl
          refine Reg.RC_end (fun D v W hd hj hf => ?_)
          obtain ⟨B, oA, oB, oR⟩ := hj
          have e13 : D 13 = true := hd 13 (by decide)
          have oR : Blk W (w.heap.size + 1 + 1) 23 #[.int .i64 ((md (dn (a * 1099511627776) (c)) (upq (b * 1099511627776) (c))).1), .int .i64 ((md (dn (a * 1099511627776) (c)) (upq (b * 1099511627776) (c))).2.1)] := by have o := oR; simp only [e13, Reg.sel_true] at o; exact o
          clear e13
          clear hd hf
          refine hQ _ _ ?_
          clear hQ hops Q' ops'
          have lR := oR.lt
          have cR0 := oR.c 0 rfl
          have cR1 := oR.c 1 rfl
          have fR := oR.fr
          repeat' (first | go_values | go_skip | go_guarded | go_step | go_upon)
          refine bodyPost_ret (by simp [results, Try.results29, go_sem, lR, cR0, cR1, fR]; rfl) rfl ?_
          show G3 w _ _ _
          rw [H0.out, H.out]
          exact ⟨rfl, B⟩
        · have H : Hid (divQ (a) (b) (c) (d) = md (dn (a * 1099511627776) (c)) (upq (b * 1099511627776) (d))) := by show divQ (a) (b) (c) (d) = _; rw [divQ_one (by omega) (by omega), if_pos (by omega), if_neg (by omega)]
          refine Reg.wp_chain (fun D v W => Below w.heap.size w W ∧ Blk W (w.heap.size) 23 #[.int .i64 (a), .int .i64 (b)] ∧ Blk W (w.heap.size + 1) 23 #[.int .i64 (c), .int .i64 (d)] ∧ Blk W (w.heap.size + 1 + 1) 23 #[.int .i64 (0), .int .i64 (0)])
            (Reg.inl []) (Reg.ge []) Reg.None_ (fun _ => Reg.Any) (fun _ _ => False) (Reg.pl []) (Reg.pl [])
            (by kernel_rfl) (by kernel_rfl) (by kernel_rfl) (Reg.ge_some _) (fun v => ?_) (fun _ _ _ _ _ h => h) (fun _ _ _ _ _ _ _ _ _ _ _ _ _ => Reg.none_) (fun _ _ _ _ h => h.elim) (fun ops' Q' hops hQ => ?_)
          · exact ⟨(by first | with_reducible exact Below.drew B | with_reducible exact Below.drew (belowN B _) | (repeat' first | with_reducible assumption | with_reducible exact Below.refl _ _ | with_reducible refine Below.alloc ?_ ?_ _ | with_reducible refine Below.drew ?_ | with_reducible refine belowN ?_ _ | with_reducible refine Below.setCell ?_ ?_ _ | go_size)), (show Blk _ _ _ #[.int .i64 (a), .int .i64 (b)] from (by first | with_reducible exact oA | (repeat' first | with_reducible assumption | (with_reducible refine Blk.new' ?_; first | with_reducible rfl | (simp only [World.size_alloc, World.size_setCell, World.size_drew]; done)) | with_reducible refine Blk.alloc ?_ _ | with_reducible refine Blk.drew ?_ | with_reducible refine Blk.drewN ?_ _ | with_reducible apply Blk.both | with_reducible refine Blk.far' ?_ ?_ | (show _ ≠ _; omega)))), (show Blk _ _ _ #[.int .i64 (c), .int .i64 (d)] from (by first | with_reducible exact oB | (repeat' first | with_reducible assumption | (with_reducible refine Blk.new' ?_; first | with_reducible rfl | (simp only [World.size_alloc, World.size_setCell, World.size_drew]; done)) | with_reducible refine Blk.alloc ?_ _ | with_reducible refine Blk.drew ?_ | with_reducible refine Blk.drewN ?_ _ | with_reducible apply Blk.both | with_reducible refine Blk.far' ?_ ?_ | (show _ ≠ _; omega)))), (show Blk _ _ _ #[.int .i64 (0), .int .i64 (0)] from (by first | with_reducible exact oR | (repeat' first | with_reducible assumption | (with_reducible refine Blk.new' ?_; first | with_reducible rfl | (simp only [World.size_alloc, World.size_setCell, World.size_drew]; done)) | with_reducible refine Blk.alloc ?_ _ | with_reducible refine Blk.drew ?_ | with_reducible refine Blk.drewN ?_ _ | with_reducible apply Blk.both | with_reducible refine Blk.far' ?_ ?_ | (show _ ≠ _; omega))))⟩
          clear B oA oB oR
          apply Reg.RC_pure (hc := rfl) (hst := rfl) (hw := rfl) (t := 42) (hd := rfl) (ht := Nat.le_of_ble_eq_true rfl)
          · intro D v W hc hj hf K hK
            go_step
            exact hK.out
          · rfl
          apply Reg.RC_pure (hc := rfl) (hst := rfl) (hw := rfl) (t := 43) (hd := rfl) (ht := Nat.le_of_ble_eq_true rfl)
          · intro D v W hc hj hf K hK
            obtain ⟨B, oA, oB, oR⟩ := hj
            have cB0 : World.cell? W ⟨w.heap.size + 1, 0, none⟩ = some (.int .i64 (c)) := oB.c 0 rfl
            have cB1 : World.cell? W ⟨w.heap.size + 1, 1, none⟩ = some (.int .i64 (d)) := oB.c 1 rfl
            go_step
            exact hK.out
          · rfl
          apply Reg.RC_pure (hc := rfl) (hst := rfl) (hw := rfl) (t := 44) (hd := rfl) (ht := Nat.le_of_ble_eq_true rfl)
          · intro D v W hc hj hf K hK
            go_step
            exact hK.out
          · rfl
          apply Reg.RC_pure (hc := rfl) (hst := rfl) (hw := rfl) (t := 45) (hd := rfl) (ht := Nat.le_of_ble_eq_true rfl)
          · intro D v W hc hj hf K hK
            go_step
            exact hK.out
          · rfl
          apply Reg.RC_pure (hc := rfl) (hst := rfl) (hw := rfl) (t := 46) (hd := rfl) (ht := Nat.le_of_ble_eq_true rfl)
          · intro D v W hc hj hf K hK
            obtain ⟨B, oA, oB, oR⟩ := hj
            have cB0 : World.cell? W ⟨w.heap.size + 1, 0, none⟩ = some (.int .i64 (c)) := oB.c 0 rfl
            have cB1 : World.cell? W ⟨w.heap.size + 1, 1, none⟩ = some (.int .i64 (d)) := oB.c 1 rfl
            go_step
            exact hK.out
          · rfl
          apply Reg.RC_pure (hc := rfl) (hst := rfl) (hw := rfl) (t := 47) (hd := rfl) (ht := Nat.le_of_ble_eq_true rfl)
          · intro D v W hc hj hf K hK
            go_step
            exact hK.out
          · rfl
          apply Reg.RC_pure (hc := rfl) (hst := rfl) (hw := rfl) (t := 6) (hd := rfl) (ht := Nat.le_of_ble_eq_true rfl)
          · intro D v W hc hj hf K hK
            go_step
            exact hK.out
          · rfl
          apply Reg.RC_pure (hc := rfl) (hst := rfl) (hw := rfl) (t := 7) (hd := rfl) (ht := Nat.le_of_ble_eq_true rfl)
          · intro D v W hc hj hf K hK
            go_step
            exact hK.out
          · rfl
          refine Reg.RC_end (fun D v W hd hj hf => ?_)
          obtain ⟨B, oA, oB, oR⟩ := hj
          clear hd hf
          refine hQ _ _ ?_
          clear hQ hops Q' ops'
          have lA := oA.lt
          have fA := oA.fr
          have cA0 := oA.c 0 rfl
          have cA1 := oA.c 1 rfl
          have lB := oB.lt
          have fB := oB.fr
          have cB0 := oB.c 0 rfl
          have cB1 := oB.c 1 rfl
          go_wp2_with fail
          clear lA fA cA0 cA1 lB fB cB0 cB1
          refine Reg.wp_chain (fun D v W => Below w.heap.size w W ∧ Blk W (w.heap.size) 23 #[.int .i64 (a), .int .i64 (b)] ∧ Blk W (w.heap.size + 1) 23 #[.int .i64 (c), .int .i64 (d)] ∧ Blk W (w.heap.size + 1 + 1) 23 #[Reg.sel (D 13) (.int .i64 (0)) (.int .i64 ((md (dn (a * 1099511627776) (c)) (upq (b * 1099511627776) (d))).1)), Reg.sel (D 13) (.int .i64 (0)) (.int .i64 ((md (dn (a * 1099511627776) (c)) (upq (b * 1099511627776) (d))).2.1))])
            (Reg.inl [2, 4, 7, 9, 10, 13]) (Reg.ge [(2, .agg #[.bool (negB (a * 1099511627776)), .int .u64 (aHi (a * 1099511627776)), .int .u64 (aLo (a * 1099511627776))]), (4, .int .i64 (dn (a * 1099511627776) (c))), (7, .agg #[.bool (negB (b * 1099511627776)), .int .u64 (aHi (b * 1099511627776)), .int .u64 (aLo (b * 1099511627776))]), (9, .int .i64 (upq (b * 1099511627776) (d))), (10, .tuple #[.agg #[.int .i64 ((md (dn (a * 1099511627776) (c)) (upq (b * 1099511627776) (d))).1), .int .i64 ((md (dn (a * 1099511627776) (c)) (upq (b * 1099511627776) (d))).2.1)], .int .i64 ((md (dn (a * 1099511627776) (c)) (upq (b * 1099511627776) (d))).2.2)])]) Reg.None_ (fun _ => Reg.Any) (fun _ _ => False) (Reg.pl []) (Reg.pl [])
            (by kernel_rfl) (by kernel_rfl) (by kernel_rfl) (Reg.ge_some _) (fun v => ?_) (fun _ _ _ _ _ h => h) (fun _ _ _ _ _ _ _ _ _ _ _ _ _ => Reg.none_) (fun _ _ _ _ h => h.elim) (fun ops' Q' hops hQ => ?_)
          · exact ⟨(by first | with_reducible exact Below.drew B | with_reducible exact Below.drew (belowN B _) | (repeat' first | with_reducible assumption | with_reducible exact Below.refl _ _ | with_reducible refine Below.alloc ?_ ?_ _ | with_reducible refine Below.drew ?_ | with_reducible refine belowN ?_ _ | with_reducible refine Below.setCell ?_ ?_ _ | go_size)), (show Blk _ _ _ #[.int .i64 (a), .int .i64 (b)] from (by first | with_reducible exact oA | (repeat' first | with_reducible assumption | (with_reducible refine Blk.new' ?_; first | with_reducible rfl | (simp only [World.size_alloc, World.size_setCell, World.size_drew]; done)) | with_reducible refine Blk.alloc ?_ _ | with_reducible refine Blk.drew ?_ | with_reducible refine Blk.drewN ?_ _ | with_reducible apply Blk.both | with_reducible refine Blk.far' ?_ ?_ | (show _ ≠ _; omega)))), (show Blk _ _ _ #[.int .i64 (c), .int .i64 (d)] from (by first | with_reducible exact oB | (repeat' first | with_reducible assumption | (with_reducible refine Blk.new' ?_; first | with_reducible rfl | (simp only [World.size_alloc, World.size_setCell, World.size_drew]; done)) | with_reducible refine Blk.alloc ?_ _ | with_reducible refine Blk.drew ?_ | with_reducible refine Blk.drewN ?_ _ | with_reducible apply Blk.both | with_reducible refine Blk.far' ?_ ?_ | (show _ ≠ _; omega)))), (show Blk _ _ _ #[.int .i64 (0), .int .i64 (0)] from (by first | with_reducible exact oR | (repeat' first | with_reducible assumption | (with_reducible refine Blk.new' ?_; first | with_reducible rfl | (simp only [World.size_alloc, World.size_setCell, World.size_drew]; done)) | with_reducible refine Blk.alloc ?_ _ | with_reducible refine Blk.drew ?_ | with_reducible refine Blk.drewN ?_ _ | with_reducible apply Blk.both | with_reducible refine Blk.far' ?_ ?_ | (show _ ≠ _; omega))))⟩
          clear B oA oB oR
          apply Reg.RC_pure (hc := rfl) (hst := rfl) (hw := rfl) (t := 60) (hd := rfl) (ht := Nat.le_of_ble_eq_true rfl)
          · intro D v W hc hj hf K hK
            go_step
            exact hK.out
          · rfl
          apply Reg.RC_pure (hc := rfl) (hst := rfl) (hw := rfl) (t := 61) (hd := rfl) (ht := Nat.le_of_ble_eq_true rfl)
          · intro D v W hc hj hf K hK
            obtain ⟨B, oA, oB, oR⟩ := hj
            have cA0 : World.cell? W ⟨w.heap.size, 0, none⟩ = some (.int .i64 (a)) := oA.c 0 rfl
            have cA1 : World.cell? W ⟨w.heap.size, 1, none⟩ = some (.int .i64 (b)) := oA.c 1 rfl
            go_step
            exact hK.out
          · rfl
          refine Reg.RC_exact _ (fun _ h => h) rfl (by intro t ht; cases ht; exact Nat.le_of_ble_eq_true rfl) rfl (fun D v W hc hj hf K hK => ?_) (Reg.RC_at (b := ⟨#[_, _, _, _, _, _, _, _, _, _, _, _, _, _, _, _, _, _, _, _, _, _, _, _, _, _, _, _, _, _, _, _, _, _, _, _, _, _, _, _, _, _, _, _, _, _, _, _, _, _, _, _, _, _, _, _, _, _, _, _, _, _, _, _, _, _, _, _, _, _, _, _, _], []⟩) rfl ?_)
          · obtain ⟨B, oA, oB, oR⟩ := hj
            go_step
            refine (rtimes_b _ _ _ (by omega) (by omega) (by omega) (by omega)).mono ?_
            rintro e W' ⟨rfl, hb⟩
            have st : Steps W W' := hb
            exact hK.out _ _ Reg.any ⟨below_steps B (Nat.le_refl _) st, oA.steps st, oB.steps st, oR.steps st⟩ Reg.none_ rfl
          apply Reg.RC_pure (hc := rfl) (hst := rfl) (hw := rfl) (t := 63) (hd := rfl) (ht := Nat.le_of_ble_eq_true rfl)
          · intro D v W hc hj hf K hK
            go_step
            exact hK.out
          · rfl
          refine Reg.RC_exact _ (fun _ h => h) rfl (by intro t ht; cases ht; exact Nat.le_of_ble_eq_true rfl) rfl (fun D v W hc hj hf K hK => ?_) (Reg.RC_at (b := ⟨#[_, _, _, _, _, _, _, _, _, _, _, _, _, _, _, _, _, _, _, _, _, _, _, _, _, _, _, _, _, _, _, _, _, _, _, _, _, _, _, _, _, _, _, _, _, _, _, _, _, _, _, _, _, _, _, _, _, _, _, _, _, _, _, _, _, _, _, _, _, _, _, _, _], []⟩) rfl ?_)
          · obtain ⟨B, oA, oB, oR⟩ := hj
            go_step
            refine (rover_dn _ _ _ (by omega) (by omega) (by omega) (by omega)).mono ?_
            rintro e W' ⟨rfl, hb⟩
            have st : Steps W W' := hb
            exact hK.out _ _ Reg.any ⟨below_steps B (Nat.le_refl _) st, oA.steps st, oB.steps st, oR.steps st⟩ Reg.none_ rfl
          apply Reg.RC_pure (hc := rfl) (hst := rfl) (hw := rfl) (t := 65) (hd := rfl) (ht := Nat.le_of_ble_eq_true rfl)
          · intro D v W hc hj hf K hK
            go_step
            exact hK.out
          · rfl
          apply Reg.RC_pure (hc := rfl) (hst := rfl) (hw := rfl) (t := 66) (hd := rfl) (ht := Nat.le_of_ble_eq_true rfl)
          · intro D v W hc hj hf K hK
            obtain ⟨B, oA, oB, oR⟩ := hj
            have cA0 : World.cell? W ⟨w.heap.size, 0, none⟩ = some (.int .i64 (a)) := oA.c 0 rfl
            have cA1 : World.cell? W ⟨w.heap.size, 1, none⟩ = some (.int .i64 (b)) := oA.c 1 rfl
            go_step
            exact hK.out
          · rfl
          refine Reg.RC_exact _ (fun _ h => h) rfl (by intro t ht; cases ht; exact Nat.le_of_ble_eq_true rfl) rfl (fun D v W hc hj hf K hK => ?_) (Reg.RC_at (b := ⟨#[_, _, _, _, _, _, _, _, _, _, _, _, _, _, _, _, _, _, _, _, _, _, _, _, _, _, _, _, _, _, _, _, _, _, _, _, _, _, _, _, _, _, _, _, _, _, _, _, _, _, _, _, _, _, _, _, _, _, _, _, _, _, _, _, _, _, _, _, _, _, _, _, _], []⟩) rfl ?_)
          · obtain ⟨B, oA, oB, oR⟩ := hj
            go_step
            refine (rtimes_b _ _ _ (by omega) (by omega) (by omega) (by omega)).mono ?_
            rintro e W' ⟨rfl, hb⟩
            have st : Steps W W' := hb
            exact hK.out _ _ Reg.any ⟨below_steps B (Nat.le_refl _) st, oA.steps st, oB.steps st, oR.steps st⟩ Reg.none_ rfl
          apply Reg.RC_pure (hc := rfl) (hst := rfl) (hw := rfl) (t := 68) (hd := rfl) (ht := Nat.le_of_ble_eq_true rfl)
          · intro D v W hc hj hf K hK
            go_step
            exact hK.out
          · rfl
          refine Reg.RC_exact _ (fun _ h => h) rfl (by intro t ht; cases ht; exact Nat.le_of_ble_eq_true rfl) rfl (fun D v W hc hj hf K hK => ?_) (Reg.RC_at (b := ⟨#[_, _, _, _, _, _, _, _, _, _, _, _, _, _, _, _, _, _, _, _, _, _, _, _, _, _, _, _, _, _, _, _, _, _, _, _, _, _, _, _, _, _, _, _, _, _, _, _, _, _, _, _, _, _, _, _, _, _, _, _, _, _, _, _, _, _, _, _, _, _, _, _, _], []⟩) rfl ?_)
          · obtain ⟨B, oA, oB, oR⟩ := hj
            go_step
            refine (rover_up _ _ _ (by omega) (by omega) (by omega) (by omega)).mono ?_
            rintro e W' ⟨rfl, hb⟩
            have st : Steps W W' := hb
            exact hK.out _ _ Reg.any ⟨below_steps B (Nat.le_refl _) st, oA.steps st, oB.steps st, oR.steps st⟩ Reg.none_ rfl
          refine Reg.RC_exact _ (fun _ h => h) rfl (by intro t ht; cases ht; exact Nat.le_of_ble_eq_true rfl) rfl (fun D v W hc hj hf K hK => ?_) (Reg.RC_at (b := ⟨#[_, _, _, _, _, _, _, _, _, _, _, _, _, _, _, _, _, _, _, _, _, _, _, _, _, _, _, _, _, _, _, _, _, _, _, _, _, _, _, _, _, _, _, _, _, _, _, _, _, _, _, _, _, _, _, _, _, _, _, _, _, _, _, _, _, _, _, _, _, _, _, _, _], []⟩) rfl ?_)
          · obtain ⟨B, oA, oB, oR⟩ := hj
            go_step
            refine (rmade _ _ _).mono ?_
            rintro e W' ⟨rfl, hb⟩
            have st : Steps W W' := hb
            exact hK.out _ _ Reg.any ⟨below_steps B (Nat.le_refl _) st, oA.steps st, oB.steps st, oR.steps st⟩ Reg.none_ rfl
          apply Reg.RC_pure (hc := rfl) (hst := rfl) (hw := rfl) (t := 71) (hd := rfl) (ht := Nat.le_of_ble_eq_true rfl)
          · intro D v W hc hj hf K hK
            go_step
            exact hK.out
          · rfl
          apply Reg.RC_pure (hc := rfl) (hst := rfl) (hw := rfl) (t := 72) (hd := rfl) (ht := Nat.le_of_ble_eq_true rfl)
          · intro D v W hc hj hf K hK
            go_step
            exact hK.out
          · rfl
          refine Reg.RC_call rfl (by intro t ht; cases ht) rfl (fun D v W hc hj hf K hK => ?_) (fun _ _ => Reg.RC_at (b := ⟨_, []⟩) rfl ?_)
          · obtain ⟨B, oA, oB, oR⟩ := hj
            have hs : D 13 = false := hc.1
            have oR : Blk W (w.heap.size + 1 + 1) 23 #[.int .i64 (0), .int .i64 (0)] := by have o := oR; simp only [hs, Reg.sel_false] at o; exact o
            have lR := oR.lt
            have fR := oR.fr
            have cR0 : World.cell? W ⟨w.heap.size + 1 + 1, 0, none⟩ = some (.int .i64 (0)) := oR.c 0 rfl
            have cR1 : World.cell? W ⟨w.heap.size + 1 + 1, 1, none⟩ = some (.int .i64 (0)) := oR.c 1 rfl
            go_step
            exact hK.out undef _ Reg.any ⟨(by (repeat' first | with_reducible assumption | with_reducible exact Below.refl _ _ | with_reducible refine Below.alloc ?_ ?_ _ | with_reducible refine Below.drew ?_ | with_reducible refine belowN ?_ _ | with_reducible refine Below.setCell ?_ ?_ _ | go_size)), (show Blk _ _ _ #[.int .i64 (a), .int .i64 (b)] from (by (repeat' first | with_reducible assumption | (with_reducible refine Blk.new' ?_; first | with_reducible rfl | (simp only [World.size_alloc, World.size_setCell, World.size_drew]; done)) | with_reducible refine Blk.alloc ?_ _ | with_reducible refine Blk.drew ?_ | with_reducible refine Blk.drewN ?_ _ | with_reducible apply Blk.both | with_reducible refine Blk.far' ?_ ?_ | (show _ ≠ _; omega)))), (show Blk _ _ _ #[.int .i64 (c), .int .i64 (d)] from (by (repeat' first | with_reducible assumption | (with_reducible refine Blk.new' ?_; first | with_reducible rfl | (simp only [World.size_alloc, World.size_setCell, World.size_drew]; done)) | with_reducible refine Blk.alloc ?_ _ | with_reducible refine Blk.drew ?_ | with_reducible refine Blk.drewN ?_ _ | with_reducible apply Blk.both | with_reducible refine Blk.far' ?_ ?_ | (show _ ≠ _; omega)))), (show Blk _ _ _ #[.int .i64 ((md (dn (a * 1099511627776) (c)) (upq (b * 1099511627776) (d))).1), .int .i64 ((md (dn (a * 1099511627776) (c)) (upq (b * 1099511627776) (d))).2.1)] from (Blk.set2 (cs' := #[.int .i64 ((md (dn (a * 1099511627776) (c)) (upq (b * 1099511627776) (d))).1), .int .i64 ((md (dn (a * 1099511627776) (c)) (upq (b * 1099511627776) (d))).2.1)]) (Blk.set2 (cs' := #[.int .i64 ((md (dn (a * 1099511627776) (c)) (upq (b * 1099511627776) (d))).1), .int .i64 (0)]) oR (i := 0) rfl) (i := 1) rfl))⟩ Reg.none_ trivial
          apply Reg.RC_pure (hc := rfl) (hst := rfl) (hw := rfl) (t := 5) (hd := rfl) (ht := Nat.le_of_ble_eq_true rfl)
          · intro D v W hc hj hf K hK
            go_step
            exact hK.out
          · rfl
          refine Reg.RC_end (fun D v W hd hj hf => ?_)
          obtain ⟨B, oA, oB, oR⟩ := hj
          have e13 : D 13 = true := hd 13 (by decide)
          have oR : Blk W (w.heap.size + 1 + 1) 23 #[.int .i64 ((md (dn (a * 1099511627776) (c)) (upq (b * 1099511627776) (d))).1), .int .i64 ((md (dn (a * 1099511627776) (c)) (upq (b * 1099511627776) (d))).2.1)] := by have o := oR; simp only [e13, Reg.sel_true] at o; exact o
          clear e13
          clear hd hf
          refine hQ _ _ ?_
          clear hQ hops Q' ops'
          have lR := oR.lt
          have cR0 := oR.c 0 rfl
          have cR1 := oR.c 1 rfl
          have fR := oR.fr
          repeat' (first | go_values | go_skip | go_guarded | go_step | go_upon)
          refine bodyPost_ret (by simp [results, Try.results29, go_sem, lR, cR0, cR1, fR]; rfl) rfl ?_
          show G3 w _ _ _
          rw [H0.out, H.out]
          exact ⟨rfl, B⟩
        · have H : Hid (divQ (a) (b) (c) (d) = md (dn (a * 1099511627776) (d)) (upq (b * 1099511627776) (c))) := by show divQ (a) (b) (c) (d) = _; rw [divQ_one (by omega) (by omega), if_neg (by omega), if_pos (by omega)]
          refine Reg.wp_chain (fun D v W => Below w.heap.size w W ∧ Blk W (w.heap.size) 23 #[.int .i64 (a), .int .i64 (b)] ∧ Blk W (w.heap.size + 1) 23 #[.int .i64 (c), .int .i64 (d)] ∧ Blk W (w.heap.size + 1 + 1) 23 #[.int .i64 (0), .int .i64 (0)])
            (Reg.inl []) (Reg.ge []) Reg.None_ (fun _ => Reg.Any) (fun _ _ => False) (Reg.pl []) (Reg.pl [])
            (by kernel_rfl) (by kernel_rfl) (by kernel_rfl) (Reg.ge_some _) (fun v => ?_) (fun _ _ _ _ _ h => h) (fun _ _ _ _ _ _ _ _ _ _ _ _ _ => Reg.none_) (fun _ _ _ _ h => h.elim) (fun ops' Q' hops hQ => ?_)
          · exact ⟨(by first | with_reducible exact Below.drew B | with_reducible exact Below.drew (belowN B _) | (repeat' first | with_reducible assumption | with_reducible exact Below.refl _ _ | with_reducible refine Below.alloc ?_ ?_ _ | with_reducible refine Below.drew ?_ | with_reducible refine belowN ?_ _ | with_reducible refine Below.setCell ?_ ?_ _ | go_size)), (show Blk _ _ _ #[.int .i64 (a), .int .i64 (b)] from (by first | with_reducible exact oA | (repeat' first | with_reducible assumption | (with_reducible refine Blk.new' ?_; first | with_reducible rfl | (simp only [World.size_alloc, World.size_setCell, World.size_drew]; done)) | with_reducible refine Blk.alloc ?_ _ | with_reducible refine Blk.drew ?_ | with_reducible refine Blk.drewN ?_ _ | with_reducible apply Blk.both | with_reducible refine Blk.far' ?_ ?_ | (show _ ≠ _; omega)))), (show Blk _ _ _ #[.int .i64 (c), .int .i64 (d)] from (by first | with_reducible exact oB | (repeat' first | with_reducible assumption | (with_reducible refine Blk.new' ?_; first | with_reducible rfl | (simp only [World.size_alloc, World.size_setCell, World.size_drew]; done)) | with_reducible refine Blk.alloc ?_ _ | with_reducible refine Blk.drew ?_ | with_reducible refine Blk.drewN ?_ _ | with_reducible apply Blk.both | with_reducible refine Blk.far' ?_ ?_ | (show _ ≠ _; omega)))), (show Blk _ _ _ #[.int .i64 (0), .int .i64 (0)] from (by first | with_reducible exact oR | (repeat' first | with_reducible assumption | (with_reducible refine Blk.new' ?_; first | with_reducible rfl | (simp only [World.size_alloc, World.size_setCell, World.size_drew]; done)) | with_reducible refine Blk.alloc ?_ _ | with_reducible refine Blk.drew ?_ | with_reducible refine Blk.drewN ?_ _ | with_reducible apply Blk.both | with_reducible refine Blk.far' ?_ ?_ | (show _ ≠ _; omega))))⟩
          clear B oA oB oR
          apply Reg.RC_pure (hc := rfl) (hst := rfl) (hw := rfl) (t := 42) (hd := rfl) (ht := Nat.le_of_ble_eq_true rfl)
          · intro D v W hc hj hf K hK
            go_step
            exact hK.out
          · rfl
          apply Reg.RC_pure (hc := rfl) (hst := rfl) (hw := rfl) (t := 43) (hd := rfl) (ht := Nat.le_of_ble_eq_true rfl)
          · intro D v W hc hj hf K hK
            obtain ⟨B, oA, oB, oR⟩ := hj
            have cB0 : World.cell? W ⟨w.heap.size + 1, 0, none⟩ = some (.int .i64 (c)) := oB.c 0 rfl
            have cB1 : World.cell? W ⟨w.heap.size + 1, 1, none⟩ = some (.int .i64 (d)) := oB.c 1 rfl
            go_step
            exact hK.out
          · rfl
          apply Reg.RC_pure (hc := rfl) (hst := rfl) (hw := rfl) (t := 44) (hd := rfl) (ht := Nat.le_of_ble_eq_true rfl)
          · intro D v W hc hj hf K hK
            go_step
            exact hK.out
          · rfl
          apply Reg.RC_pure (hc := rfl) (hst := rfl) (hw := rfl) (t := 45) (hd := rfl) (ht := Nat.le_of_ble_eq_true rfl)
          · intro D v W hc hj hf K hK
            go_step
            exact hK.out
          · rfl
          apply Reg.RC_pure (hc := rfl) (hst := rfl) (hw := rfl) (t := 46) (hd := rfl) (ht := Nat.le_of_ble_eq_true rfl)
          · intro D v W hc hj hf K hK
            obtain ⟨B, oA, oB, oR⟩ := hj
            have cB0 : World.cell? W ⟨w.heap.size + 1, 0, none⟩ = some (.int .i64 (c)) := oB.c 0 rfl
            have cB1 : World.cell? W ⟨w.heap.size + 1, 1, none⟩ = some (.int .i64 (d)) := oB.c 1 rfl
            go_step
            exact hK.out
          · rfl
          apply Reg.RC_pure (hc := rfl) (hst := rfl) (hw := rfl) (t := 47) (hd := rfl) (ht := Nat.le_of_ble_eq_true rfl)
          · intro D v W hc hj hf K hK
            go_step
            exact hK.out
          · rfl
          apply Reg.RC_pure (hc := rfl) (hst := rfl) (hw := rfl) (t := 6) (hd := rfl) (ht := Nat.le_of_ble_eq_true rfl)
          · intro D v W hc hj hf K hK
            go_step
            exact hK.out
          · rfl
          apply Reg.RC_pure (hc := rfl) (hst := rfl) (hw := rfl) (t := 7) (hd := rfl) (ht := Nat.le_of_ble_eq_true rfl)
          · intro D v W hc hj hf K hK
            go_step
            exact hK.out
          · rfl
          refine Reg.RC_end (fun D v W hd hj hf => ?_)
          obtain ⟨B, oA, oB, oR⟩ := hj
          clear hd hf
          refine hQ _ _ ?_
          clear hQ hops Q' ops'
          have lA := oA.lt
          have fA := oA.fr
          have cA0 := oA.c 0 rfl
          have cA1 := oA.c 1 rfl
          have lB := oB.lt
          have fB := oB.fr
          have cB0 := oB.c 0 rfl
          have cB1 := oB.c 1 rfl
          go_wp2_with fail
          clear lA fA cA0 cA1 lB fB cB0 cB1
          refine Reg.wp_chain (fun D v W => Below w.heap.size w W ∧ Blk W (w.heap.size) 23 #[.int .i64 (a), .int .i64 (b)] ∧ Blk W (w.heap.size + 1) 23 #[.int .i64 (c), .int .i64 (d)] ∧ Blk W (w.heap.size + 1 + 1) 23 #[Reg.sel (D 13) (.int .i64 (0)) (.int .i64 ((md (dn (a * 1099511627776) (d)) (upq (b * 1099511627776) (c))).1)), Reg.sel (D 13) (.int .i64 (0)) (.int .i64 ((md (dn (a * 1099511627776) (d)) (upq (b * 1099511627776) (c))).2.1))])
            (Reg.inl [2, 4, 7, 9, 10, 13]) (Reg.ge [(2, .agg #[.bool (negB (a * 1099511627776)), .int .u64 (aHi (a * 1099511627776)), .int .u64 (aLo (a * 1099511627776))]), (4, .int .i64 (dn (a * 1099511627776) (d))), (7, .agg #[.bool (negB (b * 1099511627776)), .int .u64 (aHi (b * 1099511627776)), .int .u64 (aLo (b * 1099511627776))]), (9, .int .i64 (upq (b * 1099511627776) (c))), (10, .tuple #[.agg #[.int .i64 ((md (dn (a * 1099511627776) (d)) (upq (b * 1099511627776) (c))).1), .int .i64 ((md (dn (a * 1099511627776) (d)) (upq (b * 1099511627776) (c))).2.1)], .int .i64 ((md (dn (a * 1099511627776) (d)) (upq (b * 1099511627776) (c))).2.2)])]) Reg.None_ (fun _ => Reg.Any) (fun _ _ => False) (Reg.pl []) (Reg.pl [])
            (by kernel_rfl) (by kernel_rfl) (by kernel_rfl) (Reg.ge_some _) (fun v => ?_) (fun _ _ _ _ _ h => h) (fun _ _ _ _ _ _ _ _ _ _ _ _ _ => Reg.none_) (fun _ _ _ _ h => h.elim) (fun ops' Q' hops hQ => ?_)
          · exact ⟨(by first | with_reducible exact Below.drew B | with_reducible exact Below.drew (belowN B _) | (repeat' first | with_reducible assumption | with_reducible exact Below.refl _ _ | with_reducible refine Below.alloc ?_ ?_ _ | with_reducible refine Below.drew ?_ | with_reducible refine belowN ?_ _ | with_reducible refine Below.setCell ?_ ?_ _ | go_size)), (show Blk _ _ _ #[.int .i64 (a), .int .i64 (b)] from (by first | with_reducible exact oA | (repeat' first | with_reducible assumption | (with_reducible refine Blk.new' ?_; first | with_reducible rfl | (simp only [World.size_alloc, World.size_setCell, World.size_drew]; done)) | with_reducible refine Blk.alloc ?_ _ | with_reducible refine Blk.drew ?_ | with_reducible refine Blk.drewN ?_ _ | with_reducible apply Blk.both | with_reducible refine Blk.far' ?_ ?_ | (show _ ≠ _; omega)))), (show Blk _ _ _ #[.int .i64 (c), .int .i64 (d)] from (by first | with_reducible exact oB | (repeat' first | with_reducible assumption | (with_reducible refine Blk.new' ?_; first | with_reducible rfl | (simp only [World.size_alloc, World.size_setCell, World.size_drew]; done)) | with_reducible refine Blk.alloc ?_ _ | with_reducible refine Blk.drew ?_ | with_reducible refine Blk.drewN ?_ _ | with_reducible apply Blk.both | with_reducible refine Blk.far' ?_ ?_ | (show _ ≠ _; omega)))), (show Blk _ _ _ #[.int .i64 (0), .int .i64 (0)] from (by first | with_reducible exact oR | (repeat' first | with_reducible assumption | (with_reducible refine Blk.new' ?_; first | with_reducible rfl | (simp only [World.size_alloc, World.size_setCell, World.size_drew]; done)) | with_reducible refine Blk.alloc ?_ _ | with_reducible refine Blk.drew ?_ | with_reducible refine Blk.drewN ?_ _ | with_reducible apply Blk.both | with_reducible refine Blk.far' ?_ ?_ | (show _ ≠ _; omega))))⟩
          clear B oA oB oR
          apply Reg.RC_pure (hc := rfl) (hst := rfl) (hw := rfl) (t := 60) (hd := rfl) (ht := Nat.le_of_ble_eq_true rfl)
          · intro D v W hc hj hf K hK
            go_step
            exact hK.out
          · rfl
          apply Reg.RC_pure (hc := rfl) (hst := rfl) (hw := rfl) (t := 61) (hd := rfl) (ht := Nat.le_of_ble_eq_true rfl)
          · intro D v W hc hj hf K hK
            obtain ⟨B, oA, oB, oR⟩ := hj
            have cA0 : World.cell? W ⟨w.heap.size, 0, none⟩ = some (.int .i64 (a)) := oA.c 0 rfl
            have cA1 : World.cell? W ⟨w.heap.size, 1, none⟩ = some (.int .i64 (b)) := oA.c 1 rfl
            go_step
            exact hK.out
          · rfl
          refine Reg.RC_exact _ (fun _ h => h) rfl (by intro t ht; cases ht; exact Nat.le_of_ble_eq_true rfl) rfl (fun D v W hc hj hf K hK => ?_) (Reg.RC_at (b := ⟨#[_, _, _, _, _, _, _, _, _, _, _, _, _, _, _, _, _, _, _, _, _, _, _, _, _, _, _, _, _, _, _, _, _, _, _, _, _, _, _, _, _, _, _, _, _, _, _, _, _, _, _, _, _, _, _, _, _, _, _, _, _, _, _, _, _, _, _, _, _, _, _, _, _], []⟩) rfl ?_)
          · obtain ⟨B, oA, oB, oR⟩ := hj
            go_step
            refine (rtimes_b _ _ _ (by omega) (by omega) (by omega) (by omega)).mono ?_
            rintro e W' ⟨rfl, hb⟩
            have st : Steps W W' := hb
            exact hK.out _ _ Reg.any ⟨below_steps B (Nat.le_refl _) st, oA.steps st, oB.steps st, oR.steps st⟩ Reg.none_ rfl
          apply Reg.RC_pure (hc := rfl) (hst := rfl) (hw := rfl) (t := 63) (hd := rfl) (ht := Nat.le_of_ble_eq_true rfl)
          · intro D v W hc hj hf K hK
            go_step
            exact hK.out
          · rfl
          refine Reg.RC_exact _ (fun _ h => h) rfl (by intro t ht; cases ht; exact Nat.le_of_ble_eq_true rfl) rfl (fun D v W hc hj hf K hK => ?_) (Reg.RC_at (b := ⟨#[_, _, _, _, _, _, _, _, _, _, _, _, _, _, _, _, _, _, _, _, _, _, _, _, _, _, _, _, _, _, _, _, _, _, _, _, _, _, _, _, _, _, _, _, _, _, _, _, _, _, _, _, _, _, _, _, _, _, _, _, _, _, _, _, _, _, _, _, _, _, _, _, _], []⟩) rfl ?_)
          · obtain ⟨B, oA, oB, oR⟩ := hj
            go_step
            refine (rover_dn _ _ _ (by omega) (by omega) (by omega) (by omega)).mono ?_
            rintro e W' ⟨rfl, hb⟩
            have st : Steps W W' := hb
            exact hK.out _ _ Reg.any ⟨below_steps B (Nat.le_refl _) st, oA.steps st, oB.steps st, oR.steps st⟩ Reg.none_ rfl
          apply Reg.RC_pure (hc := rfl) (hst := rfl) (hw := rfl) (t := 65) (hd := rfl) (ht := Nat.le_of_ble_eq_true rfl)
          · intro D v W hc hj hf K hK
            go_step
            exact hK.out
          · rfl
          apply Reg.RC_pure (hc := rfl) (hst := rfl) (hw := rfl) (t := 66) (hd := rfl) (ht := Nat.le_of_ble_eq_true rfl)
          · intro D v W hc hj hf K hK
            obtain ⟨B, oA, oB, oR⟩ := hj
            have cA0 : World.cell? W ⟨w.heap.size, 0, none⟩ = some (.int .i64 (a)) := oA.c 0 rfl
            have cA1 : World.cell? W ⟨w.heap.size, 1, none⟩ = some (.int .i64 (b)) := oA.c 1 rfl
            go_step
            exact hK.out
          · rfl
          refine Reg.RC_exact _ (fun _ h => h) rfl (by intro t ht; cases ht; exact Nat.le_of_ble_eq_true rfl) rfl (fun D v W hc hj hf K hK => ?_) (Reg.RC_at (b := ⟨#[_, _, _, _, _, _, _, _, _, _, _, _, _, _, _, _, _, _, _, _, _, _, _, _, _, _, _, _, _, _, _, _, _, _, _, _, _, _, _, _, _, _, _, _, _, _, _, _, _, _, _, _, _, _, _, _, _, _, _, _, _, _, _, _, _, _, _, _, _, _, _, _, _], []⟩) rfl ?_)
          · obtain ⟨B, oA, oB, oR⟩ := hj
            go_step
            refine (rtimes_b _ _ _ (by omega) (by omega) (by omega) (by omega)).mono ?_
            rintro e W' ⟨rfl, hb⟩
            have st : Steps W W' := hb
            exact hK.out _ _ Reg.any ⟨below_steps B (Nat.le_refl _) st, oA.steps st, oB.steps st, oR.steps st⟩ Reg.none_ rfl
          apply Reg.RC_pure (hc := rfl) (hst := rfl) (hw := rfl) (t := 68) (hd := rfl) (ht := Nat.le_of_ble_eq_true rfl)
          · intro D v W hc hj hf K hK
            go_step
            exact hK.out
          · rfl
          refine Reg.RC_exact _ (fun _ h => h) rfl (by intro t ht; cases ht; exact Nat.le_of_ble_eq_true rfl) rfl (fun D v W hc hj hf K hK => ?_) (Reg.RC_at (b := ⟨#[_, _, _, _, _, _, _, _, _, _, _, _, _, _, _, _, _, _, _, _, _, _, _, _, _, _, _, _, _, _, _, _, _, _, _, _, _, _, _, _, _, _, _, _, _, _, _, _, _, _, _, _, _, _, _, _, _, _, _, _, _, _, _, _, _, _, _, _, _, _, _, _, _], []⟩) rfl ?_)
          · obtain ⟨B, oA, oB, oR⟩ := hj
            go_step
            refine (rover_up _ _ _ (by omega) (by omega) (by omega) (by omega)).mono ?_
            rintro e W' ⟨rfl, hb⟩
            have st : Steps W W' := hb
            exact hK.out _ _ Reg.any ⟨below_steps B (Nat.le_refl _) st, oA.steps st, oB.steps st, oR.steps st⟩ Reg.none_ rfl
          refine Reg.RC_exact _ (fun _ h => h) rfl (by intro t ht; cases ht; exact Nat.le_of_ble_eq_true rfl) rfl (fun D v W hc hj hf K hK => ?_) (Reg.RC_at (b := ⟨#[_, _, _, _, _, _, _, _, _, _, _, _, _, _, _, _, _, _, _, _, _, _, _, _, _, _, _, _, _, _, _, _, _, _, _, _, _, _, _, _, _, _, _, _, _, _, _, _, _, _, _, _, _, _, _, _, _, _, _, _, _, _, _, _, _, _, _, _, _, _, _, _, _], []⟩) rfl ?_)
          · obtain ⟨B, oA, oB, oR⟩ := hj
            go_step
            refine (rmade _ _ _).mono ?_
            rintro e W' ⟨rfl, hb⟩
            have st : Steps W W' := hb
            exact hK.out _ _ Reg.any ⟨below_steps B (Nat.le_refl _) st, oA.steps st, oB.steps st, oR.steps st⟩ Reg.none_ rfl
          apply Reg.RC_pure (hc := rfl) (hst := rfl) (hw := rfl) (t := 71) (hd := rfl) (ht := Nat.le_of_ble_eq_true rfl)
          · intro D v W hc hj hf K hK
            go_step
            exact hK.out
          · rfl
          apply Reg.RC_pure (hc := rfl) (hst := rfl) (hw := rfl) (t := 72) (hd := rfl) (ht := Nat.le_of_ble_eq_true rfl)
          · intro D v W hc hj hf K hK
            go_step
            exact hK.out
          · rfl
          refine Reg.RC_call rfl (by intro t ht; cases ht) rfl (fun D v W hc hj hf K hK => ?_) (fun _ _ => Reg.RC_at (b := ⟨_, []⟩) rfl ?_)
          · obtain ⟨B, oA, oB, oR⟩ := hj
            have hs : D 13 = false := hc.1
            have oR : Blk W (w.heap.size + 1 + 1) 23 #[.int .i64 (0), .int .i64 (0)] := by have o := oR; simp only [hs, Reg.sel_false] at o; exact o
            have lR := oR.lt
            have fR := oR.fr
            have cR0 : World.cell? W ⟨w.heap.size + 1 + 1, 0, none⟩ = some (.int .i64 (0)) := oR.c 0 rfl
            have cR1 : World.cell? W ⟨w.heap.size + 1 + 1, 1, none⟩ = some (.int .i64 (0)) := oR.c 1 rfl
            go_step
            exact hK.out undef _ Reg.any ⟨(by (repeat' first | with_reducible assumption | with_reducible exact Below.refl _ _ | with_reducible refine Below.alloc ?_ ?_ _ | with_reducible refine Below.drew ?_ | with_reducible refine belowN ?_ _ | with_reducible refine Below.setCell ?_ ?_ _ | go_size)), (show Blk _ _ _ #[.int .i64 (a), .int .i64 (b)] from (by (repeat' first | with_reducible assumption | (with_reducible refine Blk.new' ?_; first | with_reducible rfl | (simp only [World.size_alloc, World.size_setCell, World.size_drew]; done)) | with_reducible refine Blk.alloc ?_ _ | with_reducible refine Blk.drew ?_ | with_reducible refine Blk.drewN ?_ _ | with_reducible apply Blk.both | with_reducible refine Blk.far' ?_ ?_ | (show _ ≠ _; omega)))), (show Blk _ _ _ #[.int .i64 (c), .int .i64 (d)] from (by (repeat' first | with_reducible assumption | (with_reducible refine Blk.new' ?_; first | with_reducible rfl | (simp only [World.size_alloc, World.size_setCell, World.size_drew]; done)) | with_reducible refine Blk.alloc ?_ _ | with_reducible refine Blk.drew ?_ | with_reducible refine Blk.drewN ?_ _ | with_reducible apply Blk.both | with_reducible refine Blk.far' ?_ ?_ | (show _ ≠ _; omega)))), (show Blk _ _ _ #[.int .i64 ((md (dn (a * 1099511627776) (d)) (upq (b * 1099511627776) (c))).1), .int .i64 ((md (dn (a * 1099511627776) (d)) (upq (b * 1099511627776) (c))).2.1)] from (Blk.set2 (cs' := #[.int .i64 ((md (dn (a * 1099511627776) (d)) (upq (b * 1099511627776) (c))).1), .int .i64 ((md (dn (a * 1099511627776) (d)) (upq (b * 1099511627776) (c))).2.1)]) (Blk.set2 (cs' := #[.int .i64 ((md (dn (a * 1099511627776) (d)) (upq (b * 1099511627776) (c))).1), .int .i64 (0)]) oR (i := 0) rfl) (i := 1) rfl))⟩ Reg.none_ trivial
          apply Reg.RC_pure (hc := rfl) (hst := rfl) (hw := rfl) (t := 5) (hd := rfl) (ht := Nat.le_of_ble_eq_true rfl)
          · intro D v W hc hj hf K hK
            go_step
            exact hK.out
          · rfl
          refine Reg.RC_end (fun D v W hd hj hf => ?_)
          obtain ⟨B, oA, oB, oR⟩ := hj
          have e13 : D 13 = true := hd 13 (by decide)
          have oR : Blk W (w.heap.size + 1 + 1) 23 #[.int .i64 ((md (dn (a * 1099511627776) (d)) (upq (b * 1099511627776) (c))).1), .int .i64 ((md (dn (a * 1099511627776) (d)) (upq (b * 1099511627776) (c))).2.1)] := by have o := oR; simp only [e13, Reg.sel_true] at o; exact o
          clear e13
          clear hd hf
          refine hQ _ _ ?_
          clear hQ hops Q' ops'
          have lR := oR.lt
          have cR0 := oR.c 0 rfl
          have cR1 := oR.c 1 rfl
          have fR := oR.fr
          repeat' (first | go_values | go_skip | go_guarded | go_step | go_upon)
          refine bodyPost_ret (by simp [results, Try.results29, go_sem, lR, cR0, cR1, fR]; rfl) rfl ?_
          show G3 w _ _ _
          rw [H0.out, H.out]
          exact ⟨rfl, B⟩
        · have H : Hid (divQ (a) (b) (c) (d) = md (dn (a * 1099511627776) (d)) (upq (b * 1099511627776) (d))) := by show divQ (a) (b) (c) (d) = _; rw [divQ_one (by omega) (by omega), if_neg (by omega), if_neg (by omega)]
          refine Reg.wp_chain (fun D v W => Below w.heap.size w W ∧ Blk W (w.heap.size) 23 #[.int .i64 (a), .int .i64 (b)] ∧ Blk W (w.heap.size + 1) 23 #[.int .i64 (c), .int .i64 (d)] ∧ Blk W (w.heap.size + 1 + 1) 23 #[.int .i64 (0), .int .i64 (0)])
            (Reg.inl []) (Reg.ge []) Reg.None_ (fun _ => Reg.Any) (fun _ _ => False) (Reg.pl []) (Reg.pl [])
            (by kernel_rfl) (by kernel_rfl) (by kernel_rfl) (Reg.ge_some _) (fun v => ?_) (fun _ _ _ _ _ h => h) (fun _ _ _ _ _ _ _ _ _ _ _ _ _ => Reg.none_) (fun _ _ _ _ h => h.elim) (fun ops' Q' hops hQ => ?_)
          · exact ⟨(by first | with_reducible exact Below.drew B | with_reducible exact Below.drew (belowN B _) | (repeat' first | with_reducible assumption | with_reducible exact Below.refl _ _ | with_reducible refine Below.alloc ?_ ?_ _ | with_reducible refine Below.drew ?_ | with_reducible refine belowN ?_ _ | with_reducible refine Below.setCell ?_ ?_ _ | go_size)), (show Blk _ _ _ #[.int .i64 (a), .int .i64 (b)] from (by first | with_reducible exact oA | (repeat' first | with_reducible assumption | (with_reducible refine Blk.new' ?_; first | with_reducible rfl | (simp only [World.size_alloc, World.size_setCell, World.size_drew]; done)) | with_reducible refine Blk.alloc ?_ _ | with_reducible refine Blk.drew ?_ | with_reducible refine Blk.drewN ?_ _ | with_reducible apply Blk.both | with_reducible refine Blk.far' ?_ ?_ | (show _ ≠ _; omega)))), (show Blk _ _ _ #[.int .i64 (c), .int .i64 (d)] from (by first | with_reducible exact oB | (repeat' first | with_reducible assumption | (with_reducible refine Blk.new' ?_; first | with_reducible rfl | (simp only [World.size_alloc, World.size_setCell, World.size_drew]; done)) | with_reducible refine Blk.alloc ?_ _ | with_reducible refine Blk.drew ?_ | with_reducible refine Blk.drewN ?_ _ | with_reducible apply Blk.both | with_reducible refine Blk.far' ?_ ?_ | (show _ ≠ _; omega)))), (show Blk _ _ _ #[.int .i64 (0), .int .i64 (0)] from (by first | with_reducible exact oR | (repeat' first | with_reducible assumption | (with_reducible refine Blk.new' ?_; first | with_reducible rfl | (simp only [World.size_alloc, World.size_setCell, World.size_drew]; done)) | with_reducible refine Blk.alloc ?_ _ | with_reducible refine Blk.drew ?_ | with_reducible refine Blk.drewN ?_ _ | with_reducible apply Blk.both | with_reducible refine Blk.far' ?_ ?_ | (show _ ≠ _; omega))))⟩
          clear B oA oB oR
          apply Reg.RC_pure (hc := rfl) (hst := rfl) (hw := rfl) (t := 42) (hd := rfl) (ht := Nat.le_of_ble_eq_true rfl)
          · intro D v W hc hj hf K hK
            go_step
            exact hK.out
          · rfl
          apply Reg.RC_pure (hc := rfl) (hst := rfl) (hw := rfl) (t := 43) (hd := rfl) (ht := Nat.le_of_ble_eq_true rfl)
          · intro D v W hc hj hf K hK
            obtain ⟨B, oA, oB, oR⟩ := hj
            have cB0 : World.cell? W ⟨w.heap.size + 1, 0, none⟩ = some (.int .i64 (c)) := oB.c 0 rfl
            have cB1 : World.cell? W ⟨w.heap.size + 1, 1, none⟩ = some (.int .i64 (d)) := oB.c 1 rfl
            go_step
            exact hK.out
          · rfl
          apply Reg.RC_pure (hc := rfl) (hst := rfl) (hw := rfl) (t := 44) (hd := rfl) (ht := Nat.le_of_ble_eq_true rfl)
          · intro D v W hc hj hf K hK
            go_step
            exact hK.out
          · rfl
          apply Reg.RC_pure (hc := rfl) (hst := rfl) (hw := rfl) (t := 45) (hd := rfl) (ht := Nat.le_of_ble_eq_true rfl)
          · intro D v W hc hj hf K hK
            go_step
            exact hK.out
          · rfl
          apply Reg.RC_pure (hc := rfl) (hst := rfl) (hw := rfl) (t := 46) (hd := rfl) (ht := Nat.le_of_ble_eq_true rfl)
          · intro D v W hc hj hf K hK
            obtain ⟨B, oA, oB, oR⟩ := hj
            have cB0 : World.cell? W ⟨w.heap.size + 1, 0, none⟩ = some (.int .i64 (c)) := oB.c 0 rfl
            have cB1 : World.cell? W ⟨w.heap.size + 1, 1, none⟩ = some (.int .i64 (d)) := oB.c 1 rfl
            go_step
            exact hK.out
          · rfl
          apply Reg.RC_pure (hc := rfl) (hst := rfl) (hw := rfl) (t := 47) (hd := rfl) (ht := Nat.le_of_ble_eq_true rfl)
          · intro D v W hc hj hf K hK
            go_step
            exact hK.out
          · rfl
          apply Reg.RC_pure (hc := rfl) (hst := rfl) (hw := rfl) (t := 6) (hd := rfl) (ht := Nat.le_of_ble_eq_true rfl)
          · intro D v W hc hj hf K hK
            go_step
            exact hK.out
          · rfl
          apply Reg.RC_pure (hc := rfl) (hst := rfl) (hw := rfl) (t := 7) (hd := rfl) (ht := Nat.le_of_ble_eq_true rfl)
          · intro D v W hc hj hf K hK
            go_step
            exact hK.out
          · rfl
          refine Reg.RC_end (fun D v W hd hj hf => ?_)
          obtain ⟨B, oA, oB, oR⟩ := hj
          clear hd hf
          refine hQ _ _ ?_
          clear hQ hops Q' ops'
          have lA := oA.lt
          have fA := oA.fr
          have cA0 := oA.c 0 rfl
          have cA1 := oA.c 1 rfl
          have lB := oB.lt
          have fB := oB.fr
          have cB0 := oB.c 0 rfl
          have cB1 := oB.c 1 rfl
          go_wp2_with fail
          clear lA fA cA0 cA1 lB fB cB0 cB1
          refine Reg.wp_chain (fun D v W => Below w.heap.size w W ∧ Blk W (w.heap.size) 23 #[.int .i64 (a), .int .i64 (b)] ∧ Blk W (w.heap.size + 1) 23 #[.int .i64 (c), .int .i64 (d)] ∧ Blk W (w.heap.size + 1 + 1) 23 #[Reg.sel (D 13) (.int .i64 (0)) (.int .i64 ((md (dn (a * 1099511627776) (d)) (upq (b * 1099511627776) (d))).1)), Reg.sel (D 13) (.int .i64 (0)) (.int .i64 ((md (dn (a * 1099511627776) (d)) (upq (b * 1099511627776) (d))).2.1))])
            (Reg.inl [2, 4, 7, 9, 10, 13]) (Reg.ge [(2, .agg #[.bool (negB (a * 1099511627776)), .int .u64 (aHi (a * 1099511627776)), .int .u64 (aLo (a * 1099511627776))]), (4, .int .i64 (dn (a * 1099511627776) (d))), (7, .agg #[.bool (negB (b * 1099511627776)), .int .u64 (aHi (b * 1099511627776)), .int .u64 (aLo (b * 1099511627776))]), (9, .int .i64 (upq (b * 1099511627776) (d))), (10, .tuple #[.agg #[.int .i64 ((md (dn (a * 1099511627776) (d)) (upq (b * 1099511627776) (d))).1), .int .i64 ((md (dn (a * 1099511627776) (d)) (upq (b * 1099511627776) (d))).2.1)], .int .i64 ((md (dn (a * 1099511627776) (d)) (upq (b * 1099511627776) (d))).2.2)])]) Reg.None_ (fun _ => Reg.Any) (fun _ _ => False) (Reg.pl []) (Reg.pl [])
            (by kernel_rfl) (by kernel_rfl) (by kernel_rfl) (Reg.ge_some _) (fun v => ?_) (fun _ _ _ _ _ h => h) (fun _ _ _ _ _ _ _ _ _ _ _ _ _ => Reg.none_) (fun _ _ _ _ h => h.elim) (fun ops' Q' hops hQ => ?_)
          · exact ⟨(by first | with_reducible exact Below.drew B | with_reducible exact Below.drew (belowN B _) | (repeat' first | with_reducible assumption | with_reducible exact Below.refl _ _ | with_reducible refine Below.alloc ?_ ?_ _ | with_reducible refine Below.drew ?_ | with_reducible refine belowN ?_ _ | with_reducible refine Below.setCell ?_ ?_ _ | go_size)), (show Blk _ _ _ #[.int .i64 (a), .int .i64 (b)] from (by first | with_reducible exact oA | (repeat' first | with_reducible assumption | (with_reducible refine Blk.new' ?_; first | with_reducible rfl | (simp only [World.size_alloc, World.size_setCell, World.size_drew]; done)) | with_reducible refine Blk.alloc ?_ _ | with_reducible refine Blk.drew ?_ | with_reducible refine Blk.drewN ?_ _ | with_reducible apply Blk.both | with_reducible refine Blk.far' ?_ ?_ | (show _ ≠ _; omega)))), (show Blk _ _ _ #[.int .i64 (c), .int .i64 (d)] from (by first | with_reducible exact oB | (repeat' first | with_reducible assumption | (with_reducible refine Blk.new' ?_; first | with_reducible rfl | (simp only [World.size_alloc, World.size_setCell, World.size_drew]; done)) | with_reducible refine Blk.alloc ?_ _ | with_reducible refine Blk.drew ?_ | with_reducible refine Blk.drewN ?_ _ | with_reducible apply Blk.both | with_reducible refine Blk.far' ?_ ?_ | (show _ ≠ _; omega)))), (show Blk _ _ _ #[.int .i64 (0), .int .i64 (0)] from (by first | with_reducible exact oR | (repeat' first | with_reducible assumption | (with_reducible refine Blk.new' ?_; first | with_reducible rfl | (simp only [World.size_alloc, World.size_setCell, World.size_drew]; done)) | with_reducible refine Blk.alloc ?_ _ | with_reducible refine Blk.drew ?_ | with_reducible refine Blk.drewN ?_ _ | with_reducible apply Blk.both | with_reducible refine Blk.far' ?_ ?_ | (show _ ≠ _; omega))))⟩
          clear B oA oB oR
          apply Reg.RC_pure (hc := rfl) (hst := rfl) (hw := rfl) (t := 60) (hd := rfl) (ht := Nat.le_of_ble_eq_true rfl)
          · intro D v W hc hj hf K hK
            go_step
            exact hK.out
          · rfl
          apply Reg.RC_pure (hc := rfl) (hst := rfl) (hw := rfl) (t := 61) (hd := rfl) (ht := Nat.le_of_ble_eq_true rfl)
          · intro D v W hc hj hf K hK
            obtain ⟨B, oA, oB, oR⟩ := hj
            have cA0 : World.cell? W ⟨w.heap.size, 0, none⟩ = some (.int .i64 (a)) := oA.c 0 rfl
            have cA1 : World.cell? W ⟨w.heap.size, 1, none⟩ = some (.int .i64 (b)) := oA.c 1 rfl
            go_step
            exact hK.out
          · rfl
          refine Reg.RC_exact _ (fun _ h => h) rfl (by intro t ht; cases ht; exact Nat.le_of_ble_eq_true rfl) rfl (fun D v W hc hj hf K hK => ?_) (Reg.RC_at (b := ⟨#[_, _, _, _, _, _, _, _, _, _, _, _, _, _, _, _, _, _, _, _, _, _, _, _, _, _, _, _, _, _, _, _, _, _, _, _, _, _, _, _, _, _, _, _, _, _, _, _, _, _, _, _, _, _, _, _, _, _, _, _, _, _, _, _, _, _, _, _, _, _, _, _, _], []⟩) rfl ?_)
          · obtain ⟨B, oA, oB, oR⟩ := hj
            go_step
            refine (rtimes_b _ _ _ (by omega) (by omega) (by omega) (by omega)).mono ?_
            rintro e W' ⟨rfl, hb⟩
            have st : Steps W W' := hb
            exact hK.out _ _ Reg.any ⟨below_steps B (Nat.le_refl _) st, oA.steps st, oB.steps st, oR.steps st⟩ Reg.none_ rfl
          apply Reg.RC_pure (hc := rfl) (hst := rfl) (hw := rfl) (t := 63) (hd := rfl) (ht := Nat.le_of_ble_eq_true rfl)
          · intro D v W hc hj hf K hK
            go_step
            exact hK.out
          · rfl
          refine Reg.RC_exact _ (fun _ h => h) rfl (by intro t ht; cases ht; exact Nat.le_of_ble_eq_true rfl) rfl (fun D v W hc hj hf K hK => ?_) (Reg.RC_at (b := ⟨#[_, _, _, _, _, _, _, _, _, _, _, _, _, _, _, _, _, _, _, _, _, _, _, _, _, _, _, _, _, _, _, _, _, _, _, _, _, _, _, _, _, _, _, _, _, _, _, _, _, _, _, _, _, _, _, _, _, _, _, _, _, _, _, _, _, _, _, _, _, _, _, _, _], []⟩) rfl ?_)
          · obtain ⟨B, oA, oB, oR⟩ := hj
            go_step
            refine (rover_dn _ _ _ (by omega) (by omega) (by omega) (by omega)).mono ?_
            rintro e W' ⟨rfl, hb⟩
            have st : Steps W W' := hb
            exact hK.out _ _ Reg.any ⟨below_steps B (Nat.le_refl _) st, oA.steps st, oB.steps st, oR.steps st⟩ Reg.none_ rfl
          apply Reg.RC_pure (hc := rfl) (hst := rfl) (hw := rfl) (t := 65) (hd := rfl) (ht := Nat.le_of_ble_eq_true rfl)
          · intro D v W hc hj hf K hK
            go_step
            exact hK.out
          · rfl
          apply Reg.RC_pure (hc := rfl) (hst := rfl) (hw := rfl) (t := 66) (hd := rfl) (ht := Nat.le_of_ble_eq_true rfl)
          · intro D v W hc hj hf K hK
            obtain ⟨B, oA, oB, oR⟩ := hj
            have cA0 : World.cell? W ⟨w.heap.size, 0, none⟩ = some (.int .i64 (a)) := oA.c 0 rfl
            have cA1 : World.cell? W ⟨w.heap.size, 1, none⟩ = some (.int .i64 (b)) := oA.c 1 rfl
            go_step
            exact hK.out
          · rfl
          refine Reg.RC_exact _ (fun _ h => h) rfl (by intro t ht; cases ht; exact Nat.le_of_ble_eq_true rfl) rfl (fun D v W hc hj hf K hK => ?_) (Reg.RC_at (b := ⟨#[_, _, _, _, _, _, _, _, _, _, _, _, _, _, _, _, _, _, _, _, _, _, _, _, _, _, _, _, _, _, _, _, _, _, _, _, _, _, _, _, _, _, _, _, _, _, _, _, _, _, _, _, _, _, _, _, _, _, _, _, _, _, _, _, _, _, _, _, _, _, _, _, _], []⟩) rfl ?_)
          · obtain ⟨B, oA, oB, oR⟩ := hj
            go_step
            refine (rtimes_b _ _ _ (by omega) (by omega) (by omega) (by omega)).mono ?_
            rintro e W' ⟨rfl, hb⟩
            have st : Steps W W' := hb
            exact hK.out _ _ Reg.any ⟨below_steps B (Nat.le_refl _) st, oA.steps st, oB.steps st, oR.steps st⟩ Reg.none_ rfl
          apply Reg.RC_pure (hc := rfl) (hst := rfl) (hw := rfl) (t := 68) (hd := rfl) (ht := Nat.le_of_ble_eq_true rfl)
          · intro D v W hc hj hf K hK
            go_step
            exact hK.out
          · rfl
          refine Reg.RC_exact _ (fun _ h => h) rfl (by intro t ht; cases ht; exact Nat.le_of_ble_eq_true rfl) rfl (fun D v W hc hj hf K hK => ?_) (Reg.RC_at (b := ⟨#[_, _, _, _, _, _, _, _, _, _, _, _, _, _, _, _, _, _, _, _, _, _, _, _, _, _, _, _, _, _, _, _, _, _, _, _, _, _, _, _, _, _, _, _, _, _, _, _, _, _, _, _, _, _, _, _, _, _, _, _, _, _, _, _, _, _, _, _, _, _, _, _, _], []⟩) rfl ?_)
          · obtain ⟨B, oA, oB, oR⟩ := hj
            go_step
            refine (rover_up _ _ _ (by omega) (by omega) (by omega) (by omega)).mono ?_
            rintro e W' ⟨rfl, hb⟩
            have st : Steps W W' := hb
            exact hK.out _ _ Reg.any ⟨below_steps B (Nat.le_refl _) st, oA.steps st, oB.steps st, oR.steps st⟩ Reg.none_ rfl
          refine Reg.RC_exact _ (fun _ h => h) rfl (by intro t ht; cases ht; exact Nat.le_of_ble_eq_true rfl) rfl (fun D v W hc hj hf K hK => ?_) (Reg.RC_at (b := ⟨#[_, _, _, _, _, _, _, _, _, _, _, _, _, _, _, _, _, _, _, _, _, _, _, _, _, _, _, _, _, _, _, _, _, _, _, _, _, _, _, _, _, _, _, _, _, _, _, _, _, _, _, _, _, _, _, _, _, _, _, _, _, _, _, _, _, _, _, _, _, _, _, _, _], []⟩) rfl ?_)
          · obtain ⟨B, oA, oB, oR⟩ := hj
            go_step
            refine (rmade _ _ _).mono ?_
            rintro e W' ⟨rfl, hb⟩
            have st : Steps W W' := hb
            exact hK.out _ _ Reg.any ⟨below_steps B (Nat.le_refl _) st, oA.steps st, oB.steps st, oR.steps st⟩ Reg.none_ rfl
          apply Reg.RC_pure (hc := rfl) (hst := rfl) (hw := rfl) (t := 71) (hd := rfl) (ht := Nat.le_of_ble_eq_true rfl)
          · intro D v W hc hj hf K hK
            go_step
            exact hK.out
          · rfl
          apply Reg.RC_pure (hc := rfl) (hst := rfl) (hw := rfl) (t := 72) (hd := rfl) (ht := Nat.le_of_ble_eq_true rfl)
          · intro D v W hc hj hf K hK
            go_step
            exact hK.out
          · rfl
          refine Reg.RC_call rfl (by intro t ht; cases ht) rfl (fun D v W hc hj hf K hK => ?_) (fun _ _ => Reg.RC_at (b := ⟨_, []⟩) rfl ?_)
          · obtain ⟨B, oA, oB, oR⟩ := hj
            have hs : D 13 = false := hc.1
            have oR : Blk W (w.heap.size + 1 + 1) 23 #[.int .i64 (0), .int .i64 (0)] := by have o := oR; simp only [hs, Reg.sel_false] at o; exact o
            have lR := oR.lt
            have fR := oR.fr
            have cR0 : World.cell? W ⟨w.heap.size + 1 + 1, 0, none⟩ = some (.int .i64 (0)) := oR.c 0 rfl
            have cR1 : World.cell? W ⟨w.heap.size + 1 + 1, 1, none⟩ = some (.int .i64 (0)) := oR.c 1 rfl
            go_step
            exact hK.out undef _ Reg.any ⟨(by (repeat' first | with_reducible assumption | with_reducible exact Below.refl _ _ | with_reducible refine Below.alloc ?_ ?_ _ | with_reducible refine Below.drew ?_ | with_reducible refine belowN ?_ _ | with_reducible refine Below.setCell ?_ ?_ _ | go_size)), (show Blk _ _ _ #[.int .i64 (a), .int .i64 (b)] from (by (repeat' first | with_reducible assumption | (with_reducible refine Blk.new' ?_; first | with_reducible rfl | (simp only [World.size_alloc, World.size_setCell, World.size_drew]; done)) | with_reducible refine Blk.alloc ?_ _ | with_reducible refine Blk.drew ?_ | with_reducible refine Blk.drewN ?_ _ | with_reducible apply Blk.both | with_reducible refine Blk.far' ?_ ?_ | (show _ ≠ _; omega)))), (show Blk _ _ _ #[.int .i64 (c), .int .i64 (d)] from (by (repeat' first | with_reducible assumption | (with_reducible refine Blk.new' ?_; first | with_reducible rfl | (simp only [World.size_alloc, World.size_setCell, World.size_drew]; done)) | with_reducible refine Blk.alloc ?_ _ | with_reducible refine Blk.drew ?_ | with_reducible refine Blk.drewN ?_ _ | with_reducible apply Blk.both | with_reducible refine Blk.far' ?_ ?_ | (show _ ≠ _; omega)))), (show Blk _ _ _ #[.int .i64 ((md (dn (a * 1099511627776) (d)) (upq (b * 1099511627776) (d))).1), .int .i64 ((md (dn (a * 1099511627776) (d)) (upq (b * 1099511627776) (d))).2.1)] from (Blk.set2 (cs' := #[.int .i64 ((md (dn (a * 1099511627776) (d)) (upq (b * 1099511627776) (d))).1), .int .i64 ((md (dn (a * 1099511627776) (d)) (upq (b * 1099511627776) (d))).2.1)]) (Blk.set2 (cs' := #[.int .i64 ((md (dn (a * 1099511627776) (d)) (upq (b * 1099511627776) (d))).1), .int .i64 (0)]) oR (i := 0) rfl) (i := 1) rfl))⟩ Reg.none_ trivial
          apply Reg.RC_pure (hc := rfl) (hst := rfl) (hw := rfl) (t := 5) (hd := rfl) (ht := Nat.le_of_ble_eq_true rfl)
          · intro D v W hc hj hf K hK
            go_step
            exact hK.out
          · rfl
          refine Reg.RC_end (fun D v W hd hj hf => ?_)
          obtain ⟨B, oA, oB, oR⟩ := hj
          have e13 : D 13 = true := hd 13 (by decide)
          have oR : Blk W (w.heap.size + 1 + 1) 23 #[.int .i64 ((md (dn (a * 1099511627776) (d)) (upq (b * 1099511627776) (d))).1), .int .i64 ((md (dn (a * 1099511627776) (d)) (upq (b * 1099511627776) (d))).2.1)] := by have o := oR; simp only [e13, Reg.sel_true] at o; exact o
          clear e13
          clear hd hf
          refine hQ _ _ ?_
          clear hQ hops Q' ops'
          have lR := oR.lt
          have cR0 := oR.c 0 rfl
          have cR1 := oR.c 1 rfl
          have fR := oR.fr
          repeat' (first | go_values | go_skip | go_guarded | go_step | go_upon)
          refine bodyPost_ret (by simp [results, Try.results29, go_sem, lR, cR0, cR1, fR]; rfl) rfl ?_
          show G3 w _ _ _
          rw [H0.out, H.out]
          exact ⟨rfl, B⟩
  · have H1 : Hid (errV (V a b ∧ V c d) = 8) := if_neg hv
    have H : Hid (divS a b c d = (0, 0, 8)) := if_neg hv
    clear hv
    go_enter Try.func29, Try.ntmps29
    go_wp2_with fail
    refine (rboth a b c d _).mono ?_
    rintro e w1 ⟨rfl, hb1⟩
    have st : Steps _ w1 := hb1
    have Bn : Below w.heap.size w w1 := below_steps (by (repeat' first | with_reducible assumption | with_reducible exact Below.refl _ _ | with_reducible refine Below.alloc ?_ ?_ _ | with_reducible refine Below.drew ?_ | with_reducible refine belowN ?_ _ | with_reducible refine Below.setCell ?_ ?_ _ | go_size)) (Nat.le_refl _) st
    have nA : Blk w1 (w.heap.size) 23 #[.int .i64 (a), .int .i64 (b)] := Blk.steps (by (repeat' first | with_reducible assumption | (with_reducible refine Blk.new' ?_; first | with_reducible rfl | (simp only [World.size_alloc, World.size_setCell, World.size_drew]; done)) | with_reducible refine Blk.alloc ?_ _ | with_reducible refine Blk.drew ?_ | with_reducible refine Blk.drewN ?_ _ | with_reducible apply Blk.both | with_reducible refine Blk.far' ?_ ?_ | (show _ ≠ _; omega))) st
    have nB : Blk w1 (w.heap.size + 1) 23 #[.int .i64 (c), .int .i64 (d)] := Blk.steps (by (repeat' first | with_reducible assumption | (with_reducible refine Blk.new' ?_; first | with_reducible rfl | (simp only [World.size_alloc, World.size_setCell, World.size_drew]; done)) | with_reducible refine Blk.alloc ?_ _ | with_reducible refine Blk.drew ?_ | with_reducible refine Blk.drewN ?_ _ | with_reducible apply Blk.both | with_reducible refine Blk.far' ?_ ?_ | (show _ ≠ _; omega))) st
    have nR : Blk w1 (w.heap.size + 1 + 1) 23 #[.int .i64 (0), .int .i64 (0)] := Blk.steps (by (repeat' first | with_reducible assumption | (with_reducible refine Blk.new' ?_; first | with_reducible rfl | (simp only [World.size_alloc, World.size_setCell, World.size_drew]; done)) | with_reducible refine Blk.alloc ?_ _ | with_reducible refine Blk.drew ?_ | with_reducible refine Blk.drewN ?_ _ | with_reducible apply Blk.both | with_reducible refine Blk.far' ?_ ?_ | (show _ ≠ _; omega))) st
    clear st
    have B := Bn
    clear Bn
    have oA := nA
    clear nA
    have cA0 : World.cell? w1 ⟨w.heap.size, 0, none⟩ = some (.int .i64 (a)) := oA.c 0 rfl
    have cA1 : World.cell? w1 ⟨w.heap.size, 1, none⟩ = some (.int .i64 (b)) := oA.c 1 rfl
    have fA := oA.fr
    have lA := oA.lt
    have oB := nB
    clear nB
    have cB0 : World.cell? w1 ⟨w.heap.size + 1, 0, none⟩ = some (.int .i64 (c)) := oB.c 0 rfl
    have cB1 : World.cell? w1 ⟨w.heap.size + 1, 1, none⟩ = some (.int .i64 (d)) := oB.c 1 rfl
    have fB := oB.fr
    have lB := oB.lt
    have oR := nR
    clear nR
    have cR0 : World.cell? w1 ⟨w.heap.size + 1 + 1, 0, none⟩ = some (.int .i64 (0)) := oR.c 0 rfl
    have cR1 : World.cell? w1 ⟨w.heap.size + 1 + 1, 1, none⟩ = some (.int .i64 (0)) := oR.c 1 rfl
    have fR := oR.fr
    have lR := oR.lt
    rw [H1.out]
    go_wp2_with fail
    refine (rboth a b c d _).mono ?_
    rintro e w2 ⟨rfl, hb2⟩
    have st : Steps _ w2 := hb2
    have Bn : Below w.heap.size w w2 := below_steps (by (repeat' first | with_reducible assumption | with_reducible exact Below.refl _ _ | with_reducible refine Below.alloc ?_ ?_ _ | with_reducible refine Below.drew ?_ | with_reducible refine belowN ?_ _ | with_reducible refine Below.setCell ?_ ?_ _ | go_size)) (Nat.le_refl _) st
    have nA : Blk w2 (w.heap.size) 23 #[.int .i64 (a), .int .i64 (b)] := Blk.steps (by (repeat' first | with_reducible assumption | (with_reducible refine Blk.new' ?_; first | with_reducible rfl | (simp only [World.size_alloc, World.size_setCell, World.size_drew]; done)) | with_reducible refine Blk.alloc ?_ _ | with_reducible refine Blk.drew ?_ | with_reducible refine Blk.drewN ?_ _ | with_reducible apply Blk.both | with_reducible refine Blk.far' ?_ ?_ | (show _ ≠ _; omega))) st
    have nB : Blk w2 (w.heap.size + 1) 23 #[.int .i64 (c), .int .i64 (d)] := Blk.steps (by (repeat' first | with_reducible assumption | (with_reducible refine Blk.new' ?_; first | with_reducible rfl | (simp only [World.size_alloc, World.size_setCell, World.size_drew]; done)) | with_reducible refine Blk.alloc ?_ _ | with_reducible refine Blk.drew ?_ | with_reducible refine Blk.drewN ?_ _ | with_reducible apply Blk.both | with_reducible refine Blk.far' ?_ ?_ | (show _ ≠ _; omega))) st
    have nR : Blk w2 (w.heap.size + 1 + 1) 23 #[.int .i64 (0), .int .i64 (0)] := Blk.steps (by (repeat' first | with_reducible assumption | (with_reducible refine Blk.new' ?_; first | with_reducible rfl | (simp only [World.size_alloc, World.size_setCell, World.size_drew]; done)) | with_reducible refine Blk.alloc ?_ _ | with_reducible refine Blk.drew ?_ | with_reducible refine Blk.drewN ?_ _ | with_reducible apply Blk.both | with_reducible refine Blk.far' ?_ ?_ | (show _ ≠ _; omega))) st
    clear B oA oB oR cA0 cA1 fA lA cB0 cB1 fB lB cR0 cR1 fR lR
    clear st
    have B := Bn
    clear Bn
    have oA := nA
    clear nA
    have cA0 : World.cell? w2 ⟨w.heap.size, 0, none⟩ = some (.int .i64 (a)) := oA.c 0 rfl
    have cA1 : World.cell? w2 ⟨w.heap.size, 1, none⟩ = some (.int .i64 (b)) := oA.c 1 rfl
    have fA := oA.fr
    have lA := oA.lt
    have oB := nB
    clear nB
    have cB0 : World.cell? w2 ⟨w.heap.size + 1, 0, none⟩ = some (.int .i64 (c)) := oB.c 0 rfl
    have cB1 : World.cell? w2 ⟨w.heap.size + 1, 1, none⟩ = some (.int .i64 (d)) := oB.c 1 rfl
    have fB := oB.fr
    have lB := oB.lt
    have oR := nR
    clear nR
    have cR0 : World.cell? w2 ⟨w.heap.size + 1 + 1, 0, none⟩ = some (.int .i64 (0)) := oR.c 0 rfl
    have cR1 : World.cell? w2 ⟨w.heap.size + 1 + 1, 1, none⟩ = some (.int .i64 (0)) := oR.c 1 rfl
    have fR := oR.fr
    have lR := oR.lt
    rw [H1.out]
    go_wp2_with fail
    refine bodyPost_ret (by simp [results, Try.results29, go_sem, cR0, cR1, fR, lR]; rfl) rfl ?_
    show G3 w _ _ _
    rw [H.out]
    exact ⟨rfl, by (repeat' first | with_reducible assumption | with_reducible exact Below.refl _ _ | with_reducible refine Below.alloc ?_ ?_ _ | with_reducible refine Below.drew ?_ | with_reducible refine belowN ?_ _ | with_reducible refine Below.setCell ?_ ?_ _ | go_size)⟩
