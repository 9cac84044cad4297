import Derived.Test.YtalnlnpnacfdfaaRefE
import Derived.Test.YtalnlnpnacfdfaaRefF
namespace Go.Proofs.Ytalnlnpnacfdfaa
open Go.RowKit
set_option maxRecDepth 100000 in
set_option maxHeartbeats 4000000 in
theorem rmul (a b c d : Int) (w : World) : Calls Try.prog 27 #[.agg #[.int .i64 a, .int .i64 b], .agg #[.int .i64 c, .int .i64 d]] w (G3 w (mulS a b c d)) := by
  by_cases hv : V a b ∧ V c d
  · have H1 : Hid (errV (V a b ∧ V c d) = 0) := if_pos hv
    have H : Hid (mulS a b c d = mulV a b c d) := if_pos hv
    obtain ⟨⟨v0, v1, v2⟩, ⟨v3, v4, v5⟩⟩ := hv
    obtain ⟨p0, q0⟩ := prod_b (a := a) (b := c) (m := 2305843009213693952) (n := 2305843009213693952) (by omega) (by omega) (by omega) (by omega)
    obtain ⟨p1, q1⟩ := prod_b (a := a) (b := d) (m := 2305843009213693952) (n := 2305843009213693952) (by omega) (by omega) (by omega) (by omega)
    obtain ⟨p2, q2⟩ := prod_b (a := b) (b := c) (m := 2305843009213693952) (n := 2305843009213693952) (by omega) (by omega) (by omega) (by omega)
    obtain ⟨p3, q3⟩ := prod_b (a := b) (b := d) (m := 2305843009213693952) (n := 2305843009213693952) (by omega) (by omega) (by omega) (by omega)
    go_enter Try.func27, Try.ntmps27
    go_wp2_with fail
    refine (rboth a b c d _).mono ?_
    rintro e w1 ⟨rfl, hb1⟩
    have st : Steps _ w1 := hb1
    have Bn : Below w.heap.size w w1 := below_steps (by (repeat' first | with_reducible assumption | with_reducible exact Below.refl _ _ | with_reducible refine Below.alloc ?_ ?_ _ | with_reducible refine Below.drew ?_ | with_reducible refine belowN ?_ _ | with_reducible refine Below.setCell ?_ ?_ _ | go_size)) (Nat.le_refl _) st
    have nA : Blk w1 (w.heap.size) 23 #[.int .i64 (a), .int .i64 (b)] := Blk.steps (by (repeat' first | with_reducible assumption | (with_reducible refine Blk.new' ?_; first | with_reducible rfl | (simp only [World.size_alloc, World.size_setCell, World.size_drew]; done)) | with_reducible refine Blk.alloc ?_ _ | with_reducible refine Blk.drew ?_ | with_reducible refine Blk.drewN ?_ _ | with_reducible apply Blk.both | with_reducible refine Blk.far' ?_ ?_ | (show _ ≠ _; omega))) st
    have nB : Blk w1 (w.heap.size + 1) 23 #[.int .i64 (c), .int .i64 (d)] := Blk.steps (by (repeat' first | with_reducible assumption | (with_reducible refine Blk.new' ?_; first | with_reducible rfl | (simp only [World.size_alloc, World.size_setCell, World.size_drew]; done)) | with_reducible refine Blk.alloc ?_ _ | with_reducible refine Blk.drew ?_ | with_reducible refine Blk.drewN ?_ _ | with_reducible apply Blk.both | with_reducible refine Blk.far' ?_ ?_ | (show _ ≠ _; omega))) st
    have nR : Blk w1 (w.heap.size + 1 + 1) 23 #[.int .i64 (0), .int .i64 (0)] := Blk.steps (by (repeat' first | with_reducible assumption | (with_reducible refine Blk.new' ?_; first | with_reducible rfl | (simp only [World.size_alloc, World.size_setCell, World.size_drew]; done)) | with_reducible refine Blk.alloc ?_ _ | with_reducible refine Blk.drew ?_ | with_reducible refine Blk.drewN ?_ _ | with_reducible apply Blk.both | with_reducible refine Blk.far' ?_ ?_ | (show _ ≠ _; omega))) st
    clear st
    have B := Bn
    clear Bn
    have oA := nA
    clear nA
    have cA0 : World.cell? w1 ⟨w.heap.size, 0, none⟩ = some (.int .i64 (a)) := oA.c 0 rfl
    have cA1 : World.cell? w1 ⟨w.heap.size, 1, none⟩ = some (.int .i64 (b)) := oA.c 1 rfl
    have fA := oA.fr
    have lA := oA.lt
    have oB := nB
    clear nB
    have cB0 : World.cell? w1 ⟨w.heap.size + 1, 0, none⟩ = some (.int .i64 (c)) := oB.c 0 rfl
    have cB1 : World.cell? w1 ⟨w.heap.size + 1, 1, none⟩ = some (.int .i64 (d)) := oB.c 1 rfl
    have fB := oB.fr
    have lB := oB.lt
    have oR := nR
    clear nR
    have cR0 : World.cell? w1 ⟨w.heap.size + 1 + 1, 0, none⟩ = some (.int .i64 (0)) := oR.c 0 rfl
    have cR1 : World.cell? w1 ⟨w.heap.size + 1 + 1, 1, none⟩ = some (.int .i64 (0)) := oR.c 1 rfl
    have fR := oR.fr
    have lR := oR.lt
    rw [H1.out]
    go_wp2_with fail
    refine (rends a b c d _ v0 v1 v2 v3 v4 v5).mono ?_
    rintro e w2 ⟨rfl, hb2⟩
    have st : Steps _ w2 := hb2
    have Bn : Below w.heap.size w w2 := below_steps (by (repeat' first | with_reducible assumption | with_reducible exact Below.refl _ _ | with_reducible refine Below.alloc ?_ ?_ _ | with_reducible refine Below.drew ?_ | with_reducible refine belowN ?_ _ | with_reducible refine Below.setCell ?_ ?_ _ | go_size)) (Nat.le_refl _) st
    have nR : Blk w2 (w.heap.size + 1 + 1) 23 #[.int .i64 (0), .int .i64 (0)] := Blk.steps (by (repeat' first | with_reducible assumption | (with_reducible refine Blk.new' ?_; first | with_reducible rfl | (simp only [World.size_alloc, World.size_setCell, World.size_drew]; done)) | with_reducible refine Blk.alloc ?_ _ | with_reducible refine Blk.drew ?_ | with_reducible refine Blk.drewN ?_ _ | with_reducible apply Blk.both | with_reducible refine Blk.far' ?_ ?_ | (show _ ≠ _; omega))) st
    clear B oA oB oR cA0 cA1 fA lA cB0 cB1 fB lB cR0 cR1 fR lR
    clear st
    have B := Bn
    clear Bn
    have oR := nR
    clear nR
    have cR0 : World.cell? w2 ⟨w.heap.size + 1 + 1, 0, none⟩ = some (.int .i64 (0)) := oR.c 0 rfl
    have cR1 : World.cell? w2 ⟨w.heap.size + 1 + 1, 1, none⟩ = some (.int .i64 (0)) := oR.c 1 rfl
    have fR := oR.fr
    have lR := oR.lt
    go_wp2_with fail
    refine Reg.wp_chain (fun D v W => Below w.heap.size w W ∧ Blk W (w.heap.size + 1 + 1) 23 #[Reg.sel (D 7) (.int .i64 (0)) (.int .i64 ((md (dn (mn (mn (mn (a * c) (a * d)) (b * c)) (b * d)) 1099511627776) (upq (mx (mx (mx (a * c) (a * d)) (b * c)) (b * d)) 1099511627776)).1)), Reg.sel (D 7) (.int .i64 (0)) (.int .i64 ((md (dn (mn (mn (mn (a * c) (a * d)) (b * c)) (b * d)) 1099511627776) (upq (mx (mx (mx (a * c) (a * d)) (b * c)) (b * d)) 1099511627776)).2.1))] ∧ Blk W (w2.heap.size) 77 #[.bool (negB (mn (mn (mn (a * c) (a * d)) (b * c)) (b * d))), .int .u64 (aHi (mn (mn (mn (a * c) (a * d)) (b * c)) (b * d))), .int .u64 (aLo (mn (mn (mn (a * c) (a * d)) (b * c)) (b * d)))] ∧ Blk W (w2.heap.size + 1) 77 #[.bool (negB (mx (mx (mx (a * c) (a * d)) (b * c)) (b * d))), .int .u64 (aHi (mx (mx (mx (a * c) (a * d)) (b * c)) (b * d))), .int .u64 (aLo (mx (mx (mx (a * c) (a * d)) (b * c)) (b * d)))])
      (Reg.inl [1, 3, 4, 7]) (Reg.ge [(1, .int .i64 (dn (mn (mn (mn (a * c) (a * d)) (b * c)) (b * d)) 1099511627776)), (3, .int .i64 (upq (mx (mx (mx (a * c) (a * d)) (b * c)) (b * d)) 1099511627776)), (4, .tuple #[.agg #[.int .i64 ((md (dn (mn (mn (mn (a * c) (a * d)) (b * c)) (b * d)) 1099511627776) (upq (mx (mx (mx (a * c) (a * d)) (b * c)) (b * d)) 1099511627776)).1), .int .i64 ((md (dn (mn (mn (mn (a * c) (a * d)) (b * c)) (b * d)) 1099511627776) (upq (mx (mx (mx (a * c) (a * d)) (b * c)) (b * d)) 1099511627776)).2.1)], .int .i64 ((md (dn (mn (mn (mn (a * c) (a * d)) (b * c)) (b * d)) 1099511627776) (upq (mx (mx (mx (a * c) (a * d)) (b * c)) (b * d)) 1099511627776)).2.2)])]) Reg.None_ (fun _ => Reg.Any) (fun _ _ => False) (Reg.pl []) (Reg.pl [])
      (by kernel_rfl) (by kernel_rfl) (by kernel_rfl) (Reg.ge_some _) (fun v => ?_) (fun _ _ _ _ _ h => h) (fun _ _ _ _ _ _ _ _ _ _ _ _ _ => Reg.none_) (fun _ _ _ _ h => h.elim) (fun ops' Q' hops hQ => ?_)
    · exact ⟨(by first | with_reducible exact Below.drew B | with_reducible exact Below.drew (belowN B _) | (repeat' first | with_reducible assumption | with_reducible exact Below.refl _ _ | with_reducible refine Below.alloc ?_ ?_ _ | with_reducible refine Below.drew ?_ | with_reducible refine belowN ?_ _ | with_reducible refine Below.setCell ?_ ?_ _ | go_size)), (show Blk _ _ _ #[.int .i64 (0), .int .i64 (0)] from (by first | with_reducible exact oR | (repeat' first | with_reducible assumption | (with_reducible refine Blk.new' ?_; first | with_reducible rfl | (simp only [World.size_alloc, World.size_setCell, World.size_drew]; done)) | with_reducible refine Blk.alloc ?_ _ | with_reducible refine Blk.drew ?_ | with_reducible refine Blk.drewN ?_ _ | with_reducible apply Blk.both | with_reducible refine Blk.far' ?_ ?_ | (show _ ≠ _; omega)))), (show Blk _ _ _ #[.bool (negB (mn (mn (mn (a * c) (a * d)) (b * c)) (b * d))), .int .u64 (aHi (mn (mn (mn (a * c) (a * d)) (b * c)) (b * d))), .int .u64 (aLo (mn (mn (mn (a * c) (a * d)) (b * c)) (b * d)))] from (by first | with_reducible exact oX | (repeat' first | with_reducible assumption | (with_reducible refine Blk.new' ?_; first | with_reducible rfl | (simp only [World.size_alloc, World.size_setCell, World.size_drew]; done)) | with_reducible refine Blk.alloc ?_ _ | with_reducible refine Blk.drew ?_ | with_reducible refine Blk.drewN ?_ _ | with_reducible apply Blk.both | with_reducible refine Blk.far' ?_ ?_ | (show _ ≠ _; omega)))), (show Blk _ _ _ #[.bool (negB (mx (mx (mx (a * c) (a * d)) (b * c)) (b * d))), .int .u64 (aHi (mx (mx (mx (a * c) (a * d)) (b * c)) (b * d))), .int .u64 (aLo (mx (mx (mx (a * c) (a * d)) (b * c)) (b * d)))] from (by first | with_reducible exact oY | (repeat' first | with_reducible assumption | (with_reducible refine Blk.new' ?_; first | with_reducible rfl | (simp only [World.size_alloc, World.size_setCell, World.size_drew]; done)) | with_reducible refine Blk.alloc ?_ _ | with_reducible refine Blk.drew ?_ | with_reducible refine Blk.drewN ?_ _ | with_reducible apply Blk.both | with_reducible refine Blk.far' ?_ ?_ | (show _ ≠ _; omega))))⟩
    clear B oR
    apply Reg.RC_pure (hc := rfl) (hst := rfl) (hw := rfl) (t := 22) (hd := rfl) (ht := Nat.le_of_ble_eq_true rfl)
    · intro D v W hc hj hf K hK
      obtain ⟨B, oR, oX, oY⟩ := hj
      have cX0 : World.cell? W ⟨w2.heap.size, 0, none⟩ = some (.bool (negB (mn (mn (mn (a * c) (a * d)) (b * c)) (b * d)))) := oX.c 0 rfl
      have cX1 : World.cell? W ⟨w2.heap.size, 1, none⟩ = some (.int .u64 (aHi (mn (mn (mn (a * c) (a * d)) (b * c)) (b * d)))) := oX.c 1 rfl
      have cX2 : World.cell? W ⟨w2.heap.size, 2, none⟩ = some (.int .u64 (aLo (mn (mn (mn (a * c) (a * d)) (b * c)) (b * d)))) := oX.c 2 rfl
      go_step
      exact hK.out
    · rfl
    refine Reg.RC_exact _ (fun _ h => h) rfl (by intro t ht; cases ht; exact Nat.le_of_ble_eq_true rfl) rfl (fun D v W hc hj hf K hK => ?_) (Reg.RC_at (b := ⟨#[_, _, _, _, _, _, _, _, _, _, _, _, _, _, _, _, _, _, _, _, _, _, _, _, _, _, _, _, _], []⟩) rfl ?_)
    · obtain ⟨B, oR, oX, oY⟩ := hj
      go_step
      refine (rover_dn _ _ _ (by simp only [mn, mx]; omega) (by simp only [mn, mx]; omega) (by omega) (by omega)).mono ?_
      rintro e W' ⟨rfl, hb⟩
      have st : Steps W W' := hb
      exact hK.out _ _ Reg.any ⟨below_steps B (Nat.le_refl _) st, oR.steps st, oX.steps st, oY.steps st⟩ Reg.none_ rfl
    apply Reg.RC_pure (hc := rfl) (hst := rfl) (hw := rfl) (t := 24) (hd := rfl) (ht := Nat.le_of_ble_eq_true rfl)
    · intro D v W hc hj hf K hK
      obtain ⟨B, oR, oX, oY⟩ := hj
      have cY0 : World.cell? W ⟨w2.heap.size + 1, 0, none⟩ = some (.bool (negB (mx (mx (mx (a * c) (a * d)) (b * c)) (b * d)))) := oY.c 0 rfl
      have cY1 : World.cell? W ⟨w2.heap.size + 1, 1, none⟩ = some (.int .u64 (aHi (mx (mx (mx (a * c) (a * d)) (b * c)) (b * d)))) := oY.c 1 rfl
      have cY2 : World.cell? W ⟨w2.heap.size + 1, 2, none⟩ = some (.int .u64 (aLo (mx (mx (mx (a * c) (a * d)) (b * c)) (b * d)))) := oY.c 2 rfl
      go_step
      exact hK.out
    · rfl
    refine Reg.RC_exact _ (fun _ h => h) rfl (by intro t ht; cases ht; exact Nat.le_of_ble_eq_true rfl) rfl (fun D v W hc hj hf K hK => ?_) (Reg.RC_at (b := ⟨#[_, _, _, _, _, _, _, _, _, _, _, _, _, _, _, _, _, _, _, _, _, _, _, _, _, _, _, _, _], []⟩) rfl ?_)
    · obtain ⟨B, oR, oX, oY⟩ := hj
      go_step
      refine (rover_up _ _ _ (by simp only [mn, mx]; omega) (by simp only [mn, mx]; omega) (by omega) (by omega)).mono ?_
      rintro e W' ⟨rfl, hb⟩
      have st : Steps W W' := hb
      exact hK.out _ _ Reg.any ⟨below_steps B (Nat.le_refl _) st, oR.steps st, oX.steps st, oY.steps st⟩ Reg.none_ rfl
    refine Reg.RC_exact _ (fun _ h => h) rfl (by intro t ht; cases ht; exact Nat.le_of_ble_eq_true rfl) rfl (fun D v W hc hj hf K hK => ?_) (Reg.RC_at (b := ⟨#[_, _, _, _, _, _, _, _, _, _, _, _, _, _, _, _, _, _, _, _, _, _, _, _, _, _, _, _, _], []⟩) rfl ?_)
    · obtain ⟨B, oR, oX, oY⟩ := hj
      go_step
      refine (rmade _ _ _).mono ?_
      rintro e W' ⟨rfl, hb⟩
      have st : Steps W W' := hb
      exact hK.out _ _ Reg.any ⟨below_steps B (Nat.le_refl _) st, oR.steps st, oX.steps st, oY.steps st⟩ Reg.none_ rfl
    apply Reg.RC_pure (hc := rfl) (hst := rfl) (hw := rfl) (t := 27) (hd := rfl) (ht := Nat.le_of_ble_eq_true rfl)
    · intro D v W hc hj hf K hK
      go_step
      exact hK.out
    · rfl
    apply Reg.RC_pure (hc := rfl) (hst := rfl) (hw := rfl) (t := 28) (hd := rfl) (ht := Nat.le_of_ble_eq_true rfl)
    · intro D v W hc hj hf K hK
      go_step
      exact hK.out
    · rfl
    refine Reg.RC_call rfl (by intro t ht; cases ht) rfl (fun D v W hc hj hf K hK => ?_) (fun _ _ => Reg.RC_at (b := ⟨_, []⟩) rfl ?_)
    · obtain ⟨B, oR, oX, oY⟩ := hj
      have hs : D 7 = false := hc.1
      have oR : Blk W (w.heap.size + 1 + 1) 23 #[.int .i64 (0), .int .i64 (0)] := by have o := oR; simp only [hs, Reg.sel_false] at o; exact o
      have lR := oR.lt
      have fR := oR.fr
      have cR0 : World.cell? W ⟨w.heap.size + 1 + 1, 0, none⟩ = some (.int .i64 (0)) := oR.c 0 rfl
      have cR1 : World.cell? W ⟨w.heap.size + 1 + 1, 1, none⟩ = some (.int .i64 (0)) := oR.c 1 rfl
      go_step
      exact hK.out undef _ Reg.any ⟨(by (repeat' first | with_reducible assumption | with_reducible exact Below.refl _ _ | with_reducible refine Below.alloc ?_ ?_ _ | with_reducible refine Below.drew ?_ | with_reducible refine belowN ?_ _ | with_reducible refine Below.setCell ?_ ?_ _ | go_size)), (show Blk _ _ _ #[.int .i64 ((md (dn (mn (mn (mn (a * c) (a * d)) (b * c)) (b * d)) 1099511627776) (upq (mx (mx (mx (a * c) (a * d)) (b * c)) (b * d)) 1099511627776)).1), .int .i64 ((md (dn (mn (mn (mn (a * c) (a * d)) (b * c)) (b * d)) 1099511627776) (upq (mx (mx (mx (a * c) (a * d)) (b * c)) (b * d)) 1099511627776)).2.1)] from (Blk.set2 (cs' := #[.int .i64 ((md (dn (mn (mn (mn (a * c) (a * d)) (b * c)) (b * d)) 1099511627776) (upq (mx (mx (mx (a * c) (a * d)) (b * c)) (b * d)) 1099511627776)).1), .int .i64 ((md (dn (mn (mn (mn (a * c) (a * d)) (b * c)) (b * d)) 1099511627776) (upq (mx (mx (mx (a * c) (a * d)) (b * c)) (b * d)) 1099511627776)).2.1)]) (Blk.set2 (cs' := #[.int .i64 ((md (dn (mn (mn (mn (a * c) (a * d)) (b * c)) (b * d)) 1099511627776) (upq (mx (mx (mx (a * c) (a * d)) (b * c)) (b * d)) 1099511627776)).1), .int .i64 (0)]) oR (i := 0) rfl) (i := 1) rfl)), (show Blk _ _ _ #[.bool (negB (mn (mn (mn (a * c) (a * d)) (b * c)) (b * d))), .int .u64 (aHi (mn (mn (mn (a * c) (a * d)) (b * c)) (b * d))), .int .u64 (aLo (mn (mn (mn (a * c) (a * d)) (b * c)) (b * d)))] from (by (repeat' first | with_reducible assumption | (with_reducible refine Blk.new' ?_; first | with_reducible rfl | (simp only [World.size_alloc, World.size_setCell, World.size_drew]; done)) | with_reducible refine Blk.alloc ?_ _ | with_reducible refine Blk.drew ?_ | with_reducible refine Blk.drewN ?_ _ | with_reducible apply Blk.both | with_reducible refine Blk.far' ?_ ?_ | (show _ ≠ _; omega)))), (show Blk _ _ _ #[.bool (negB (mx (mx (mx (a * c) (a * d)) (b * c)) (b * d))), .int .u64 (aHi (mx (mx (mx (a * c) (a * d)) (b * c)) (b * d))), .int .u64 (aLo (mx (mx (mx (a * c) (a * d)) (b * c)) (b * d)))] from (by (repeat' first | with_reducible assumption | (with_reducible refine Blk.new' ?_; first | with_reducible rfl | (simp only [World.size_alloc, World.size_setCell, World.size_drew]; done)) | with_reducible refine Blk.alloc ?_ _ | with_reducible refine Blk.drew ?_ | with_reducible refine Blk.drewN ?_ _ | with_reducible apply Blk.both | with_reducible refine Blk.far' ?_ ?_ | (show _ ≠ _; omega))))⟩ Reg.none_ trivial
    apply Reg.RC_pure (hc := rfl) (hst := rfl) (hw := rfl) (t := 5) (hd := rfl) (ht := Nat.le_of_ble_eq_true rfl)
    · intro D v W hc hj hf K hK
      go_step
      exact hK.out
    · rfl
    refine Reg.RC_end (fun D v W hd hj hf => ?_)
    obtain ⟨B, oR, oX, oY⟩ := hj
    have e7 : D 7 = true := hd 7 (by decide)
    have oR : Blk W (w.heap.size + 1 + 1) 23 #[.int .i64 ((md (dn (mn (mn (mn (a * c) (a * d)) (b * c)) (b * d)) 1099511627776) (upq (mx (mx (mx (a * c) (a * d)) (b * c)) (b * d)) 1099511627776)).1), .int .i64 ((md (dn (mn (mn (mn (a * c) (a * d)) (b * c)) (b * d)) 1099511627776) (upq (mx (mx (mx (a * c) (a * d)) (b * c)) (b * d)) 1099511627776)).2.1)] := by have o := oR; simp only [e7, Reg.sel_true] at o; exact o
    clear e7
    clear hd hf
    refine hQ _ _ ?_
    clear hQ hops Q' ops'
    have lR := oR.lt
    have cR0 := oR.c 0 rfl
    have cR1 := oR.c 1 rfl
    have fR := oR.fr
    repeat' (first | go_values | go_skip | go_guarded | go_step | go_upon)
    refine bodyPost_ret (by simp [results, Try.results27, go_sem, lR, cR0, cR1, fR]; rfl) rfl ?_
    show G3 w _ _ _
    rw [H.out]
    exact ⟨rfl, B⟩
  · have H1 : Hid (errV (V a b ∧ V c d) = 8) := if_neg hv
    have H : Hid (mulS a b c d = (0, 0, 8)) := if_neg hv
    clear hv
    go_enter Try.func27, Try.ntmps27
    go_wp2_with fail
    refine (rboth a b c d _).mono ?_
    rintro e w1 ⟨rfl, hb1⟩
    have st : Steps _ w1 := hb1
    have Bn : Below w.heap.size w w1 := below_steps (by (repeat' first | with_reducible assumption | with_reducible exact Below.refl _ _ | with_reducible refine Below.alloc ?_ ?_ _ | with_reducible refine Below.drew ?_ | with_reducible refine belowN ?_ _ | with_reducible refine Below.setCell ?_ ?_ _ | go_size)) (Nat.le_refl _) st
    have nA : Blk w1 (w.heap.size) 23 #[.int .i64 (a), .int .i64 (b)] := Blk.steps (by (repeat' first | with_reducible assumption | (with_reducible refine Blk.new' ?_; first | with_reducible rfl | (simp only [World.size_alloc, World.size_setCell, World.size_drew]; done)) | with_reducible refine Blk.alloc ?_ _ | with_reducible refine Blk.drew ?_ | with_reducible refine Blk.drewN ?_ _ | with_reducible apply Blk.both | with_reducible refine Blk.far' ?_ ?_ | (show _ ≠ _; omega))) st
    have nB : Blk w1 (w.heap.size + 1) 23 #[.int .i64 (c), .int .i64 (d)] := Blk.steps (by (repeat' first | with_reducible assumption | (with_reducible refine Blk.new' ?_; first | with_reducible rfl | (simp only [World.size_alloc, World.size_setCell, World.size_drew]; done)) | with_reducible refine Blk.alloc ?_ _ | with_reducible refine Blk.drew ?_ | with_reducible refine Blk.drewN ?_ _ | with_reducible apply Blk.both | with_reducible refine Blk.far' ?_ ?_ | (show _ ≠ _; omega))) st
    have nR : Blk w1 (w.heap.size + 1 + 1) 23 #[.int .i64 (0), .int .i64 (0)] := Blk.steps (by (repeat' first | with_reducible assumption | (with_reducible refine Blk.new' ?_; first | with_reducible rfl | (simp only [World.size_alloc, World.size_setCell, World.size_drew]; done)) | with_reducible refine Blk.alloc ?_ _ | with_reducible refine Blk.drew ?_ | with_reducible refine Blk.drewN ?_ _ | with_reducible apply Blk.both | with_reducible refine Blk.far' ?_ ?_ | (show _ ≠ _; omega))) st
    clear st
    have B := Bn
    clear Bn
    have oA := nA
    clear nA
    have cA0 : World.cell? w1 ⟨w.heap.size, 0, none⟩ = some (.int .i64 (a)) := oA.c 0 rfl
    have cA1 : World.cell? w1 ⟨w.heap.size, 1, none⟩ = some (.int .i64 (b)) := oA.c 1 rfl
    have fA := oA.fr
    have lA := oA.lt
    have oB := nB
    clear nB
    have cB0 : World.cell? w1 ⟨w.heap.size + 1, 0, none⟩ = some (.int .i64 (c)) := oB.c 0 rfl
    have cB1 : World.cell? w1 ⟨w.heap.size + 1, 1, none⟩ = some (.int .i64 (d)) := oB.c 1 rfl
    have fB := oB.fr
    have lB := oB.lt
    have oR := nR
    clear nR
    have cR0 : World.cell? w1 ⟨w.heap.size + 1 + 1, 0, none⟩ = some (.int .i64 (0)) := oR.c 0 rfl
    have cR1 : World.cell? w1 ⟨w.heap.size + 1 + 1, 1, none⟩ = some (.int .i64 (0)) := oR.c 1 rfl
    have fR := oR.fr
    have lR := oR.lt
    rw [H1.out]
    go_wp2_with fail
    refine (rboth a b c d _).mono ?_
    rintro e w2 ⟨rfl, hb2⟩
    have st : Steps _ w2 := hb2
    have Bn : Below w.heap.size w w2 := below_steps (by (repeat' first | with_reducible assumption | with_reducible exact Below.refl _ _ | with_reducible refine Below.alloc ?_ ?_ _ | with_reducible refine Below.drew ?_ | with_reducible refine belowN ?_ _ | with_reducible refine Below.setCell ?_ ?_ _ | go_size)) (Nat.le_refl _) st
    have nA : Blk w2 (w.heap.size) 23 #[.int .i64 (a), .int .i64 (b)] := Blk.steps (by (repeat' first | with_reducible assumption | (with_reducible refine Blk.new' ?_; first | with_reducible rfl | (simp only [World.size_alloc, World.size_setCell, World.size_drew]; done)) | with_reducible refine Blk.alloc ?_ _ | with_reducible refine Blk.drew ?_ | with_reducible refine Blk.drewN ?_ _ | with_reducible apply Blk.both | with_reducible refine Blk.far' ?_ ?_ | (show _ ≠ _; omega))) st
    have nB : Blk w2 (w.heap.size + 1) 23 #[.int .i64 (c), .int .i64 (d)] := Blk.steps (by (repeat' first | with_reducible assumption | (with_reducible refine Blk.new' ?_; first | with_reducible rfl | (simp only [World.size_alloc, World.size_setCell, World.size_drew]; done)) | with_reducible refine Blk.alloc ?_ _ | with_reducible refine Blk.drew ?_ | with_reducible refine Blk.drewN ?_ _ | with_reducible apply Blk.both | with_reducible refine Blk.far' ?_ ?_ | (show _ ≠ _; omega))) st
    have nR : Blk w2 (w.heap.size + 1 + 1) 23 #[.int .i64 (0), .int .i64 (0)] := Blk.steps (by (repeat' first | with_reducible assumption | (with_reducible refine Blk.new' ?_; first | with_reducible rfl | (simp only [World.size_alloc, World.size_setCell, World.size_drew]; done)) | with_reducible refine Blk.alloc ?_ _ | with_reducible refine Blk.drew ?_ | with_reducible refine Blk.drewN ?_ _ | with_reducible apply Blk.both | with_reducible refine Blk.far' ?_ ?_ | (show _ ≠ _; omega))) st
    clear B oA oB oR cA0 cA1 fA lA cB0 cB1 fB lB cR0 cR1 fR lR
    clear st
    have B := Bn
    clear Bn
    have oA := nA
    clear nA
    have cA0 : World.cell? w2 ⟨w.heap.size, 0, none⟩ = some (.int .i64 (a)) := oA.c 0 rfl
    have cA1 : World.cell? w2 ⟨w.heap.size, 1, none⟩ = some (.int .i64 (b)) := oA.c 1 rfl
    have fA := oA.fr
    have lA := oA.lt
    have oB := nB
    clear nB
    have cB0 : World.cell? w2 ⟨w.heap.size + 1, 0, none⟩ = some (.int .i64 (c)) := oB.c 0 rfl
    have cB1 : World.cell? w2 ⟨w.heap.size + 1, 1, none⟩ = some (.int .i64 (d)) := oB.c 1 rfl
    have fB := oB.fr
    have lB := oB.lt
    have oR := nR
    clear nR
    have cR0 : World.cell? w2 ⟨w.heap.size + 1 + 1, 0, none⟩ = some (.int .i64 (0)) := oR.c 0 rfl
    have cR1 : World.cell? w2 ⟨w.heap.size + 1 + 1, 1, none⟩ = some (.int .i64 (0)) := oR.c 1 rfl
    have fR := oR.fr
    have lR := oR.lt
    rw [H1.out]
    go_wp2_with fail
    refine bodyPost_ret (by simp [results, Try.results27, go_sem, cR0, cR1, fR, lR]; rfl) rfl ?_
    show G3 w _ _ _
    rw [H.out]
    exact ⟨rfl, by (repeat' first | with_reducible assumption | with_reducible exact Below.refl _ _ | with_reducible refine Below.alloc ?_ ?_ _ | with_reducible refine Below.drew ?_ | with_reducible refine belowN ?_ _ | with_reducible refine Below.setCell ?_ ?_ _ | go_size)⟩
theorem sq_mul {p q : Int} (h0 : 0 ≤ p) (h1 : p ≤ q) (h2 : q ≤ 2305843009213693952) : mulS p q p q = md (dn (p * p) 1099511627776) (upq (q * q) 1099511627776) := by
  have e1 := Int.mul_le_mul_of_nonneg_left h1 h0
  have e2 := Int.mul_le_mul_of_nonneg_right h1 (show 0 ≤ q by omega)
  have e3 : q * p = p * q := Int.mul_comm q p
  unfold mulS ifV
  rw [if_pos ⟨⟨h1, by omega, h2⟩, ⟨h1, by omega, h2⟩⟩]
  unfold mulV
  rw [show mn (mn (mn (p * p) (p * q)) (q * p)) (q * q) = p * p by simp only [mn]; omega, show mx (mx (mx (p * p) (p * q)) (q * p)) (q * q) = q * q by simp only [mx]; omega]
set_option maxRecDepth 100000 in
set_option maxHeartbeats 4000000 in
theorem rsq (a b : Int) (w : World) : Calls Try.prog 11 #[.agg #[.int .i64 a, .int .i64 b]] w (G3 w (sqS a b)) := by
  by_cases hv : V a b
  · obtain ⟨p, q, hpq, p0, p1, p2⟩ := abs_pq hv
    have H : Hid (sqS a b = mulS p q p q) := by show sqS a b = _; rw [sq_mul p0 p1 p2]; unfold sqS ifV; rw [if_pos hv, hpq]; rfl
    have hA : Hid (absS a b = (p, q, 0)) := by show absS a b = _; unfold absS ifV; rw [if_pos hv, hpq]
    clear hpq hv
    go_enter Try.func11, Try.ntmps11
    go_wp2_with fail
    refine (rabs a b _).mono ?_
    rintro e w1 ⟨rfl, hb1⟩
    have st : Steps _ w1 := hb1
    have Bn : Below w.heap.size w w1 := below_steps (by (repeat' first | with_reducible assumption | with_reducible exact Below.refl _ _ | with_reducible refine Below.alloc ?_ ?_ _ | with_reducible refine Below.drew ?_ | with_reducible refine belowN ?_ _ | with_reducible refine Below.setCell ?_ ?_ _ | go_size)) (Nat.le_refl _) st
    have nR : Blk w1 (w.heap.size + 1) 23 #[.int .i64 (0), .int .i64 (0)] := Blk.steps (by (repeat' first | with_reducible assumption | (with_reducible refine Blk.new' ?_; first | with_reducible rfl | (simp only [World.size_alloc, World.size_setCell, World.size_drew]; done)) | with_reducible refine Blk.alloc ?_ _ | with_reducible refine Blk.drew ?_ | with_reducible refine Blk.drewN ?_ _ | with_reducible apply Blk.both | with_reducible refine Blk.far' ?_ ?_ | (show _ ≠ _; omega))) st
    clear st
    have B := Bn
    clear Bn
    have oR := nR
    clear nR
    have cR0 : World.cell? w1 ⟨w.heap.size + 1, 0, none⟩ = some (.int .i64 (0)) := oR.c 0 rfl
    have cR1 : World.cell? w1 ⟨w.heap.size + 1, 1, none⟩ = some (.int .i64 (0)) := oR.c 1 rfl
    have fR := oR.fr
    have lR := oR.lt
    rw [hA.out]
    go_wp2_with fail
    refine (rmul p q p q _).mono ?_
    rintro e w2 ⟨rfl, hb2⟩
    have st : Steps _ w2 := hb2
    have Bn : Below w.heap.size w w2 := below_steps (by (repeat' first | with_reducible assumption | with_reducible exact Below.refl _ _ | with_reducible refine Below.alloc ?_ ?_ _ | with_reducible refine Below.drew ?_ | with_reducible refine belowN ?_ _ | with_reducible refine Below.setCell ?_ ?_ _ | go_size)) (Nat.le_refl _) st
    have nR : Blk w2 (w.heap.size + 1) 23 #[.int .i64 (0), .int .i64 (0)] := Blk.steps (by (repeat' first | with_reducible assumption | (with_reducible refine Blk.new' ?_; first | with_reducible rfl | (simp only [World.size_alloc, World.size_setCell, World.size_drew]; done)) | with_reducible refine Blk.alloc ?_ _ | with_reducible refine Blk.drew ?_ | with_reducible refine Blk.drewN ?_ _ | with_reducible apply Blk.both | with_reducible refine Blk.far' ?_ ?_ | (show _ ≠ _; omega))) st
    clear B oR cR0 cR1 fR lR
    clear st
    have B := Bn
    clear Bn
    have oR := nR
    clear nR
    have cR0 : World.cell? w2 ⟨w.heap.size + 1, 0, none⟩ = some (.int .i64 (0)) := oR.c 0 rfl
    have cR1 : World.cell? w2 ⟨w.heap.size + 1, 1, none⟩ = some (.int .i64 (0)) := oR.c 1 rfl
    have fR := oR.fr
    have lR := oR.lt
    go_wp2_with fail
    refine bodyPost_ret (by simp [results, Try.results11, go_sem, cR0, cR1, fR, lR]; rfl) rfl ?_
    show G3 w _ _ _
    rw [H.out]
    exact ⟨rfl, by (repeat' first | with_reducible assumption | with_reducible exact Below.refl _ _ | with_reducible refine Below.alloc ?_ ?_ _ | with_reducible refine Below.drew ?_ | with_reducible refine belowN ?_ _ | with_reducible refine Below.setCell ?_ ?_ _ | go_size)⟩
  · have H : Hid (sqS a b = (0, 0, 8)) := if_neg hv
    have hA : Hid (absS a b = (0, 0, 8)) := if_neg hv
    clear hv
    go_enter Try.func11, Try.ntmps11
    go_wp2_with fail
    refine (rabs a b _).mono ?_
    rintro e w1 ⟨rfl, hb1⟩
    have st : Steps _ w1 := hb1
    have Bn : Below w.heap.size w w1 := below_steps (by (repeat' first | with_reducible assumption | with_reducible exact Below.refl _ _ | with_reducible refine Below.alloc ?_ ?_ _ | with_reducible refine Below.drew ?_ | with_reducible refine belowN ?_ _ | with_reducible refine Below.setCell ?_ ?_ _ | go_size)) (Nat.le_refl _) st
    have nR : Blk w1 (w.heap.size + 1) 23 #[.int .i64 (0), .int .i64 (0)] := Blk.steps (by (repeat' first | with_reducible assumption | (with_reducible refine Blk.new' ?_; first | with_reducible rfl | (simp only [World.size_alloc, World.size_setCell, World.size_drew]; done)) | with_reducible refine Blk.alloc ?_ _ | with_reducible refine Blk.drew ?_ | with_reducible refine Blk.drewN ?_ _ | with_reducible apply Blk.both | with_reducible refine Blk.far' ?_ ?_ | (show _ ≠ _; omega))) st
    clear st
    have B := Bn
    clear Bn
    have oR := nR
    clear nR
    have cR0 : World.cell? w1 ⟨w.heap.size + 1, 0, none⟩ = some (.int .i64 (0)) := oR.c 0 rfl
    have cR1 : World.cell? w1 ⟨w.heap.size + 1, 1, none⟩ = some (.int .i64 (0)) := oR.c 1 rfl
    have fR := oR.fr
    have lR := oR.lt
    rw [hA.out]
    go_wp2_with fail
    refine bodyPost_ret (by simp [results, Try.results11, go_sem, cR0, cR1, fR, lR]; rfl) rfl ?_
    show G3 w _ _ _
    rw [H.out]
    exact ⟨rfl, by (repeat' first | with_reducible assumption | with_reducible exact Below.refl _ _ | with_reducible refine Below.alloc ?_ ?_ _ | with_reducible refine Below.drew ?_ | with_reducible refine belowN ?_ _ | with_reducible refine Below.setCell ?_ ?_ _ | go_size)⟩
set_option maxRecDepth 100000 in
set_option maxHeartbeats 4000000 in
theorem rsqrt (a b : Int) (w : World) : Calls Try.prog 13 #[.agg #[.int .i64 a, .int .i64 b]] w (G3 w (sqrtS a b)) := by
  by_cases hv : V a b
  · have H1 : Hid (errV (V a b) = 0) := if_pos hv
    have H0 : Hid (sqrtS a b = sqrtV a b) := if_pos hv
    obtain ⟨v0, v1, v2⟩ := hv
    by_cases ha : a < 0
    · have H : Hid (sqrtV a b = (0, 0, 2)) := if_pos ha
      go_enter Try.func13, Try.ntmps13
      go_wp2_with fail
      refine (rcheck a b _).mono ?_
      rintro e w1 ⟨rfl, hb1⟩
      have st : Steps _ w1 := hb1
      have Bn : Below w.heap.size w w1 := below_steps (by (repeat' first | with_reducible assumption | with_reducible exact Below.refl _ _ | with_reducible refine Below.alloc ?_ ?_ _ | with_reducible refine Below.drew ?_ | with_reducible refine belowN ?_ _ | with_reducible refine Below.setCell ?_ ?_ _ | go_size)) (Nat.le_refl _) st
      have nA : Blk w1 (w.heap.size) 23 #[.int .i64 (a), .int .i64 (b)] := Blk.steps (by (repeat' first | with_reducible assumption | (with_reducible refine Blk.new' ?_; first | with_reducible rfl | (simp only [World.size_alloc, World.size_setCell, World.size_drew]; done)) | with_reducible refine Blk.alloc ?_ _ | with_reducible refine Blk.drew ?_ | with_reducible refine Blk.drewN ?_ _ | with_reducible apply Blk.both | with_reducible refine Blk.far' ?_ ?_ | (show _ ≠ _; omega))) st
      have nR : Blk w1 (w.heap.size + 1) 23 #[.int .i64 (0), .int .i64 (0)] := Blk.steps (by (repeat' first | with_reducible assumption | (with_reducible refine Blk.new' ?_; first | with_reducible rfl | (simp only [World.size_alloc, World.size_setCell, World.size_drew]; done)) | with_reducible refine Blk.alloc ?_ _ | with_reducible refine Blk.drew ?_ | with_reducible refine Blk.drewN ?_ _ | with_reducible apply Blk.both | with_reducible refine Blk.far' ?_ ?_ | (show _ ≠ _; omega))) st
      clear st
      have B := Bn
      clear Bn
      have oA := nA
      clear nA
      have cA0 : World.cell? w1 ⟨w.heap.size, 0, none⟩ = some (.int .i64 (a)) := oA.c 0 rfl
      have cA1 : World.cell? w1 ⟨w.heap.size, 1, none⟩ = some (.int .i64 (b)) := oA.c 1 rfl
      have fA := oA.fr
      have lA := oA.lt
      have oR := nR
      clear nR
      have cR0 : World.cell? w1 ⟨w.heap.size + 1, 0, none⟩ = some (.int .i64 (0)) := oR.c 0 rfl
      have cR1 : World.cell? w1 ⟨w.heap.size + 1, 1, none⟩ = some (.int .i64 (0)) := oR.c 1 rfl
      have fR := oR.fr
      have lR := oR.lt
      rw [H1.out]
      go_wp2_with fail
      refine bodyPost_ret (by simp [results, Try.results13, go_sem, cR0, cR1, fR, lR]; rfl) rfl ?_
      show G3 w _ _ _
      rw [H0.out, H.out]
      exact ⟨rfl, by (repeat' first | with_reducible assumption | with_reducible exact Below.refl _ _ | with_reducible refine Below.alloc ?_ ?_ _ | with_reducible refine Below.drew ?_ | with_reducible refine belowN ?_ _ | with_reducible refine Below.setCell ?_ ?_ _ | go_size)⟩
    · obtain ⟨r0, r1⟩ := isqrt_b (n := a * 1099511627776) (by omega) (by omega)
      obtain ⟨s0, s1⟩ := isqrt_b (n := b * 1099511627776) (by omega) (by omega)
      by_cases he : isqrt (b * 1099511627776) * isqrt (b * 1099511627776) = b * 1099511627776
      · have H : Hid (sqrtV a b = md (isqrt (a * 1099511627776)) (isqrt (b * 1099511627776))) := by show sqrtV a b = _; rw [md_ok (by omega) (by omega)]; unfold sqrtV; rw [if_neg ha, if_pos he]
        have HD : Hid (decide (isqrt (b * 1099511627776) * isqrt (b * 1099511627776) = b * 1099511627776) = true) := by show decide _ = _; simp [he]
        clear he
        go_enter Try.func13, Try.ntmps13
        go_wp2_with fail
        refine (rcheck a b _).mono ?_
        rintro e w1 ⟨rfl, hb1⟩
        have st : Steps _ w1 := hb1
        have Bn : Below w.heap.size w w1 := below_steps (by (repeat' first | with_reducible assumption | with_reducible exact Below.refl _ _ | with_reducible refine Below.alloc ?_ ?_ _ | with_reducible refine Below.drew ?_ | with_reducible refine belowN ?_ _ | with_reducible refine Below.setCell ?_ ?_ _ | go_size)) (Nat.le_refl _) st
        have nA : Blk w1 (w.heap.size) 23 #[.int .i64 (a), .int .i64 (b)] := Blk.steps (by (repeat' first | with_reducible assumption | (with_reducible refine Blk.new' ?_; first | with_reducible rfl | (simp only [World.size_alloc, World.size_setCell, World.size_drew]; done)) | with_reducible refine Blk.alloc ?_ _ | with_reducible refine Blk.drew ?_ | with_reducible refine Blk.drewN ?_ _ | with_reducible apply Blk.both | with_reducible refine Blk.far' ?_ ?_ | (show _ ≠ _; omega))) st
        have nR : Blk w1 (w.heap.size + 1) 23 #[.int .i64 (0), .int .i64 (0)] := Blk.steps (by (repeat' first | with_reducible assumption | (with_reducible refine Blk.new' ?_; first | with_reducible rfl | (simp only [World.size_alloc, World.size_setCell, World.size_drew]; done)) | with_reducible refine Blk.alloc ?_ _ | with_reducible refine Blk.drew ?_ | with_reducible refine Blk.drewN ?_ _ | with_reducible apply Blk.both | with_reducible refine Blk.far' ?_ ?_ | (show _ ≠ _; omega))) st
        clear st
        have B := Bn
        clear Bn
        have oA := nA
        clear nA
        have cA0 : World.cell? w1 ⟨w.heap.size, 0, none⟩ = some (.int .i64 (a)) := oA.c 0 rfl
        have cA1 : World.cell? w1 ⟨w.heap.size, 1, none⟩ = some (.int .i64 (b)) := oA.c 1 rfl
        have fA := oA.fr
        have lA := oA.lt
        have oR := nR
        clear nR
        have cR0 : World.cell? w1 ⟨w.heap.size + 1, 0, none⟩ = some (.int .i64 (0)) := oR.c 0 rfl
        have cR1 : World.cell? w1 ⟨w.heap.size + 1, 1, none⟩ = some (.int .i64 (0)) := oR.c 1 rfl
        have fR := oR.fr
        have lR := oR.lt
        rw [H1.out]
        go_wp2_with fail
        refine (rroot a _ (by omega) (by omega)).mono ?_
        rintro e w2 ⟨rfl, hb2⟩
        have st : Steps _ w2 := hb2
        have Bn : Below w.heap.size w w2 := below_steps (by (repeat' first | with_reducible assumption | with_reducible exact Below.refl _ _ | with_reducible refine Below.alloc ?_ ?_ _ | with_reducible refine Below.drew ?_ | with_reducible refine belowN ?_ _ | with_reducible refine Below.setCell ?_ ?_ _ | go_size)) (Nat.le_refl _) st
        have nA : Blk w2 (w.heap.size) 23 #[.int .i64 (a), .int .i64 (b)] := Blk.steps (by (repeat' first | with_reducible assumption | (with_reducible refine Blk.new' ?_; first | with_reducible rfl | (simp only [World.size_alloc, World.size_setCell, World.size_drew]; done)) | with_reducible refine Blk.alloc ?_ _ | with_reducible refine Blk.drew ?_ | with_reducible refine Blk.drewN ?_ _ | with_reducible apply Blk.both | with_reducible refine Blk.far' ?_ ?_ | (show _ ≠ _; omega))) st
        have nR : Blk w2 (w.heap.size + 1) 23 #[.int .i64 (0), .int .i64 (0)] := Blk.steps (by (repeat' first | with_reducible assumption | (with_reducible refine Blk.new' ?_; first | with_reducible rfl | (simp only [World.size_alloc, World.size_setCell, World.size_drew]; done)) | with_reducible refine Blk.alloc ?_ _ | with_reducible refine Blk.drew ?_ | with_reducible refine Blk.drewN ?_ _ | with_reducible apply Blk.both | with_reducible refine Blk.far' ?_ ?_ | (show _ ≠ _; omega))) st
        clear B oA oR cA0 cA1 fA lA cR0 cR1 fR lR
        clear st
        have B := Bn
        clear Bn
        have oA := nA
        clear nA
        have cA0 : World.cell? w2 ⟨w.heap.size, 0, none⟩ = some (.int .i64 (a)) := oA.c 0 rfl
        have cA1 : World.cell? w2 ⟨w.heap.size, 1, none⟩ = some (.int .i64 (b)) := oA.c 1 rfl
        have fA := oA.fr
        have lA := oA.lt
        have oR := nR
        clear nR
        have cR0 : World.cell? w2 ⟨w.heap.size + 1, 0, none⟩ = some (.int .i64 (0)) := oR.c 0 rfl
        have cR1 : World.cell? w2 ⟨w.heap.size + 1, 1, none⟩ = some (.int .i64 (0)) := oR.c 1 rfl
        have fR := oR.fr
        have lR := oR.lt
        go_wp2_with fail
        refine (rroot b _ (by omega) (by omega)).mono ?_
        rintro e w3 ⟨rfl, hb3⟩
        have st : Steps _ w3 := hb3
        have Bn : Below w.heap.size w w3 := below_steps (by (repeat' first | with_reducible assumption | with_reducible exact Below.refl _ _ | with_reducible refine Below.alloc ?_ ?_ _ | with_reducible refine Below.drew ?_ | with_reducible refine belowN ?_ _ | with_reducible refine Below.setCell ?_ ?_ _ | go_size)) (Nat.le_refl _) st
        have nA : Blk w3 (w.heap.size) 23 #[.int .i64 (a), .int .i64 (b)] := Blk.steps (by (repeat' first | with_reducible assumption | (with_reducible refine Blk.new' ?_; first | with_reducible rfl | (simp only [World.size_alloc, World.size_setCell, World.size_drew]; done)) | with_reducible refine Blk.alloc ?_ _ | with_reducible refine Blk.drew ?_ | with_reducible refine Blk.drewN ?_ _ | with_reducible apply Blk.both | with_reducible refine Blk.far' ?_ ?_ | (show _ ≠ _; omega))) st
        have nR : Blk w3 (w.heap.size + 1) 23 #[.int .i64 (0), .int .i64 (0)] := Blk.steps (by (repeat' first | with_reducible assumption | (with_reducible refine Blk.new' ?_; first | with_reducible rfl | (simp only [World.size_alloc, World.size_setCell, World.size_drew]; done)) | with_reducible refine Blk.alloc ?_ _ | with_reducible refine Blk.drew ?_ | with_reducible refine Blk.drewN ?_ _ | with_reducible apply Blk.both | with_reducible refine Blk.far' ?_ ?_ | (show _ ≠ _; omega))) st
        clear B oA oR cA0 cA1 fA lA cR0 cR1 fR lR
        clear st
        have B := Bn
        clear Bn
        have oA := nA
        clear nA
        have cA0 : World.cell? w3 ⟨w.heap.size, 0, none⟩ = some (.int .i64 (a)) := oA.c 0 rfl
        have cA1 : World.cell? w3 ⟨w.heap.size, 1, none⟩ = some (.int .i64 (b)) := oA.c 1 rfl
        have fA := oA.fr
        have lA := oA.lt
        have oR := nR
        clear nR
        have cR0 : World.cell? w3 ⟨w.heap.size + 1, 0, none⟩ = some (.int .i64 (0)) := oR.c 0 rfl
        have cR1 : World.cell? w3 ⟨w.heap.size + 1, 1, none⟩ = some (.int .i64 (0)) := oR.c 1 rfl
        have fR := oR.fr
        have lR := oR.lt
        rw [HD.out]
        go_wp2_with fail
        refine (rmade _ _ _).mono ?_
        rintro e w4 ⟨rfl, hb4⟩
        have st : Steps _ w4 := hb4
        have Bn : Below w.heap.size w w4 := below_steps (by (repeat' first | with_reducible assumption | with_reducible exact Below.refl _ _ | with_reducible refine Below.alloc ?_ ?_ _ | with_reducible refine Below.drew ?_ | with_reducible refine belowN ?_ _ | with_reducible refine Below.setCell ?_ ?_ _ | go_size)) (Nat.le_refl _) st
        have nA : Blk w4 (w.heap.size) 23 #[.int .i64 (a), .int .i64 (b)] := Blk.steps (by (repeat' first | with_reducible assumption | (with_reducible refine Blk.new' ?_; first | with_reducible rfl | (simp only [World.size_alloc, World.size_setCell, World.size_drew]; done)) | with_reducible refine Blk.alloc ?_ _ | with_reducible refine Blk.drew ?_ | with_reducible refine Blk.drewN ?_ _ | with_reducible apply Blk.both | with_reducible refine Blk.far' ?_ ?_ | (show _ ≠ _; omega))) st
        have nR : Blk w4 (w.heap.size + 1) 23 #[.int .i64 (0), .int .i64 (0)] := Blk.steps (by (repeat' first | with_reducible assumption | (with_reducible refine Blk.new' ?_; first | with_reducible rfl | (simp only [World.size_alloc, World.size_setCell, World.size_drew]; done)) | with_reducible refine Blk.alloc ?_ _ | with_reducible refine Blk.drew ?_ | with_reducible refine Blk.drewN ?_ _ | with_reducible apply Blk.both | with_reducible refine Blk.far' ?_ ?_ | (show _ ≠ _; omega))) st
        clear B oA oR cA0 cA1 fA lA cR0 cR1 fR lR
        clear st
        have B := Bn
        clear Bn
        have oA := nA
        clear nA
        have cA0 : World.cell? w4 ⟨w.heap.size, 0, none⟩ = some (.int .i64 (a)) := oA.c 0 rfl
        have cA1 : World.cell? w4 ⟨w.heap.size, 1, none⟩ = some (.int .i64 (b)) := oA.c 1 rfl
        have fA := oA.fr
        have lA := oA.lt
        have oR := nR
        clear nR
        have cR0 : World.cell? w4 ⟨w.heap.size + 1, 0, none⟩ = some (.int .i64 (0)) := oR.c 0 rfl
        have cR1 : World.cell? w4 ⟨w.heap.size + 1, 1, none⟩ = some (.int .i64 (0)) := oR.c 1 rfl
        have fR := oR.fr
        have lR := oR.lt
        go_wp2_with fail
        refine bodyPost_ret (by simp [results, Try.results13, go_sem, cR0, cR1, fR, lR]; rfl) rfl ?_
        show G3 w _ _ _
        rw [H0.out, H.out]
        exact ⟨rfl, by (repeat' first | with_reducible assumption | with_reducible exact Below.refl _ _ | with_reducible refine Below.alloc ?_ ?_ _ | with_reducible refine Below.drew ?_ | with_reducible refine belowN ?_ _ | with_reducible refine Below.setCell ?_ ?_ _ | go_size)⟩
      · have H : Hid (sqrtV a b = md (isqrt (a * 1099511627776)) (isqrt (b * 1099511627776) + 1)) := by show sqrtV a b = _; rw [md_ok (by omega) (by omega)]; unfold sqrtV; rw [if_neg ha, if_neg he]
        have HD : Hid (decide (isqrt (b * 1099511627776) * isqrt (b * 1099511627776) = b * 1099511627776) = false) := by show decide _ = _; simp [he]
        clear he
        go_enter Try.func13, Try.ntmps13
        go_wp2_with fail
        refine (rcheck a b _).mono ?_
        rintro e w1 ⟨rfl, hb1⟩
        have st : Steps _ w1 := hb1
        have Bn : Below w.heap.size w w1 := below_steps (by (repeat' first | with_reducible assumption | with_reducible exact Below.refl _ _ | with_reducible refine Below.alloc ?_ ?_ _ | with_reducible refine Below.drew ?_ | with_reducible refine belowN ?_ _ | with_reducible refine Below.setCell ?_ ?_ _ | go_size)) (Nat.le_refl _) st
        have nA : Blk w1 (w.heap.size) 23 #[.int .i64 (a), .int .i64 (b)] := Blk.steps (by (repeat' first | with_reducible assumption | (with_reducible refine Blk.new' ?_; first | with_reducible rfl | (simp only [World.size_alloc, World.size_setCell, World.size_drew]; done)) | with_reducible refine Blk.alloc ?_ _ | with_reducible refine Blk.drew ?_ | with_reducible refine Blk.drewN ?_ _ | with_reducible apply Blk.both | with_reducible refine Blk.far' ?_ ?_ | (show _ ≠ _; omega))) st
        have nR : Blk w1 (w.heap.size + 1) 23 #[.int .i64 (0), .int .i64 (0)] := Blk.steps (by (repeat' first | with_reducible assumption | (with_reducible refine Blk.new' ?_; first | with_reducible rfl | (simp only [World.size_alloc, World.size_setCell, World.size_drew]; done)) | with_reducible refine Blk.alloc ?_ _ | with_reducible refine Blk.drew ?_ | with_reducible refine Blk.drewN ?_ _ | with_reducible apply Blk.both | with_reducible refine Blk.far' ?_ ?_ | (show _ ≠ _; omega))) st
        clear st
        have B := Bn
        clear Bn
        have oA := nA
        clear nA
        have cA0 : World.cell? w1 ⟨w.heap.size, 0, none⟩ = some (.int .i64 (a)) := oA.c 0 rfl
        have cA1 : World.cell? w1 ⟨w.heap.size, 1, none⟩ = some (.int .i64 (b)) := oA.c 1 rfl
        have fA := oA.fr
        have lA := oA.lt
        have oR := nR
        clear nR
        have cR0 : World.cell? w1 ⟨w.heap.size + 1, 0, none⟩ = some (.int .i64 (0)) := oR.c 0 rfl
        have cR1 : World.cell? w1 ⟨w.heap.size + 1, 1, none⟩ = some (.int .i64 (0)) := oR.c 1 rfl
        have fR := oR.fr
        have lR := oR.lt
        rw [H1.out]
        go_wp2_with fail
        refine (rroot a _ (by omega) (by omega)).mono ?_
        rintro e w2 ⟨rfl, hb2⟩
        have st : Steps _ w2 := hb2
        have Bn : Below w.heap.size w w2 := below_steps (by (repeat' first | with_reducible assumption | with_reducible exact Below.refl _ _ | with_reducible refine Below.alloc ?_ ?_ _ | with_reducible refine Below.drew ?_ | with_reducible refine belowN ?_ _ | with_reducible refine Below.setCell ?_ ?_ _ | go_size)) (Nat.le_refl _) st
        have nA : Blk w2 (w.heap.size) 23 #[.int .i64 (a), .int .i64 (b)] := Blk.steps (by (repeat' first | with_reducible assumption | (with_reducible refine Blk.new' ?_; first | with_reducible rfl | (simp only [World.size_alloc, World.size_setCell, World.size_drew]; done)) | with_reducible refine Blk.alloc ?_ _ | with_reducible refine Blk.drew ?_ | with_reducible refine Blk.drewN ?_ _ | with_reducible apply Blk.both | with_reducible refine Blk.far' ?_ ?_ | (show _ ≠ _; omega))) st
        have nR : Blk w2 (w.heap.size + 1) 23 #[.int .i64 (0), .int .i64 (0)] := Blk.steps (by (repeat' first | with_reducible assumption | (with_reducible refine Blk.new' ?_; first | with_reducible rfl | (simp only [World.size_alloc, World.size_setCell, World.size_drew]; done)) | with_reducible refine Blk.alloc ?_ _ | with_reducible refine Blk.drew ?_ | with_reducible refine Blk.drewN ?_ _ | with_reducible apply Blk.both | with_reducible refine Blk.far' ?_ ?_ | (show _ ≠ _; omega))) st
        clear B oA oR cA0 cA1 fA lA cR0 cR1 fR lR
        clear st
        have B := Bn
        clear Bn
        have oA := nA
        clear nA
        have cA0 : World.cell? w2 ⟨w.heap.size, 0, none⟩ = some (.int .i64 (a)) := oA.c 0 rfl
        have cA1 : World.cell? w2 ⟨w.heap.size, 1, none⟩ = some (.int .i64 (b)) := oA.c 1 rfl
        have fA := oA.fr
        have lA := oA.lt
        have oR := nR
        clear nR
        have cR0 : World.cell? w2 ⟨w.heap.size + 1, 0, none⟩ = some (.int .i64 (0)) := oR.c 0 rfl
        have cR1 : World.cell? w2 ⟨w.heap.size + 1, 1, none⟩ = some (.int .i64 (0)) := oR.c 1 rfl
        have fR := oR.fr
        have lR := oR.lt
        go_wp2_with fail
        refine (rroot b _ (by omega) (by omega)).mono ?_
        rintro e w3 ⟨rfl, hb3⟩
        have st : Steps _ w3 := hb3
        have Bn : Below w.heap.size w w3 := below_steps (by (repeat' first | with_reducible assumption | with_reducible exact Below.refl _ _ | with_reducible refine Below.alloc ?_ ?_ _ | with_reducible refine Below.drew ?_ | with_reducible refine belowN ?_ _ | with_reducible refine Below.setCell ?_ ?_ _ | go_size)) (Nat.le_refl _) st
        have nA : Blk w3 (w.heap.size) 23 #[.int .i64 (a), .int .i64 (b)] := Blk.steps (by (repeat' first | with_reducible assumption | (with_reducible refine Blk.new' ?_; first | with_reducible rfl | (simp only [World.size_alloc, World.size_setCell, World.size_drew]; done)) | with_reducible refine Blk.alloc ?_ _ | with_reducible refine Blk.drew ?_ | with_reducible refine Blk.drewN ?_ _ | with_reducible apply Blk.both | with_reducible refine Blk.far' ?_ ?_ | (show _ ≠ _; omega))) st
        have nR : Blk w3 (w.heap.size + 1) 23 #[.int .i64 (0), .int .i64 (0)] := Blk.steps (by (repeat' first | with_reducible assumption | (with_reducible refine Blk.new' ?_; first | with_reducible rfl | (simp only [World.size_alloc, World.size_setCell, World.size_drew]; done)) | with_reducible refine Blk.alloc ?_ _ | with_reducible refine Blk.drew ?_ | with_reducible refine Blk.drewN ?_ _ | with_reducible apply Blk.both | with_reducible refine Blk.far' ?_ ?_ | (show _ ≠ _; omega))) st
        clear B oA oR cA0 cA1 fA lA cR0 cR1 fR lR
        clear st
        have B := Bn
        clear Bn
        have oA := nA
        clear nA
        have cA0 : World.cell? w3 ⟨w.heap.size, 0, none⟩ = some (.int .i64 (a)) := oA.c 0 rfl
        have cA1 : World.cell? w3 ⟨w.heap.size, 1, none⟩ = some (.int .i64 (b)) := oA.c 1 rfl
        have fA := oA.fr
        have lA := oA.lt
        have oR := nR
        clear nR
        have cR0 : World.cell? w3 ⟨w.heap.size + 1, 0, none⟩ = some (.int .i64 (0)) := oR.c 0 rfl
        have cR1 : World.cell? w3 ⟨w.heap.size + 1, 1, none⟩ = some (.int .i64 (0)) := oR.c 1 rfl
        have fR := oR.fr
        have lR := oR.lt
        rw [HD.out]
        go_wp2_with fail
        refine (rmade _ _ _).mono ?_
        rintro e w4 ⟨rfl, hb4⟩
        have st : Steps _ w4 := hb4
        have Bn : Below w.heap.size w w4 := below_steps (by (repeat' first | with_reducible assumption | with_reducible exact Below.refl _ _ | with_reducible refine Below.alloc ?_ ?_ _ | with_reducible refine Below.drew ?_ | with_reducible refine belowN ?_ _ | with_reducible refine Below.setCell ?_ ?_ _ | go_size)) (Nat.le_refl _) st
        have nA : Blk w4 (w.heap.size) 23 #[.int .i64 (a), .int .i64 (b)] := Blk.steps (by (repeat' first | with_reducible assumption | (with_reducible refine Blk.new' ?_; first | with_reducible rfl | (simp only [World.size_alloc, World.size_setCell, World.size_drew]; done)) | with_reducible refine Blk.alloc ?_ _ | with_reducible refine Blk.drew ?_ | with_reducible refine Blk.drewN ?_ _ | with_reducible apply Blk.both | with_reducible refine Blk.far' ?_ ?_ | (show _ ≠ _; omega))) st
        have nR : Blk w4 (w.heap.size + 1) 23 #[.int .i64 (0), .int .i64 (0)] := Blk.steps (by (repeat' first | with_reducible assumption | (with_reducible refine Blk.new' ?_; first | with_reducible rfl | (simp only [World.size_alloc, World.size_setCell, World.size_drew]; done)) | with_reducible refine Blk.alloc ?_ _ | with_reducible refine Blk.drew ?_ | with_reducible refine Blk.drewN ?_ _ | with_reducible apply Blk.both | with_reducible refine Blk.far' ?_ ?_ | (show _ ≠ _; omega))) st
        clear B oA oR cA0 cA1 fA lA cR0 cR1 fR lR
        clear st
        have B := Bn
        clear Bn
        have oA := nA
        clear nA
        have cA0 : World.cell? w4 ⟨w.heap.size, 0, none⟩ = some (.int .i64 (a)) := oA.c 0 rfl
        have cA1 : World.cell? w4 ⟨w.heap.size, 1, none⟩ = some (.int .i64 (b)) := oA.c 1 rfl
        have fA := oA.fr
        have lA := oA.lt
        have oR := nR
        clear nR
        have cR0 : World.cell? w4 ⟨w.heap.size + 1, 0, none⟩ = some (.int .i64 (0)) := oR.c 0 rfl
        have cR1 : World.cell? w4 ⟨w.heap.size + 1, 1, none⟩ = some (.int .i64 (0)) := oR.c 1 rfl
        have fR := oR.fr
        have lR := oR.lt
        go_wp2_with fail
        refine bodyPost_ret (by simp [results, Try.results13, go_sem, cR0, cR1, fR, lR]; rfl) rfl ?_
        show G3 w _ _ _
        rw [H0.out, H.out]
        exact ⟨rfl, by (repeat' first | with_reducible assumption | with_reducible exact Below.refl _ _ | with_reducible refine Below.alloc ?_ ?_ _ | with_reducible refine Below.drew ?_ | with_reducible refine belowN ?_ _ | with_reducible refine Below.setCell ?_ ?_ _ | go_size)⟩
  · have H1 : Hid (errV (V a b) = 8) := if_neg hv
    have H : Hid (sqrtS a b = (0, 0, 8)) := if_neg hv
    clear hv
    go_enter Try.func13, Try.ntmps13
    go_wp2_with fail
    refine (rcheck a b _).mono ?_
    rintro e w1 ⟨rfl, hb1⟩
    have st : Steps _ w1 := hb1
    have Bn : Below w.heap.size w w1 := below_steps (by (repeat' first | with_reducible assumption | with_reducible exact Below.refl _ _ | with_reducible refine Below.alloc ?_ ?_ _ | with_reducible refine Below.drew ?_ | with_reducible refine belowN ?_ _ | with_reducible refine Below.setCell ?_ ?_ _ | go_size)) (Nat.le_refl _) st
    have nA : Blk w1 (w.heap.size) 23 #[.int .i64 (a), .int .i64 (b)] := Blk.steps (by (repeat' first | with_reducible assumption | (with_reducible refine Blk.new' ?_; first | with_reducible rfl | (simp only [World.size_alloc, World.size_setCell, World.size_drew]; done)) | with_reducible refine Blk.alloc ?_ _ | with_reducible refine Blk.drew ?_ | with_reducible refine Blk.drewN ?_ _ | with_reducible apply Blk.both | with_reducible refine Blk.far' ?_ ?_ | (show _ ≠ _; omega))) st
    have nR : Blk w1 (w.heap.size + 1) 23 #[.int .i64 (0), .int .i64 (0)] := Blk.steps (by (repeat' first | with_reducible assumption | (with_reducible refine Blk.new' ?_; first | with_reducible rfl | (simp only [World.size_alloc, World.size_setCell, World.size_drew]; done)) | with_reducible refine Blk.alloc ?_ _ | with_reducible refine Blk.drew ?_ | with_reducible refine Blk.drewN ?_ _ | with_reducible apply Blk.both | with_reducible refine Blk.far' ?_ ?_ | (show _ ≠ _; omega))) st
    clear st
    have B := Bn
    clear Bn
    have oA := nA
    clear nA
    have cA0 : World.cell? w1 ⟨w.heap.size, 0, none⟩ = some (.int .i64 (a)) := oA.c 0 rfl
    have cA1 : World.cell? w1 ⟨w.heap.size, 1, none⟩ = some (.int .i64 (b)) := oA.c 1 rfl
    have fA := oA.fr
    have lA := oA.lt
    have oR := nR
    clear nR
    have cR0 : World.cell? w1 ⟨w.heap.size + 1, 0, none⟩ = some (.int .i64 (0)) := oR.c 0 rfl
    have cR1 : World.cell? w1 ⟨w.heap.size + 1, 1, none⟩ = some (.int .i64 (0)) := oR.c 1 rfl
    have fR := oR.fr
    have lR := oR.lt
    rw [H1.out]
    go_wp2_with fail
    refine (rcheck a b _).mono ?_
    rintro e w2 ⟨rfl, hb2⟩
    have st : Steps _ w2 := hb2
    have Bn : Below w.heap.size w w2 := below_steps (by (repeat' first | with_reducible assumption | with_reducible exact Below.refl _ _ | with_reducible refine Below.alloc ?_ ?_ _ | with_reducible refine Below.drew ?_ | with_reducible refine belowN ?_ _ | with_reducible refine Below.setCell ?_ ?_ _ | go_size)) (Nat.le_refl _) st
    have nA : Blk w2 (w.heap.size) 23 #[.int .i64 (a), .int .i64 (b)] := Blk.steps (by (repeat' first | with_reducible assumption | (with_reducible refine Blk.new' ?_; first | with_reducible rfl | (simp only [World.size_alloc, World.size_setCell, World.size_drew]; done)) | with_reducible refine Blk.alloc ?_ _ | with_reducible refine Blk.drew ?_ | with_reducible refine Blk.drewN ?_ _ | with_reducible apply Blk.both | with_reducible refine Blk.far' ?_ ?_ | (show _ ≠ _; omega))) st
    have nR : Blk w2 (w.heap.size + 1) 23 #[.int .i64 (0), .int .i64 (0)] := Blk.steps (by (repeat' first | with_reducible assumption | (with_reducible refine Blk.new' ?_; first | with_reducible rfl | (simp only [World.size_alloc, World.size_setCell, World.size_drew]; done)) | with_reducible refine Blk.alloc ?_ _ | with_reducible refine Blk.drew ?_ | with_reducible refine Blk.drewN ?_ _ | with_reducible apply Blk.both | with_reducible refine Blk.far' ?_ ?_ | (show _ ≠ _; omega))) st
    clear B oA oR cA0 cA1 fA lA cR0 cR1 fR lR
    clear st
    have B := Bn
    clear Bn
    have oA := nA
    clear nA
    have cA0 : World.cell? w2 ⟨w.heap.size, 0, none⟩ = some (.int .i64 (a)) := oA.c 0 rfl
    have cA1 : World.cell? w2 ⟨w.heap.size, 1, none⟩ = some (.int .i64 (b)) := oA.c 1 rfl
    have fA := oA.fr
    have lA := oA.lt
    have oR := nR
    clear nR
    have cR0 : World.cell? w2 ⟨w.heap.size + 1, 0, none⟩ = some (.int .i64 (0)) := oR.c 0 rfl
    have cR1 : World.cell? w2 ⟨w.heap.size + 1, 1, none⟩ = some (.int .i64 (0)) := oR.c 1 rfl
    have fR := oR.fr
    have lR := oR.lt
    rw [H1.out]
    go_wp2_with fail
    refine bodyPost_ret (by simp [results, Try.results13, go_sem, cR0, cR1, fR, lR]; rfl) rfl ?_
    show G3 w _ _ _
    rw [H.out]
    exact ⟨rfl, by (repeat' first | with_reducible assumption | with_reducible exact Below.refl _ _ | with_reducible refine Below.alloc ?_ ?_ _ | with_reducible refine Below.drew ?_ | with_reducible refine belowN ?_ _ | with_reducible refine Below.setCell ?_ ?_ _ | go_size)⟩
