import Derived.Test.YtalnlnpnacfdfaaGreatCSpanH
import Derived.Test.YtalnlnpnacfdfaaGreatCReg
namespace Go.Proofs.YtalnlnpnacfdfaaGreat
open Go.RowKit
def mulV (a b c d : Int) : Int × Int × Int := md (dn (mn (mn (mn (a * c) (a * d)) (b * c)) (b * d)) 1099511627776) (upq (mx (mx (mx (a * c) (a * d)) (b * c)) (b * d)) 1099511627776)
def mulS (a b c d : Int) : Int × Int × Int := ifV (V a b ∧ V c d) (mulV a b c d)
set_option maxRecDepth 100000 in
set_option maxHeartbeats 4000000 in
theorem mul_ok (a b c d : Int) (w : World) (v0 : a ≤ b) (v1 : -2305843009213693952 ≤ a) (v2 : b ≤ 2305843009213693952) (v3 : c ≤ d) (v4 : -2305843009213693952 ≤ c) (v5 : d ≤ 2305843009213693952) : Calls Tryz.prog 13 #[.agg #[.int .i64 a, .int .i64 b], .agg #[.int .i64 c, .int .i64 d]] w (G3 w (mulV a b c d)) := by
  obtain ⟨p0, q0⟩ := prod_b (a := a) (b := c) (m := 2305843009213693952) (n := 2305843009213693952) (by omega) (by omega) (by omega) (by omega)
  obtain ⟨p1, q1⟩ := prod_b (a := a) (b := d) (m := 2305843009213693952) (n := 2305843009213693952) (by omega) (by omega) (by omega) (by omega)
  obtain ⟨p2, q2⟩ := prod_b (a := b) (b := c) (m := 2305843009213693952) (n := 2305843009213693952) (by omega) (by omega) (by omega) (by omega)
  obtain ⟨p3, q3⟩ := prod_b (a := b) (b := d) (m := 2305843009213693952) (n := 2305843009213693952) (by omega) (by omega) (by omega) (by omega)
  have ix0 : ∀ W : World, (Instr.index 60 (.agg #[.int .i64 a, .int .i64 b]) (.int .i64 0)).run Tryz.prog W = .ok (.int .i64 a) W := fun _ => by kernel_rfl
  have ix1 : ∀ W : World, (Instr.index 60 (.agg #[.int .i64 a, .int .i64 b]) (.int .i64 1)).run Tryz.prog W = .ok (.int .i64 b) W := fun _ => by kernel_rfl
  go_enter Tryz.func13, Tryz.ntmps13
  go_wp2_with fail
  refine (check2_ok _ a b c d _ (by go_size) (by simp [go_sem]) (by simp [go_sem]) (by simp [go_sem]) (by simp [go_sem]) v0 v1 v2 v3 v4 v5).mono ?_
  rintro e w1 ⟨rfl, hb1⟩
  have st : Steps _ w1 := hb1
  have Bn : Below w.heap.size w w1 := belowA st
  have nA : Blk w1 (w.heap.size) 23 #[.int .i64 (a), .int .i64 (b)] := Blk.stepsA st
  have nB : Blk w1 (w.heap.size + 1) 23 #[.int .i64 (c), .int .i64 (d)] := Blk.stepsA st
  have nR : Blk w1 (w.heap.size + 1 + 1) 23 #[.int .i64 (0), .int .i64 (0)] := Blk.stepsA st
  clear st
  have B := Bn
  clear Bn
  have oA := nA
  clear nA
  have cA0 := oA.q0
  have cA1 := oA.q1
  have fA := oA.fr
  have lA := oA.lt
  have oB := nB
  clear nB
  have cB0 := oB.q0
  have cB1 := oB.q1
  have fB := oB.fr
  have lB := oB.lt
  have oR := nR
  clear nR
  have cR0 := oR.q0
  have cR1 := oR.q1
  have fR := oR.fr
  have lR := oR.lt
  go_wp2_with fail
  refine wp_loop_rounds 3 ?_
  rw [rounds_succ]
  go_wp2_with fail
  refine Reg.wp_chain (fun D v W => Below w.heap.size w W ∧ Blk W (w.heap.size) 23 #[.int .i64 (a), .int .i64 (b)] ∧ Blk W (w.heap.size + 1) 23 #[.int .i64 (c), .int .i64 (d)] ∧ Blk W (w.heap.size + 1 + 1) 23 #[.int .i64 (0), .int .i64 (0)] ∧ Blk W (w1.heap.size) 59 #[Reg.sel (D 14) (.int .i64 0) (.int .i64 (hi64 (a * c))), Reg.sel (D 14) (.int .u64 0) (.int .u64 (lo64 (a * c))), Reg.sel (D 16) (.int .i64 0) (.int .i64 (hi64 (a * d))), Reg.sel (D 16) (.int .u64 0) (.int .u64 (lo64 (a * d))), .int .i64 0, .int .u64 0, .int .i64 0, .int .u64 0])
    (Reg.inl [8, 12, 14, 16]) (Reg.ge [(8, .agg #[.int .i64 (hi64 (a * c)), .int .u64 (lo64 (a * c))]), (12, .agg #[.int .i64 (hi64 (a * d)), .int .u64 (lo64 (a * d))])]) Reg.None_ (fun _ => Reg.Any) (fun _ _ => False) (Reg.pl []) (Reg.pl [])
    (by kernel_rfl) (by kernel_rfl) (by kernel_rfl) (Reg.ge_some _) (fun v => ?_) (fun _ _ _ _ _ h => h) (fun _ _ _ _ _ _ _ _ _ _ _ _ _ => Reg.none_) (fun _ _ _ _ h => h.elim) (fun ops' Q' hops hQ => ?_)
  · exact ⟨(by first | with_reducible exact Below.drew B | with_reducible exact Below.drew (belowN B _) | (repeat' first | with_reducible assumption | with_reducible exact Below.refl _ _ | with_reducible refine Below.alloc ?_ ?_ _ | with_reducible refine Below.drew ?_ | with_reducible refine belowN ?_ _ | with_reducible refine Below.setCell ?_ ?_ _ | go_size)), (show Blk _ _ _ #[.int .i64 (a), .int .i64 (b)] from (by first | with_reducible exact oA | (repeat' first | with_reducible assumption | (with_reducible refine Blk.new' ?_; first | with_reducible rfl | (simp only [World.size_alloc, World.size_setCell, World.size_drew]; done)) | with_reducible refine Blk.alloc ?_ _ | with_reducible refine Blk.drew ?_ | with_reducible refine Blk.drewN ?_ _ | with_reducible apply Blk.both | with_reducible refine Blk.far' ?_ ?_ | (show _ ≠ _; omega)))), (show Blk _ _ _ #[.int .i64 (c), .int .i64 (d)] from (by first | with_reducible exact oB | (repeat' first | with_reducible assumption | (with_reducible refine Blk.new' ?_; first | with_reducible rfl | (simp only [World.size_alloc, World.size_setCell, World.size_drew]; done)) | with_reducible refine Blk.alloc ?_ _ | with_reducible refine Blk.drew ?_ | with_reducible refine Blk.drewN ?_ _ | with_reducible apply Blk.both | with_reducible refine Blk.far' ?_ ?_ | (show _ ≠ _; omega)))), (show Blk _ _ _ #[.int .i64 (0), .int .i64 (0)] from (by first | with_reducible exact oR | (repeat' first | with_reducible assumption | (with_reducible refine Blk.new' ?_; first | with_reducible rfl | (simp only [World.size_alloc, World.size_setCell, World.size_drew]; done)) | with_reducible refine Blk.alloc ?_ _ | with_reducible refine Blk.drew ?_ | with_reducible refine Blk.drewN ?_ _ | with_reducible apply Blk.both | with_reducible refine Blk.far' ?_ ?_ | (show _ ≠ _; omega)))), (show Blk _ _ _ #[.int .i64 0, .int .u64 0, .int .i64 0, .int .u64 0, .int .i64 0, .int .u64 0, .int .i64 0, .int .u64 0] from (by first | with_reducible exact oL | (repeat' first | with_reducible assumption | (with_reducible refine Blk.new' ?_; first | with_reducible rfl | (simp only [World.size_alloc, World.size_setCell, World.size_drew]; done)) | with_reducible refine Blk.alloc ?_ _ | with_reducible refine Blk.drew ?_ | with_reducible refine Blk.drewN ?_ _ | with_reducible apply Blk.both | with_reducible refine Blk.far' ?_ ?_ | (show _ ≠ _; omega))))⟩
  clear B oA oB oR
  apply Reg.RC_pure (hc := rfl) (hst := rfl) (hw := rfl) (t := 27) (hd := rfl) (ht := Nat.le_of_ble_eq_true rfl)
  · intro D v W hc hj hf K hK
    go_step
    exact hK.out
  · rfl
  apply Reg.RC_pure (hc := rfl) (hst := rfl) (hw := rfl) (t := 28) (hd := rfl) (ht := Nat.le_of_ble_eq_true rfl)
  · intro D v W hc hj hf K hK
    go_step
    exact hK.out
  · rfl
  apply Reg.RC_pure (hc := rfl) (hst := rfl) (hw := rfl) (t := 29) (hd := rfl) (ht := Nat.le_of_ble_eq_true rfl)
  · intro D v W hc hj hf K hK
    go_step
    exact hK.out
  · rfl
  apply Reg.RC_pure (hc := rfl) (hst := rfl) (hw := rfl) (t := 30) (hd := rfl) (ht := Nat.le_of_ble_eq_true rfl)
  · intro D v W hc hj hf K hK
    go_step
    exact hK.out
  · rfl
  apply Reg.RC_pure (hc := rfl) (hst := rfl) (hw := rfl) (t := 31) (hd := rfl) (ht := Nat.le_of_ble_eq_true rfl)
  · intro D v W hc hj hf K hK
    go_step
    exact hK.out
  · rfl
  apply Reg.RC_pure (hc := rfl) (hst := rfl) (hw := rfl) (t := 32) (hd := rfl) (ht := Nat.le_of_ble_eq_true rfl)
  · intro D v W hc hj hf K hK
    go_step
    exact hK.out
  · rfl
  apply Reg.RC_pure (hc := rfl) (hst := rfl) (hw := rfl) (t := 33) (hd := rfl) (ht := Nat.le_of_ble_eq_true rfl)
  · intro D v W hc hj hf K hK
    go_step
    exact hK.out
  · rfl
  apply Reg.RC_pure (hc := rfl) (hst := rfl) (hw := rfl) (t := 34) (hd := rfl) (ht := Nat.le_of_ble_eq_true rfl)
  · intro D v W hc hj hf K hK
    obtain ⟨B, oA, oB, oR, oL⟩ := hj
    have cB0 := oB.q0
    have cB1 := oB.q1
    go_step
    exact hK.out
  · rfl
  refine Reg.RC_exact _ (fun _ h => h) rfl (by intro t ht; cases ht; exact Nat.le_of_ble_eq_true rfl) rfl (fun D v W hc hj hf K hK => ?_) (Reg.RC_at (b := ⟨#[_,_,_,_,_,_,_,_,_,_,_,_,_,_,_,_,_,_,_,_,_,_,_,_,_,_,_,_,_,_,_,_,_,_,_,_,_,_,_,_,_,_,_,_,_,_,_,_,_,_,_,_,_,_,_,_], []⟩) rfl ?_)
  · obtain ⟨B, oA, oB, oR, oL⟩ := hj
    go_step
    refine (times_any _ _ _ (by omega) (by omega) (by omega) (by omega)).mono ?_
    rintro e W' ⟨rfl, hb⟩
    have st : Steps W W' := hb
    exact hK.out _ _ Reg.any ⟨below_steps B (Nat.le_refl _) st, oA.steps st, oB.steps st, oR.steps st, oL.steps st⟩ Reg.none_ rfl
  apply Reg.RC_pure (hc := rfl) (hst := rfl) (hw := rfl) (t := 36) (hd := rfl) (ht := Nat.le_of_ble_eq_true rfl)
  · intro D v W hc hj hf K hK
    go_step
    exact hK.out
  · rfl
  apply Reg.RC_pure (hc := rfl) (hst := rfl) (hw := rfl) (t := 37) (hd := rfl) (ht := Nat.le_of_ble_eq_true rfl)
  · intro D v W hc hj hf K hK
    go_step
    exact hK.out
  · rfl
  apply Reg.RC_pure (hc := rfl) (hst := rfl) (hw := rfl) (t := 38) (hd := rfl) (ht := Nat.le_of_ble_eq_true rfl)
  · intro D v W hc hj hf K hK
    obtain ⟨B, oA, oB, oR, oL⟩ := hj
    have cB0 := oB.q0
    have cB1 := oB.q1
    go_step
    exact hK.out
  · rfl
  refine Reg.RC_exact _ (fun _ h => h) rfl (by intro t ht; cases ht; exact Nat.le_of_ble_eq_true rfl) rfl (fun D v W hc hj hf K hK => ?_) (Reg.RC_at (b := ⟨#[_,_,_,_,_,_,_,_,_,_,_,_,_,_,_,_,_,_,_,_,_,_,_,_,_,_,_,_,_,_,_,_,_,_,_,_,_,_,_,_,_,_,_,_,_,_,_,_,_,_,_,_,_,_,_,_], []⟩) rfl ?_)
  · obtain ⟨B, oA, oB, oR, oL⟩ := hj
    go_step
    refine (times_any _ _ _ (by omega) (by omega) (by omega) (by omega)).mono ?_
    rintro e W' ⟨rfl, hb⟩
    have st : Steps W W' := hb
    exact hK.out _ _ Reg.any ⟨below_steps B (Nat.le_refl _) st, oA.steps st, oB.steps st, oR.steps st, oL.steps st⟩ Reg.none_ rfl
  apply Reg.RC_pure (hc := rfl) (hst := rfl) (hw := rfl) (t := 40) (hd := rfl) (ht := Nat.le_of_ble_eq_true rfl)
  · intro D v W hc hj hf K hK
    go_step
    exact hK.out
  · rfl
  refine Reg.RC_call rfl (by intro t ht; cases ht) rfl (fun D v W hc hj hf K hK => ?_) (fun _ _ => Reg.RC_at (b := ⟨_, []⟩) rfl ?_)
  · obtain ⟨B, oA, oB, oR, oL⟩ := hj
    have hs : D 14 = false := hc.1
    have oL : Blk W (w1.heap.size) 59 #[.int .i64 0, .int .u64 0, Reg.sel (D 16) (.int .i64 0) (.int .i64 (hi64 (a * d))), Reg.sel (D 16) (.int .u64 0) (.int .u64 (lo64 (a * d))), .int .i64 0, .int .u64 0, .int .i64 0, .int .u64 0] := by have o := oL; simp only [hs, Reg.sel_false] at o; exact o
    have lL := oL.lt
    have fL := oL.fr
    have cL0 := oL.q0
    have cL1 := oL.q1
    go_step
    exact hK.out undef _ Reg.any ⟨(by (repeat' first | with_reducible assumption | with_reducible exact Below.refl _ _ | with_reducible refine Below.alloc ?_ ?_ _ | with_reducible refine Below.drew ?_ | with_reducible refine belowN ?_ _ | with_reducible refine Below.setCell ?_ ?_ _ | go_size)), (show Blk _ _ _ #[.int .i64 (a), .int .i64 (b)] from ownB), (show Blk _ _ _ #[.int .i64 (c), .int .i64 (d)] from ownB), (show Blk _ _ _ #[.int .i64 (0), .int .i64 (0)] from ownB), (show Blk _ _ _ #[.int .i64 (hi64 (a * c)), .int .u64 (lo64 (a * c)), Reg.sel (D 16) (.int .i64 0) (.int .i64 (hi64 (a * d))), Reg.sel (D 16) (.int .u64 0) (.int .u64 (lo64 (a * d))), .int .i64 0, .int .u64 0, .int .i64 0, .int .u64 0] from (Blk.set2 (cs' := #[.int .i64 (hi64 (a * c)), .int .u64 (lo64 (a * c)), Reg.sel (D 16) (.int .i64 0) (.int .i64 (hi64 (a * d))), Reg.sel (D 16) (.int .u64 0) (.int .u64 (lo64 (a * d))), .int .i64 0, .int .u64 0, .int .i64 0, .int .u64 0]) (Blk.set2 (cs' := #[.int .i64 (hi64 (a * c)), .int .u64 0, Reg.sel (D 16) (.int .i64 0) (.int .i64 (hi64 (a * d))), Reg.sel (D 16) (.int .u64 0) (.int .u64 (lo64 (a * d))), .int .i64 0, .int .u64 0, .int .i64 0, .int .u64 0]) oL (i := 0) rfl) (i := 1) rfl))⟩ Reg.none_ trivial
  apply Reg.RC_pure (hc := rfl) (hst := rfl) (hw := rfl) (t := 41) (hd := rfl) (ht := Nat.le_of_ble_eq_true rfl)
  · intro D v W hc hj hf K hK
    go_step
    exact hK.out
  · rfl
  refine Reg.RC_call rfl (by intro t ht; cases ht) rfl (fun D v W hc hj hf K hK => ?_) (fun _ _ => Reg.RC_at (b := ⟨_, []⟩) rfl ?_)
  · obtain ⟨B, oA, oB, oR, oL⟩ := hj
    have hs : D 16 = false := hc.1
    have oL : Blk W (w1.heap.size) 59 #[Reg.sel (D 14) (.int .i64 0) (.int .i64 (hi64 (a * c))), Reg.sel (D 14) (.int .u64 0) (.int .u64 (lo64 (a * c))), .int .i64 0, .int .u64 0, .int .i64 0, .int .u64 0, .int .i64 0, .int .u64 0] := by have o := oL; simp only [hs, Reg.sel_false] at o; exact o
    have lL := oL.lt
    have fL := oL.fr
    have cL2 := oL.q2
    have cL3 := oL.q3
    go_step
    exact hK.out undef _ Reg.any ⟨(by (repeat' first | with_reducible assumption | with_reducible exact Below.refl _ _ | with_reducible refine Below.alloc ?_ ?_ _ | with_reducible refine Below.drew ?_ | with_reducible refine belowN ?_ _ | with_reducible refine Below.setCell ?_ ?_ _ | go_size)), (show Blk _ _ _ #[.int .i64 (a), .int .i64 (b)] from ownB), (show Blk _ _ _ #[.int .i64 (c), .int .i64 (d)] from ownB), (show Blk _ _ _ #[.int .i64 (0), .int .i64 (0)] from ownB), (show Blk _ _ _ #[Reg.sel (D 14) (.int .i64 0) (.int .i64 (hi64 (a * c))), Reg.sel (D 14) (.int .u64 0) (.int .u64 (lo64 (a * c))), .int .i64 (hi64 (a * d)), .int .u64 (lo64 (a * d)), .int .i64 0, .int .u64 0, .int .i64 0, .int .u64 0] from (Blk.set2 (cs' := #[Reg.sel (D 14) (.int .i64 0) (.int .i64 (hi64 (a * c))), Reg.sel (D 14) (.int .u64 0) (.int .u64 (lo64 (a * c))), .int .i64 (hi64 (a * d)), .int .u64 (lo64 (a * d)), .int .i64 0, .int .u64 0, .int .i64 0, .int .u64 0]) (Blk.set2 (cs' := #[Reg.sel (D 14) (.int .i64 0) (.int .i64 (hi64 (a * c))), Reg.sel (D 14) (.int .u64 0) (.int .u64 (lo64 (a * c))), .int .i64 (hi64 (a * d)), .int .u64 0, .int .i64 0, .int .u64 0, .int .i64 0, .int .u64 0]) oL (i := 2) rfl) (i := 3) rfl))⟩ Reg.none_ trivial
  refine Reg.RC_end (fun D v W hd hj hf => ?_)
  obtain ⟨B, oA, oB, oR, oL⟩ := hj
  have e14 : D 14 = true := hd 14 (by decide)
  have e16 : D 16 = true := hd 16 (by decide)
  have oL : Blk W (w1.heap.size) 59 #[.int .i64 (hi64 (a * c)), .int .u64 (lo64 (a * c)), .int .i64 (hi64 (a * d)), .int .u64 (lo64 (a * d)), .int .i64 0, .int .u64 0, .int .i64 0, .int .u64 0] := by have o := oL; simp only [e14, e16, Reg.sel_true] at o; exact o
  clear e14 e16
  clear hd hf
  refine hQ _ _ ?_
  clear hQ hops Q' ops'
  repeat' (first | go_values | go_skip | go_guarded | go_step | go_upon)
  rw [rounds_succ]
  repeat' (first | go_values | go_skip | go_guarded | go_step | go_upon)
  refine Reg.wp_chain (fun D v W => Below w.heap.size w W ∧ Blk W (w.heap.size) 23 #[.int .i64 (a), .int .i64 (b)] ∧ Blk W (w.heap.size + 1) 23 #[.int .i64 (c), .int .i64 (d)] ∧ Blk W (w.heap.size + 1 + 1) 23 #[.int .i64 (0), .int .i64 (0)] ∧ Blk W (w1.heap.size) 59 #[.int .i64 (hi64 (a * c)), .int .u64 (lo64 (a * c)), .int .i64 (hi64 (a * d)), .int .u64 (lo64 (a * d)), Reg.sel (D 14) (.int .i64 0) (.int .i64 (hi64 (b * c))), Reg.sel (D 14) (.int .u64 0) (.int .u64 (lo64 (b * c))), Reg.sel (D 16) (.int .i64 0) (.int .i64 (hi64 (b * d))), Reg.sel (D 16) (.int .u64 0) (.int .u64 (lo64 (b * d)))])
    (Reg.inl [8, 12, 14, 16]) (Reg.ge [(8, .agg #[.int .i64 (hi64 (b * c)), .int .u64 (lo64 (b * c))]), (12, .agg #[.int .i64 (hi64 (b * d)), .int .u64 (lo64 (b * d))])]) Reg.None_ (fun _ => Reg.Any) (fun _ _ => False) (Reg.pl []) (Reg.pl [])
    (by kernel_rfl) (by kernel_rfl) (by kernel_rfl) (Reg.ge_some _) (fun v => ?_) (fun _ _ _ _ _ h => h) (fun _ _ _ _ _ _ _ _ _ _ _ _ _ => Reg.none_) (fun _ _ _ _ h => h.elim) (fun ops' Q' hops hQ => ?_)
  · exact ⟨(by first | with_reducible exact Below.drew B | with_reducible exact Below.drew (belowN B _) | (repeat' first | with_reducible assumption | with_reducible exact Below.refl _ _ | with_reducible refine Below.alloc ?_ ?_ _ | with_reducible refine Below.drew ?_ | with_reducible refine belowN ?_ _ | with_reducible refine Below.setCell ?_ ?_ _ | go_size)), (show Blk _ _ _ #[.int .i64 (a), .int .i64 (b)] from (by first | with_reducible exact oA | (repeat' first | with_reducible assumption | (with_reducible refine Blk.new' ?_; first | with_reducible rfl | (simp only [World.size_alloc, World.size_setCell, World.size_drew]; done)) | with_reducible refine Blk.alloc ?_ _ | with_reducible refine Blk.drew ?_ | with_reducible refine Blk.drewN ?_ _ | with_reducible apply Blk.both | with_reducible refine Blk.far' ?_ ?_ | (show _ ≠ _; omega)))), (show Blk _ _ _ #[.int .i64 (c), .int .i64 (d)] from (by first | with_reducible exact oB | (repeat' first | with_reducible assumption | (with_reducible refine Blk.new' ?_; first | with_reducible rfl | (simp only [World.size_alloc, World.size_setCell, World.size_drew]; done)) | with_reducible refine Blk.alloc ?_ _ | with_reducible refine Blk.drew ?_ | with_reducible refine Blk.drewN ?_ _ | with_reducible apply Blk.both | with_reducible refine Blk.far' ?_ ?_ | (show _ ≠ _; omega)))), (show Blk _ _ _ #[.int .i64 (0), .int .i64 (0)] from (by first | with_reducible exact oR | (repeat' first | with_reducible assumption | (with_reducible refine Blk.new' ?_; first | with_reducible rfl | (simp only [World.size_alloc, World.size_setCell, World.size_drew]; done)) | with_reducible refine Blk.alloc ?_ _ | with_reducible refine Blk.drew ?_ | with_reducible refine Blk.drewN ?_ _ | with_reducible apply Blk.both | with_reducible refine Blk.far' ?_ ?_ | (show _ ≠ _; omega)))), (show Blk _ _ _ #[.int .i64 (hi64 (a * c)), .int .u64 (lo64 (a * c)), .int .i64 (hi64 (a * d)), .int .u64 (lo64 (a * d)), .int .i64 0, .int .u64 0, .int .i64 0, .int .u64 0] from (by first | with_reducible exact oL | (repeat' first | with_reducible assumption | (with_reducible refine Blk.new' ?_; first | with_reducible rfl | (simp only [World.size_alloc, World.size_setCell, World.size_drew]; done)) | with_reducible refine Blk.alloc ?_ _ | with_reducible refine Blk.drew ?_ | with_reducible refine Blk.drewN ?_ _ | with_reducible apply Blk.both | with_reducible refine Blk.far' ?_ ?_ | (show _ ≠ _; omega))))⟩
  clear B oA oB oR oL
  apply Reg.RC_pure (hc := rfl) (hst := rfl) (hw := rfl) (t := 27) (hd := rfl) (ht := Nat.le_of_ble_eq_true rfl)
  · intro D v W hc hj hf K hK
    go_step
    exact hK.out
  · rfl
  apply Reg.RC_pure (hc := rfl) (hst := rfl) (hw := rfl) (t := 28) (hd := rfl) (ht := Nat.le_of_ble_eq_true rfl)
  · intro D v W hc hj hf K hK
    go_step
    exact hK.out
  · rfl
  apply Reg.RC_pure (hc := rfl) (hst := rfl) (hw := rfl) (t := 29) (hd := rfl) (ht := Nat.le_of_ble_eq_true rfl)
  · intro D v W hc hj hf K hK
    go_step
    exact hK.out
  · rfl
  apply Reg.RC_pure (hc := rfl) (hst := rfl) (hw := rfl) (t := 30) (hd := rfl) (ht := Nat.le_of_ble_eq_true rfl)
  · intro D v W hc hj hf K hK
    go_step
    exact hK.out
  · rfl
  apply Reg.RC_pure (hc := rfl) (hst := rfl) (hw := rfl) (t := 31) (hd := rfl) (ht := Nat.le_of_ble_eq_true rfl)
  · intro D v W hc hj hf K hK
    go_step
    exact hK.out
  · rfl
  apply Reg.RC_pure (hc := rfl) (hst := rfl) (hw := rfl) (t := 32) (hd := rfl) (ht := Nat.le_of_ble_eq_true rfl)
  · intro D v W hc hj hf K hK
    go_step
    exact hK.out
  · rfl
  apply Reg.RC_pure (hc := rfl) (hst := rfl) (hw := rfl) (t := 33) (hd := rfl) (ht := Nat.le_of_ble_eq_true rfl)
  · intro D v W hc hj hf K hK
    go_step
    exact hK.out
  · rfl
  apply Reg.RC_pure (hc := rfl) (hst := rfl) (hw := rfl) (t := 34) (hd := rfl) (ht := Nat.le_of_ble_eq_true rfl)
  · intro D v W hc hj hf K hK
    obtain ⟨B, oA, oB, oR, oL⟩ := hj
    have cB0 := oB.q0
    have cB1 := oB.q1
    go_step
    exact hK.out
  · rfl
  refine Reg.RC_exact _ (fun _ h => h) rfl (by intro t ht; cases ht; exact Nat.le_of_ble_eq_true rfl) rfl (fun D v W hc hj hf K hK => ?_) (Reg.RC_at (b := ⟨#[_,_,_,_,_,_,_,_,_,_,_,_,_,_,_,_,_,_,_,_,_,_,_,_,_,_,_,_,_,_,_,_,_,_,_,_,_,_,_,_,_,_,_,_,_,_,_,_,_,_,_,_,_,_,_,_], []⟩) rfl ?_)
  · obtain ⟨B, oA, oB, oR, oL⟩ := hj
    go_step
    refine (times_any _ _ _ (by omega) (by omega) (by omega) (by omega)).mono ?_
    rintro e W' ⟨rfl, hb⟩
    have st : Steps W W' := hb
    exact hK.out _ _ Reg.any ⟨below_steps B (Nat.le_refl _) st, oA.steps st, oB.steps st, oR.steps st, oL.steps st⟩ Reg.none_ rfl
  apply Reg.RC_pure (hc := rfl) (hst := rfl) (hw := rfl) (t := 36) (hd := rfl) (ht := Nat.le_of_ble_eq_true rfl)
  · intro D v W hc hj hf K hK
    go_step
    exact hK.out
  · rfl
  apply Reg.RC_pure (hc := rfl) (hst := rfl) (hw := rfl) (t := 37) (hd := rfl) (ht := Nat.le_of_ble_eq_true rfl)
  · intro D v W hc hj hf K hK
    go_step
    exact hK.out
  · rfl
  apply Reg.RC_pure (hc := rfl) (hst := rfl) (hw := rfl) (t := 38) (hd := rfl) (ht := Nat.le_of_ble_eq_true rfl)
  · intro D v W hc hj hf K hK
    obtain ⟨B, oA, oB, oR, oL⟩ := hj
    have cB0 := oB.q0
    have cB1 := oB.q1
    go_step
    exact hK.out
  · rfl
  refine Reg.RC_exact _ (fun _ h => h) rfl (by intro t ht; cases ht; exact Nat.le_of_ble_eq_true rfl) rfl (fun D v W hc hj hf K hK => ?_) (Reg.RC_at (b := ⟨#[_,_,_,_,_,_,_,_,_,_,_,_,_,_,_,_,_,_,_,_,_,_,_,_,_,_,_,_,_,_,_,_,_,_,_,_,_,_,_,_,_,_,_,_,_,_,_,_,_,_,_,_,_,_,_,_], []⟩) rfl ?_)
  · obtain ⟨B, oA, oB, oR, oL⟩ := hj
    go_step
    refine (times_any _ _ _ (by omega) (by omega) (by omega) (by omega)).mono ?_
    rintro e W' ⟨rfl, hb⟩
    have st : Steps W W' := hb
    exact hK.out _ _ Reg.any ⟨below_steps B (Nat.le_refl _) st, oA.steps st, oB.steps st, oR.steps st, oL.steps st⟩ Reg.none_ rfl
  apply Reg.RC_pure (hc := rfl) (hst := rfl) (hw := rfl) (t := 40) (hd := rfl) (ht := Nat.le_of_ble_eq_true rfl)
  · intro D v W hc hj hf K hK
    go_step
    exact hK.out
  · rfl
  refine Reg.RC_call rfl (by intro t ht; cases ht) rfl (fun D v W hc hj hf K hK => ?_) (fun _ _ => Reg.RC_at (b := ⟨_, []⟩) rfl ?_)
  · obtain ⟨B, oA, oB, oR, oL⟩ := hj
    have hs : D 14 = false := hc.1
    have oL : Blk W (w1.heap.size) 59 #[.int .i64 (hi64 (a * c)), .int .u64 (lo64 (a * c)), .int .i64 (hi64 (a * d)), .int .u64 (lo64 (a * d)), .int .i64 0, .int .u64 0, Reg.sel (D 16) (.int .i64 0) (.int .i64 (hi64 (b * d))), Reg.sel (D 16) (.int .u64 0) (.int .u64 (lo64 (b * d)))] := by have o := oL; simp only [hs, Reg.sel_false] at o; exact o
    have lL := oL.lt
    have fL := oL.fr
    have cL4 := oL.q4
    have cL5 := oL.q5
    go_step
    exact hK.out undef _ Reg.any ⟨(by (repeat' first | with_reducible assumption | with_reducible exact Below.refl _ _ | with_reducible refine Below.alloc ?_ ?_ _ | with_reducible refine Below.drew ?_ | with_reducible refine belowN ?_ _ | with_reducible refine Below.setCell ?_ ?_ _ | go_size)), (show Blk _ _ _ #[.int .i64 (a), .int .i64 (b)] from ownB), (show Blk _ _ _ #[.int .i64 (c), .int .i64 (d)] from ownB), (show Blk _ _ _ #[.int .i64 (0), .int .i64 (0)] from ownB), (show Blk _ _ _ #[.int .i64 (hi64 (a * c)), .int .u64 (lo64 (a * c)), .int .i64 (hi64 (a * d)), .int .u64 (lo64 (a * d)), .int .i64 (hi64 (b * c)), .int .u64 (lo64 (b * c)), Reg.sel (D 16) (.int .i64 0) (.int .i64 (hi64 (b * d))), Reg.sel (D 16) (.int .u64 0) (.int .u64 (lo64 (b * d)))] from (Blk.set2 (cs' := #[.int .i64 (hi64 (a * c)), .int .u64 (lo64 (a * c)), .int .i64 (hi64 (a * d)), .int .u64 (lo64 (a * d)), .int .i64 (hi64 (b * c)), .int .u64 (lo64 (b * c)), Reg.sel (D 16) (.int .i64 0) (.int .i64 (hi64 (b * d))), Reg.sel (D 16) (.int .u64 0) (.int .u64 (lo64 (b * d)))]) (Blk.set2 (cs' := #[.int .i64 (hi64 (a * c)), .int .u64 (lo64 (a * c)), .int .i64 (hi64 (a * d)), .int .u64 (lo64 (a * d)), .int .i64 (hi64 (b * c)), .int .u64 0, Reg.sel (D 16) (.int .i64 0) (.int .i64 (hi64 (b * d))), Reg.sel (D 16) (.int .u64 0) (.int .u64 (lo64 (b * d)))]) oL (i := 4) rfl) (i := 5) rfl))⟩ Reg.none_ trivial
  apply Reg.RC_pure (hc := rfl) (hst := rfl) (hw := rfl) (t := 41) (hd := rfl) (ht := Nat.le_of_ble_eq_true rfl)
  · intro D v W hc hj hf K hK
    go_step
    exact hK.out
  · rfl
  refine Reg.RC_call rfl (by intro t ht; cases ht) rfl (fun D v W hc hj hf K hK => ?_) (fun _ _ => Reg.RC_at (b := ⟨_, []⟩) rfl ?_)
  · obtain ⟨B, oA, oB, oR, oL⟩ := hj
    have hs : D 16 = false := hc.1
    have oL : Blk W (w1.heap.size) 59 #[.int .i64 (hi64 (a * c)), .int .u64 (lo64 (a * c)), .int .i64 (hi64 (a * d)), .int .u64 (lo64 (a * d)), Reg.sel (D 14) (.int .i64 0) (.int .i64 (hi64 (b * c))), Reg.sel (D 14) (.int .u64 0) (.int .u64 (lo64 (b * c))), .int .i64 0, .int .u64 0] := by have o := oL; simp only [hs, Reg.sel_false] at o; exact o
    have lL := oL.lt
    have fL := oL.fr
    have cL6 := oL.q6
    have cL7 := oL.q7
    go_step
    exact hK.out undef _ Reg.any ⟨(by (repeat' first | with_reducible assumption | with_reducible exact Below.refl _ _ | with_reducible refine Below.alloc ?_ ?_ _ | with_reducible refine Below.drew ?_ | with_reducible refine belowN ?_ _ | with_reducible refine Below.setCell ?_ ?_ _ | go_size)), (show Blk _ _ _ #[.int .i64 (a), .int .i64 (b)] from ownB), (show Blk _ _ _ #[.int .i64 (c), .int .i64 (d)] from ownB), (show Blk _ _ _ #[.int .i64 (0), .int .i64 (0)] from ownB), (show Blk _ _ _ #[.int .i64 (hi64 (a * c)), .int .u64 (lo64 (a * c)), .int .i64 (hi64 (a * d)), .int .u64 (lo64 (a * d)), Reg.sel (D 14) (.int .i64 0) (.int .i64 (hi64 (b * c))), Reg.sel (D 14) (.int .u64 0) (.int .u64 (lo64 (b * c))), .int .i64 (hi64 (b * d)), .int .u64 (lo64 (b * d))] from (Blk.set2 (cs' := #[.int .i64 (hi64 (a * c)), .int .u64 (lo64 (a * c)), .int .i64 (hi64 (a * d)), .int .u64 (lo64 (a * d)), Reg.sel (D 14) (.int .i64 0) (.int .i64 (hi64 (b * c))), Reg.sel (D 14) (.int .u64 0) (.int .u64 (lo64 (b * c))), .int .i64 (hi64 (b * d)), .int .u64 (lo64 (b * d))]) (Blk.set2 (cs' := #[.int .i64 (hi64 (a * c)), .int .u64 (lo64 (a * c)), .int .i64 (hi64 (a * d)), .int .u64 (lo64 (a * d)), Reg.sel (D 14) (.int .i64 0) (.int .i64 (hi64 (b * c))), Reg.sel (D 14) (.int .u64 0) (.int .u64 (lo64 (b * c))), .int .i64 (hi64 (b * d)), .int .u64 0]) oL (i := 6) rfl) (i := 7) rfl))⟩ Reg.none_ trivial
  refine Reg.RC_end (fun D v W hd hj hf => ?_)
  obtain ⟨B, oA, oB, oR, oL⟩ := hj
  have e14 : D 14 = true := hd 14 (by decide)
  have e16 : D 16 = true := hd 16 (by decide)
  have oL : Blk W (w1.heap.size) 59 #[.int .i64 (hi64 (a * c)), .int .u64 (lo64 (a * c)), .int .i64 (hi64 (a * d)), .int .u64 (lo64 (a * d)), .int .i64 (hi64 (b * c)), .int .u64 (lo64 (b * c)), .int .i64 (hi64 (b * d)), .int .u64 (lo64 (b * d))] := by have o := oL; simp only [e14, e16, Reg.sel_true] at o; exact o
  clear e14 e16
  clear hd hf
  refine hQ _ _ ?_
  clear hQ hops Q' ops'
  repeat' (first | go_values | go_skip | go_guarded | go_step | go_upon)
  rw [rounds_succ]
  repeat' (first | go_values | go_skip | go_guarded | go_step | go_upon)
  refine Reg.wp_chain (fun D v W => Below w.heap.size w W ∧ Blk W (w.heap.size + 1 + 1) 23 #[Reg.sel (D 13) (.int .i64 (0)) (.int .i64 ((md (dn (mn (mn (mn (a * c) (a * d)) (b * c)) (b * d)) 1099511627776) (upq (mx (mx (mx (a * c) (a * d)) (b * c)) (b * d)) 1099511627776)).1)), Reg.sel (D 13) (.int .i64 (0)) (.int .i64 ((md (dn (mn (mn (mn (a * c) (a * d)) (b * c)) (b * d)) 1099511627776) (upq (mx (mx (mx (a * c) (a * d)) (b * c)) (b * d)) 1099511627776)).2.1))] ∧ Blk W (w1.heap.size) 59 #[.int .i64 (hi64 (a * c)), .int .u64 (lo64 (a * c)), .int .i64 (hi64 (a * d)), .int .u64 (lo64 (a * d)), .int .i64 (hi64 (b * c)), .int .u64 (lo64 (b * c)), .int .i64 (hi64 (b * d)), .int .u64 (lo64 (b * d))])
    (Reg.inl [3, 4, 8, 9, 10, 13]) (Reg.ge [(3, .agg #[.int .i64 (hi64 (mn (mn (mn (a * c) (a * d)) (b * c)) (b * d))), .int .u64 (lo64 (mn (mn (mn (a * c) (a * d)) (b * c)) (b * d)))]), (4, .int .i64 (dn (mn (mn (mn (a * c) (a * d)) (b * c)) (b * d)) 1099511627776)), (8, .agg #[.int .i64 (hi64 (mx (mx (mx (a * c) (a * d)) (b * c)) (b * d))), .int .u64 (lo64 (mx (mx (mx (a * c) (a * d)) (b * c)) (b * d)))]), (9, .int .i64 (upq (mx (mx (mx (a * c) (a * d)) (b * c)) (b * d)) 1099511627776)), (10, .tuple #[.agg #[.int .i64 ((md (dn (mn (mn (mn (a * c) (a * d)) (b * c)) (b * d)) 1099511627776) (upq (mx (mx (mx (a * c) (a * d)) (b * c)) (b * d)) 1099511627776)).1), .int .i64 ((md (dn (mn (mn (mn (a * c) (a * d)) (b * c)) (b * d)) 1099511627776) (upq (mx (mx (mx (a * c) (a * d)) (b * c)) (b * d)) 1099511627776)).2.1)], .int .i64 ((md (dn (mn (mn (mn (a * c) (a * d)) (b * c)) (b * d)) 1099511627776) (upq (mx (mx (mx (a * c) (a * d)) (b * c)) (b * d)) 1099511627776)).2.2)])]) Reg.None_ (fun _ => Reg.Any) (fun _ _ => False) (Reg.pl []) (Reg.pl [])
    (by kernel_rfl) (by kernel_rfl) (by kernel_rfl) (Reg.ge_some _) (fun v => ?_) (fun _ _ _ _ _ h => h) (fun _ _ _ _ _ _ _ _ _ _ _ _ _ => Reg.none_) (fun _ _ _ _ h => h.elim) (fun ops' Q' hops hQ => ?_)
  · exact ⟨(by first | with_reducible exact Below.drew B | with_reducible exact Below.drew (belowN B _) | (repeat' first | with_reducible assumption | with_reducible exact Below.refl _ _ | with_reducible refine Below.alloc ?_ ?_ _ | with_reducible refine Below.drew ?_ | with_reducible refine belowN ?_ _ | with_reducible refine Below.setCell ?_ ?_ _ | go_size)), (show Blk _ _ _ #[.int .i64 (0), .int .i64 (0)] from (by first | with_reducible exact oR | (repeat' first | with_reducible assumption | (with_reducible refine Blk.new' ?_; first | with_reducible rfl | (simp only [World.size_alloc, World.size_setCell, World.size_drew]; done)) | with_reducible refine Blk.alloc ?_ _ | with_reducible refine Blk.drew ?_ | with_reducible refine Blk.drewN ?_ _ | with_reducible apply Blk.both | with_reducible refine Blk.far' ?_ ?_ | (show _ ≠ _; omega)))), (show Blk _ _ _ #[.int .i64 (hi64 (a * c)), .int .u64 (lo64 (a * c)), .int .i64 (hi64 (a * d)), .int .u64 (lo64 (a * d)), .int .i64 (hi64 (b * c)), .int .u64 (lo64 (b * c)), .int .i64 (hi64 (b * d)), .int .u64 (lo64 (b * d))] from (by first | with_reducible exact oL | (repeat' first | with_reducible assumption | (with_reducible refine Blk.new' ?_; first | with_reducible rfl | (simp only [World.size_alloc, World.size_setCell, World.size_drew]; done)) | with_reducible refine Blk.alloc ?_ _ | with_reducible refine Blk.drew ?_ | with_reducible refine Blk.drewN ?_ _ | with_reducible apply Blk.both | with_reducible refine Blk.far' ?_ ?_ | (show _ ≠ _; omega))))⟩
  clear B oR oL
  apply Reg.RC_pure (hc := rfl) (hst := rfl) (hw := rfl) (t := 43) (hd := rfl) (ht := Nat.le_of_ble_eq_true rfl)
  · intro D v W hc hj hf K hK
    go_step
    exact hK.out
  · rfl
  apply Reg.RC_pure (hc := rfl) (hst := rfl) (hw := rfl) (t := 44) (hd := rfl) (ht := Nat.le_of_ble_eq_true rfl)
  · intro D v W hc hj hf K hK
    obtain ⟨B, oR, oL⟩ := hj
    have cL0 := oL.q0
    have cL1 := oL.q1
    have cL2 := oL.q2
    have cL3 := oL.q3
    have cL4 := oL.q4
    have cL5 := oL.q5
    have cL6 := oL.q6
    have cL7 := oL.q7
    go_step
    exact hK.out
  · rfl
  apply Reg.RC_pure (hc := rfl) (hst := rfl) (hw := rfl) (t := 45) (hd := rfl) (ht := Nat.le_of_ble_eq_true rfl)
  · intro D v W hc hj hf K hK
    go_step
    exact hK.out
  · rfl
  refine Reg.RC_exact _ (fun _ h => h) rfl (by intro t ht; cases ht; exact Nat.le_of_ble_eq_true rfl) rfl (fun D v W hc hj hf K hK => ?_) (Reg.RC_at (b := ⟨#[_,_,_,_,_,_,_,_,_,_,_,_,_,_,_,_,_,_,_,_,_,_,_,_,_,_,_,_,_,_,_,_,_,_,_,_,_,_,_,_,_,_,_,_,_,_,_,_,_,_,_,_,_,_,_,_], []⟩) rfl ?_)
  · obtain ⟨B, oR, oL⟩ := hj
    go_step
    refine (least3m _ _ _ _ _ _ oL.lt (oL.c 2 rfl) (oL.c 3 rfl) (oL.c 4 rfl) (oL.c 5 rfl) (oL.c 6 rfl) (oL.c 7 rfl)).mono ?_
    rintro e W' ⟨rfl, hb⟩
    have st : Steps W W' := hb
    exact hK.out _ _ Reg.any ⟨below_steps B (Nat.le_refl _) st, oR.steps st, oL.steps st⟩ Reg.none_ rfl
  refine Reg.RC_exact _ (fun _ h => h) rfl (by intro t ht; cases ht; exact Nat.le_of_ble_eq_true rfl) rfl (fun D v W hc hj hf K hK => ?_) (Reg.RC_at (b := ⟨#[_,_,_,_,_,_,_,_,_,_,_,_,_,_,_,_,_,_,_,_,_,_,_,_,_,_,_,_,_,_,_,_,_,_,_,_,_,_,_,_,_,_,_,_,_,_,_,_,_,_,_,_,_,_,_,_], []⟩) rfl ?_)
  · obtain ⟨B, oR, oL⟩ := hj
    go_step
    refine (down_any _ _ _ (by simp only [mn, mx]; omega) (by simp only [mn, mx]; omega) (by omega) (by omega)).mono ?_
    rintro e W' ⟨rfl, hb⟩
    have st : Steps W W' := hb
    exact hK.out _ _ Reg.any ⟨below_steps B (Nat.le_refl _) st, oR.steps st, oL.steps st⟩ Reg.none_ rfl
  apply Reg.RC_pure (hc := rfl) (hst := rfl) (hw := rfl) (t := 48) (hd := rfl) (ht := Nat.le_of_ble_eq_true rfl)
  · intro D v W hc hj hf K hK
    go_step
    exact hK.out
  · rfl
  apply Reg.RC_pure (hc := rfl) (hst := rfl) (hw := rfl) (t := 49) (hd := rfl) (ht := Nat.le_of_ble_eq_true rfl)
  · intro D v W hc hj hf K hK
    obtain ⟨B, oR, oL⟩ := hj
    have cL0 := oL.q0
    have cL1 := oL.q1
    have cL2 := oL.q2
    have cL3 := oL.q3
    have cL4 := oL.q4
    have cL5 := oL.q5
    have cL6 := oL.q6
    have cL7 := oL.q7
    go_step
    exact hK.out
  · rfl
  apply Reg.RC_pure (hc := rfl) (hst := rfl) (hw := rfl) (t := 50) (hd := rfl) (ht := Nat.le_of_ble_eq_true rfl)
  · intro D v W hc hj hf K hK
    go_step
    exact hK.out
  · rfl
  refine Reg.RC_exact _ (fun _ h => h) rfl (by intro t ht; cases ht; exact Nat.le_of_ble_eq_true rfl) rfl (fun D v W hc hj hf K hK => ?_) (Reg.RC_at (b := ⟨#[_,_,_,_,_,_,_,_,_,_,_,_,_,_,_,_,_,_,_,_,_,_,_,_,_,_,_,_,_,_,_,_,_,_,_,_,_,_,_,_,_,_,_,_,_,_,_,_,_,_,_,_,_,_,_,_], []⟩) rfl ?_)
  · obtain ⟨B, oR, oL⟩ := hj
    go_step
    refine (greatest3m _ _ _ _ _ _ oL.lt (oL.c 2 rfl) (oL.c 3 rfl) (oL.c 4 rfl) (oL.c 5 rfl) (oL.c 6 rfl) (oL.c 7 rfl)).mono ?_
    rintro e W' ⟨rfl, hb⟩
    have st : Steps W W' := hb
    exact hK.out _ _ Reg.any ⟨below_steps B (Nat.le_refl _) st, oR.steps st, oL.steps st⟩ Reg.none_ rfl
  refine Reg.RC_exact _ (fun _ h => h) rfl (by intro t ht; cases ht; exact Nat.le_of_ble_eq_true rfl) rfl (fun D v W hc hj hf K hK => ?_) (Reg.RC_at (b := ⟨#[_,_,_,_,_,_,_,_,_,_,_,_,_,_,_,_,_,_,_,_,_,_,_,_,_,_,_,_,_,_,_,_,_,_,_,_,_,_,_,_,_,_,_,_,_,_,_,_,_,_,_,_,_,_,_,_], []⟩) rfl ?_)
  · obtain ⟨B, oR, oL⟩ := hj
    go_step
    refine (up_any _ _ _ (by simp only [mn, mx]; omega) (by simp only [mn, mx]; omega) (by omega) (by omega)).mono ?_
    rintro e W' ⟨rfl, hb⟩
    have st : Steps W W' := hb
    exact hK.out _ _ Reg.any ⟨below_steps B (Nat.le_refl _) st, oR.steps st, oL.steps st⟩ Reg.none_ rfl
  refine Reg.RC_exact _ (fun _ h => h) rfl (by intro t ht; cases ht; exact Nat.le_of_ble_eq_true rfl) rfl (fun D v W hc hj hf K hK => ?_) (Reg.RC_at (b := ⟨#[_,_,_,_,_,_,_,_,_,_,_,_,_,_,_,_,_,_,_,_,_,_,_,_,_,_,_,_,_,_,_,_,_,_,_,_,_,_,_,_,_,_,_,_,_,_,_,_,_,_,_,_,_,_,_,_], []⟩) rfl ?_)
  · obtain ⟨B, oR, oL⟩ := hj
    go_step
    refine (made_any _ _ _).mono ?_
    rintro e W' ⟨rfl, hb⟩
    have st : Steps W W' := hb
    exact hK.out _ _ Reg.any ⟨below_steps B (Nat.le_refl _) st, oR.steps st, oL.steps st⟩ Reg.none_ rfl
  apply Reg.RC_pure (hc := rfl) (hst := rfl) (hw := rfl) (t := 54) (hd := rfl) (ht := Nat.le_of_ble_eq_true rfl)
  · intro D v W hc hj hf K hK
    go_step
    exact hK.out
  · rfl
  apply Reg.RC_pure (hc := rfl) (hst := rfl) (hw := rfl) (t := 55) (hd := rfl) (ht := Nat.le_of_ble_eq_true rfl)
  · intro D v W hc hj hf K hK
    go_step
    exact hK.out
  · rfl
  refine Reg.RC_call rfl (by intro t ht; cases ht) rfl (fun D v W hc hj hf K hK => ?_) (fun _ _ => Reg.RC_at (b := ⟨_, []⟩) rfl ?_)
  · obtain ⟨B, oR, oL⟩ := hj
    have hs : D 13 = false := hc.1
    have oR : Blk W (w.heap.size + 1 + 1) 23 #[.int .i64 (0), .int .i64 (0)] := by have o := oR; simp only [hs, Reg.sel_false] at o; exact o
    have lR := oR.lt
    have fR := oR.fr
    have cR0 := oR.q0
    have cR1 := oR.q1
    go_step
    exact hK.out undef _ Reg.any ⟨(by (repeat' first | with_reducible assumption | with_reducible exact Below.refl _ _ | with_reducible refine Below.alloc ?_ ?_ _ | with_reducible refine Below.drew ?_ | with_reducible refine belowN ?_ _ | with_reducible refine Below.setCell ?_ ?_ _ | go_size)), (show Blk _ _ _ #[.int .i64 ((md (dn (mn (mn (mn (a * c) (a * d)) (b * c)) (b * d)) 1099511627776) (upq (mx (mx (mx (a * c) (a * d)) (b * c)) (b * d)) 1099511627776)).1), .int .i64 ((md (dn (mn (mn (mn (a * c) (a * d)) (b * c)) (b * d)) 1099511627776) (upq (mx (mx (mx (a * c) (a * d)) (b * c)) (b * d)) 1099511627776)).2.1)] from (Blk.set2 (cs' := #[.int .i64 ((md (dn (mn (mn (mn (a * c) (a * d)) (b * c)) (b * d)) 1099511627776) (upq (mx (mx (mx (a * c) (a * d)) (b * c)) (b * d)) 1099511627776)).1), .int .i64 ((md (dn (mn (mn (mn (a * c) (a * d)) (b * c)) (b * d)) 1099511627776) (upq (mx (mx (mx (a * c) (a * d)) (b * c)) (b * d)) 1099511627776)).2.1)]) (Blk.set2 (cs' := #[.int .i64 ((md (dn (mn (mn (mn (a * c) (a * d)) (b * c)) (b * d)) 1099511627776) (upq (mx (mx (mx (a * c) (a * d)) (b * c)) (b * d)) 1099511627776)).1), .int .i64 (0)]) oR (i := 0) rfl) (i := 1) rfl)), (show Blk _ _ _ #[.int .i64 (hi64 (a * c)), .int .u64 (lo64 (a * c)), .int .i64 (hi64 (a * d)), .int .u64 (lo64 (a * d)), .int .i64 (hi64 (b * c)), .int .u64 (lo64 (b * c)), .int .i64 (hi64 (b * d)), .int .u64 (lo64 (b * d))] from ownB)⟩ Reg.none_ trivial
  apply Reg.RC_pure (hc := rfl) (hst := rfl) (hw := rfl) (t := 5) (hd := rfl) (ht := Nat.le_of_ble_eq_true rfl)
  · intro D v W hc hj hf K hK
    go_step
    exact hK.out
  · rfl
  refine Reg.RC_end (fun D v W hd hj hf => ?_)
  obtain ⟨B, oR, oL⟩ := hj
  have e13 : D 13 = true := hd 13 (by decide)
  have oR : Blk W (w.heap.size + 1 + 1) 23 #[.int .i64 ((md (dn (mn (mn (mn (a * c) (a * d)) (b * c)) (b * d)) 1099511627776) (upq (mx (mx (mx (a * c) (a * d)) (b * c)) (b * d)) 1099511627776)).1), .int .i64 ((md (dn (mn (mn (mn (a * c) (a * d)) (b * c)) (b * d)) 1099511627776) (upq (mx (mx (mx (a * c) (a * d)) (b * c)) (b * d)) 1099511627776)).2.1)] := by have o := oR; simp only [e13, Reg.sel_true] at o; exact o
  clear e13
  clear hd hf
  refine hQ _ _ ?_
  clear hQ hops Q' ops'
  have lR := oR.lt
  have cR0 := oR.c 0 rfl
  have cR1 := oR.c 1 rfl
  have fR := oR.fr
  repeat' (first | go_values | go_skip | go_guarded | go_step | go_upon)
  refine bodyPost_ret (by simp [results, Tryz.results13, go_sem, lR, cR0, cR1, fR]; rfl) rfl ?_
  exact ⟨rfl, B⟩
end Go.Proofs.YtalnlnpnacfdfaaGreat
