import Derived.Test.YtalnlnpnacfdfaaGreatCNr
import Derived.BigQuiet
import Derived.Deep.DeepCutAuto
namespace Go.Proofs.YtalnlnpnacfdfaaGreat
open Go.RowKit
theorem rreducedQ {va vb : Value} {x y : Int} (w : World) (ha : Num w va x) (hb : Num w vb y) (fx : fits x) (fy : fits y) (hy : y ≠ 0) :
    Calls Tryz.prog 28 #[va, vb] w fun e w' => ∃ v, e = .returned v ∧ FR w' v ((x : Rat) / (y : Rat)) ∧ Steps w w' := by
  refine (rreduced w ha hb fx fy hy).mono ?_
  rintro e w' ⟨v, rfl, h1, h2⟩
  exact ⟨v, rfl, FR.of_rd hy h1, h2⟩
def unitQ (n : Int) : Rat := (n : Rat) / ((1099511627776 : Int) : Rat)
theorem absN_two {n : Int} (h0 : -9223372036854775808 ≤ n) (h1 : n ≤ 9223372036854775808) : absN n ≤ bp 2 := by
  rw [bp_two]; unfold absN; omega
theorem sz_unit {n : Int} (h0 : -9223372036854775808 ≤ n) (h1 : n ≤ 9223372036854775808) : sz (unitQ n) 2 :=
  sz_frac (by omega) (absN_two h0 h1) (absN_two (by omega) (by omega))
theorem fits_two {n : Int} (h0 : -9223372036854775808 ≤ n) (h1 : n ≤ 9223372036854775808) : fits n := fits_bp (absN_two h0 h1) (by omega)
theorem FR.neg {w : World} {a : Bool} {s : Value} {b : Bool} {t : Value} {r : Rat} (h : FR w (.agg #[.bool a, s, .bool b, t]) r) : a = decide (r < 0) ∧ b = false := by
  obtain ⟨sp, sq, e, -⟩ := h
  simp only [Value.agg.injEq, Array.mk.injEq, List.cons.injEq, Value.bool.injEq, and_true] at e
  have : r < 0 ↔ r.num < 0 := by rw [← Rat.not_le, ← Rat.num_nonneg]; omega
  exact ⟨by rw [e.1]; simp [this], e.2.2.1⟩
theorem retBool {a b : Bool} (h : a = b) : Ending.returned (.bool a) = .returned (.bool b) := by rw [h]
set_option maxHeartbeats 6400000 in
set_option maxRecDepth 1000000 in
theorem lnumber (n : Int) (w : World) (n0 : -9223372036854775808 ≤ n) (n1 : n ≤ 9223372036854775807) :
    Calls Tryz.prog 7 #[.int .i64 n] w fun e w' => ∃ v, e = .returned v ∧ FR w' v (unitQ n) ∧ Steps w w' := by
  have fn : fits n := fits_two n0 (by omega)
  have f4 : fits 1099511627776 := fits_two (by omega) (by omega)
  go_enter Tryz.func7, Tryz.ntmps7
  go_wp2_with fail
  refine (rfrom n _ n0 n1).mono ?_
  rintro e w1 ⟨vx, rfl, hvx, hb1⟩
  have st : Steps _ w1 := hb1
  have Bn : Below w.heap.size w w1 := belowA st
  have nr : Blk w1 (w.heap.size) 31 #[.bool false, .slice none 0 0, .bool false, .slice none 0 0] := Blk.stepsK st
  clear st
  have B := Bn
  clear Bn
  have or := nr
  clear nr
  have cr0 := or.q0
  have cr1 := or.q1
  have cr2 := or.q2
  have cr3 := or.q3
  have fr := or.fr
  have lr := or.lt
  obtain ⟨x1, x2, x3, x4, rfl⟩ := hvx.shape
  have Fx := Hid.mk_ hvx
  clear hvx
  go_wp2_with fail
  refine (rfrom 1099511627776 _ (by omega) (by omega)).mono ?_
  rintro e w2 ⟨vy, rfl, hvy, hb2⟩
  have st : Steps _ w2 := hb2
  have Bn : Below w.heap.size w w2 := belowA st
  have kp : Keeps w1 w2 := Keeps.then_ keepsB st
  have nr := or.stp st
  clear B or cr0 cr1 cr2 cr3 fr lr
  clear st
  have B := Bn
  clear Bn
  replace Fx := Hid.mk_ (Fx.out.keeps kp)
  clear kp
  have or := nr
  clear nr
  have cr0 := or.q0
  have cr1 := or.q1
  have cr2 := or.q2
  have cr3 := or.q3
  have fr := or.fr
  have lr := or.lt
  obtain ⟨y1, y2, y3, y4, rfl⟩ := hvy.shape
  have Fy := Hid.mk_ hvy
  clear hvy
  go_wp2_with fail
  refine (rreducedQ _ (Fx.out.keeps keepsB) (Fy.out.keeps keepsB) fn f4 (by omega)).mono ?_
  rintro e w3 ⟨vq, rfl, hvq, hb3⟩
  have st : Steps _ w3 := hb3
  have Bn : Below w.heap.size w w3 := belowA st
  have kp : Keeps w2 w3 := Keeps.then_ keepsB st
  have nr := or.stp st
  clear B or cr0 cr1 cr2 cr3 fr lr
  clear st
  have B := Bn
  clear Bn
  replace Fx := Hid.mk_ (Fx.out.keeps kp)
  replace Fy := Hid.mk_ (Fy.out.keeps kp)
  clear kp
  have or := nr
  clear nr
  have cr0 := or.q0
  have cr1 := or.q1
  have cr2 := or.q2
  have cr3 := or.q3
  have fr := or.fr
  have lr := or.lt
  obtain ⟨q1, q2, q3, q4, q5, q6, q7, q8, rfl⟩ := hvq.shape
  have Fq := Hid.mk_ hvq
  clear hvq
  dsimp only; repeat' (first | go_values | go_skip | go_guarded | go_step | go_upon)
  refine bodyPost_ret (by simp [results, Tryz.results7, go_sem, cr0, cr1, cr2, cr3, fr, lr]; rfl) rfl ?_
  exact ⟨_, rfl, Fq.out.keeps keepsB, belowB⟩
set_option maxHeartbeats 6400000 in
set_option maxRecDepth 1000000 in
theorem rhas_walk (lo hi X Y : Int) {v : Value} {r : Rat} {k : Nat} (w : World) (hv : FR w v r) (hr : sz r k) (hk : k ≤ 4000) (l0 : -9223372036854775808 ≤ lo) (l1 : lo ≤ 9223372036854775807) (h0 : -9223372036854775808 ≤ hi) (h1 : hi ≤ 9223372036854775807)
    (hX : cmpQ (unitQ lo) r = X) (hY : cmpQ r (unitQ hi) = Y) :
    Calls Tryz.prog 16 #[.agg #[.int .i64 lo, .int .i64 hi], v] w fun e w' => e = .returned (.bool (decide (X ≤ 0 ∧ Y ≤ 0))) ∧ Steps w w' := by
  have fl : fits lo := fits_two l0 (by omega)
  have fh : fits hi := fits_two h0 (by omega)
  have f4 : fits 1099511627776 := fits_two (by omega) (by omega)
  have sl := sz_unit l0 (by omega)
  have sh := sz_unit h0 (by omega)
  have c1 : ∀ w' a b, FR w' a (unitQ lo) → FR w' b r → Calls Tryz.prog 20 #[a, b] w' fun e w2 => e = .returned (.tuple #[.int .i64 X, .int .i64 0]) ∧ Steps w' w2 := fun w' a b ha hb => by rw [← hX]; exact rCmpQ w' ha hb sl hr (by omega)
  have c2 : ∀ w' a b, FR w' a r → FR w' b (unitQ hi) → Calls Tryz.prog 20 #[a, b] w' fun e w2 => e = .returned (.tuple #[.int .i64 Y, .int .i64 0]) ∧ Steps w' w2 := fun w' a b ha hb => by rw [← hY]; exact rCmpQ w' ha hb hr sh (by omega)
  obtain ⟨f1, f2, f3, f5, f6, f7, f8, f9, rfl⟩ := hv.shape
  have Ff := Hid.mk_ hv
  clear hv hr hX hY sl sh
  go_enter Tryz.func16, Tryz.ntmps16
  go_upto_region 1 with fail
  refine Reg.wp_chain_n (fun N0 D v W => Below w.heap.size w W ∧ Keeps w W ∧ N0 ≤ W.heap.size ∧ Blk W (w.heap.size) 23 #[.int .i64 (lo), .int .i64 (hi)] ∧ Blk W (w.heap.size + 1) 31 #[.bool f1, .slice f2 f3 f5, .bool f6, .slice f7 f8 f9])
    (Reg.inl [2, 3, 4, 6]) (Reg.gv [(2, IsNu), (3, IsNu), (4, IsFr), (6, fun x => x = .tuple #[.int .i64 X, .int .i64 0])]) (gw [(2, GNu (lo)), (3, GNu (1099511627776)), (4, GFr (unitQ lo))]) (fun _ => Keeps) (fun _ _ => False) (Reg.pl [(4, [(2, some 12), (3, some 13)]), (6, [(4, some 14)]), (12, [(2, some 12), (3, some 13), (4, some 14), (6, some 16)])]) (Reg.pl [])
    (by kernel_rfl) (by kernel_rfl) (by kernel_rfl) (Reg.gv_some _ (by intro p hp; simp only [List.mem_cons, List.not_mem_nil, or_false] at hp; rcases hp with rfl | rfl | rfl | rfl <;> first | exact ⟨_, rfl⟩ | exact ⟨_, 0, rfl⟩ | exact ⟨_, false, none, 0, 0, rfl⟩ | exact ⟨_, false, none, 0, 0, false, none, 0, 0, rfl⟩)) (fun N0 hN0 => ⟨fun v => ?_, fun D v v' W hv hj => ?_, fun D v k j W W' x _ _ _ _ hk hg => gw_keeps _ (by intro p hp; simp only [List.mem_cons, List.not_mem_nil, or_false] at hp; rcases hp with rfl | rfl | rfl <;> first | exact GFr.keeps | exact GFrE.keeps | exact GNu.keeps | exact GNuE.keeps) hk hg, fun _ _ _ _ h => h.elim, fun ops' Q' hops hQ => ?_⟩)
  · exact ⟨belowB, keepsB, Nat.le_of_eq hN0.out, ownK, ownK⟩
  · obtain ⟨j0, jk, jn, b_a, b_f⟩ := hj
    exact ⟨j0, jk, jn, b_a, b_f⟩
  have i_a : w.heap.size < N0 := by have e := hN0.out; (try simp only [World.size_alloc, World.size_setCell, World.size_drew, World.heap_drewN] at e); first | omega | (have h := oa.lt; omega)
  have i_f : w.heap.size + 1 < N0 := by have e := hN0.out; (try simp only [World.size_alloc, World.size_setCell, World.size_drew, World.heap_drewN] at e); first | omega | (have h := of.lt; omega)
  have iw : w.heap.size ≤ N0 := by have e := hN0.out; (try simp only [World.size_alloc, World.size_setCell, World.size_drew, World.heap_drewN] at e); first | omega | (have h := B.size; omega)
  clear hN0
  apply Reg.RC_pure (hc := rfl) (hst := rfl) (hw := rfl) (t := 10) (hd := rfl) (ht := Nat.le_of_ble_eq_true rfl)
  · intro D v' W' hc hj hf K hK
    go_step
    exact hK.out
  · rfl
  apply Reg.RC_pure (hc := rfl) (hst := rfl) (hw := rfl) (t := 11) (hd := rfl) (ht := Nat.le_of_ble_eq_true rfl)
  · intro D v' W' hc hj hf K hK
    obtain ⟨j0, jk, jn, b_a, b_f⟩ := hj
    have c0 : W'.cell? ⟨w.heap.size, 0, none⟩ = some (.int .i64 (lo)) := b_a.c 0 rfl
    have c1 : W'.cell? ⟨w.heap.size, 1, none⟩ = some (.int .i64 (hi)) := b_a.c 1 rfl
    go_step
    exact hK.out
  · rfl
  refine Reg.RC_call rfl (by intro t ht; cases ht; exact Nat.le_of_ble_eq_true rfl) rfl (fun D v' W' hc hj hf K hK => ?_) ?_
  · obtain ⟨j0, jk, jn, b_a, b_f⟩ := hj
    clear hf
    go_step
    refine (rfrom lo W' l0 l1).mono ?_
    rintro e W2 ⟨u, rfl, hu, hs⟩
    obtain ⟨x1, x2, x3, x4, rfl⟩ := hu.shape
    exact hK.out _ W2 (Keeps.steps hs) ⟨below_steps j0 (Nat.le_refl _) hs, jk.then_ hs, Nat.le_trans jn hs.size, b_a.steps hs, b_f.steps hs⟩ hu ⟨_, _, _, _, rfl⟩
  rintro _ ⟨x1, x2, x3, x4, rfl⟩
  refine Reg.RC_at (b := ⟨#[_,_,_,_,_,_,_,_,_,_,_,_,_,_,_,_,_,_,_,_,_,_,_,_,_,_,_,_,_,_,_,_,_,_,_], []⟩) rfl ?_
  refine Reg.RC_call rfl (by intro t ht; cases ht; exact Nat.le_of_ble_eq_true rfl) rfl (fun D v' W' hc hj hf K hK => ?_) ?_
  · obtain ⟨j0, jk, jn, b_a, b_f⟩ := hj
    clear hf
    go_step
    refine (rfrom 1099511627776 W' (by omega) (by omega)).mono ?_
    rintro e W2 ⟨u, rfl, hu, hs⟩
    obtain ⟨y1, y2, y3, y4, rfl⟩ := hu.shape
    exact hK.out _ W2 (Keeps.steps hs) ⟨below_steps j0 (Nat.le_refl _) hs, jk.then_ hs, Nat.le_trans jn hs.size, b_a.steps hs, b_f.steps hs⟩ hu ⟨_, _, _, _, rfl⟩
  rintro _ ⟨y1, y2, y3, y4, rfl⟩
  refine Reg.RC_at (b := ⟨#[_,_,_,_,_,_,_,_,_,_,_,_,_,_,_,_,_,_,_,_,_,_,_,_,_,_,_,_,_,_,_,_,_,_,_], []⟩) rfl ?_
  refine Reg.RC_call rfl (by intro t ht; cases ht; exact Nat.le_of_ble_eq_true rfl) rfl (fun D v' W' hc hj hf K hK => ?_) ?_
  · obtain ⟨j0, jk, jn, b_a, b_f⟩ := hj
    have g2 : GNu (lo) _ W' := (hf (2, some 12) (.head _) rfl).2.2
    have g2 : Num W' _ (lo) := g2
    have g3 : GNu (1099511627776) _ W' := (hf (3, some 13) (.tail _ (.head _)) rfl).2.2
    have g3 : Num W' _ (1099511627776) := g3
    clear hf
    go_step
    refine (rreducedQ W' g2 g3 fl f4 (by omega)).mono ?_
    rintro e W2 ⟨u, rfl, hu, hs⟩
    obtain ⟨z1, z2, z3, z4, z5, z6, z7, z8, rfl⟩ := hu.shape
    exact hK.out _ W2 (Keeps.steps hs) ⟨below_steps j0 (Nat.le_refl _) hs, jk.then_ hs, Nat.le_trans jn hs.size, b_a.steps hs, b_f.steps hs⟩ hu ⟨_, _, _, _, _, _, _, _, rfl⟩
  rintro _ ⟨z1, z2, z3, z4, z5, z6, z7, z8, rfl⟩
  refine Reg.RC_at (b := ⟨#[_,_,_,_,_,_,_,_,_,_,_,_,_,_,_,_,_,_,_,_,_,_,_,_,_,_,_,_,_,_,_,_,_,_,_], []⟩) rfl ?_
  apply Reg.RC_pure (hc := rfl) (hst := rfl) (hw := rfl) (t := 15) (hd := rfl) (ht := Nat.le_of_ble_eq_true rfl)
  · intro D v' W' hc hj hf K hK
    obtain ⟨j0, jk, jn, b_a, b_f⟩ := hj
    have c0 : W'.cell? ⟨w.heap.size + 1, 0, none⟩ = some (.bool f1) := b_f.c 0 rfl
    have c1 : W'.cell? ⟨w.heap.size + 1, 1, none⟩ = some (.slice f2 f3 f5) := b_f.c 1 rfl
    have c2 : W'.cell? ⟨w.heap.size + 1, 2, none⟩ = some (.bool f6) := b_f.c 2 rfl
    have c3 : W'.cell? ⟨w.heap.size + 1, 3, none⟩ = some (.slice f7 f8 f9) := b_f.c 3 rfl
    go_step
    exact hK.out
  · rfl
  refine Reg.RC_call rfl (by intro t ht; cases ht; exact Nat.le_of_ble_eq_true rfl) rfl (fun D v' W' hc hj hf K hK => ?_) ?_
  · obtain ⟨j0, jk, jn, b_a, b_f⟩ := hj
    have g4 : GFr (unitQ lo) _ W' := (hf (4, some 14) (.head _) rfl).2.2
    have g4 : FR W' _ (unitQ lo) := g4
    clear hf
    go_step
    refine (c1 W' _ _ g4 (Ff.out.keeps jk)).mono ?_
    rintro e W2 ⟨rfl, hs⟩
    exact hK.out _ W2 (Keeps.steps hs) ⟨below_steps j0 (Nat.le_refl _) hs, jk.then_ hs, Nat.le_trans jn hs.size, b_a.steps hs, b_f.steps hs⟩ trivial rfl
  rintro _ rfl
  refine Reg.RC_at (b := ⟨#[_,_,_,_,_,_,_,_,_,_,_,_,_,_,_,_,_,_,_,_,_,_,_,_,_,_,_,_,_,_,_,_,_,_,_], []⟩) rfl ?_
  apply Reg.RC_pure (hc := rfl) (hst := rfl) (hw := rfl) (t := 9) (hd := rfl) (ht := Nat.le_of_ble_eq_true rfl)
  · intro D v' W' hc hj hf K hK
    go_step
    exact hK.out
  · rfl
  apply Reg.RC_pure (hc := rfl) (hst := rfl) (hw := rfl) (t := 17) (hd := rfl) (ht := Nat.le_of_ble_eq_true rfl)
  · intro D v' W' hc hj hf K hK
    go_step
    exact hK.out
  · rfl
  apply Reg.RC_pure (hc := rfl) (hst := rfl) (hw := rfl) (t := 18) (hd := rfl) (ht := Nat.le_of_ble_eq_true rfl)
  · intro D v' W' hc hj hf K hK
    go_step
    exact hK.out
  · rfl
  apply Reg.RC_pure (hc := rfl) (hst := rfl) (hw := rfl) (t := 5) (hd := rfl) (ht := Nat.le_of_ble_eq_true rfl)
  · intro D v' W' hc hj hf K hK
    go_step
    exact hK.out
  · rfl
  apply Reg.RC_pure (hc := rfl) (hst := rfl) (hw := rfl) (t := 6) (hd := rfl) (ht := Nat.le_of_ble_eq_true rfl)
  · intro D v' W' hc hj hf K hK
    go_step
    exact hK.out
  · rfl
  refine Reg.RC_end (fun Dn v' w1 hd hj hf => ?_)
  obtain ⟨j0, jk, jn, b_a, b_f⟩ := hj
  have B := j0
  have oa := b_a
  clear b_a
  have of := b_f
  clear b_f
  replace Ff := Hid.mk_ (Ff.out.keeps jk)
  clear hd hf jk j0
  refine hQ _ _ ?_
  clear hQ hops Q' ops'
  have ca0 := oa.q0
  have ca1 := oa.q1
  have fa := oa.fr
  have la := oa.lt
  have cf0 := of.q0
  have cf1 := of.q1
  have cf2 := of.q2
  have cf3 := of.q3
  have ff := of.fr
  have lf := of.lt
  clear c1
  go_upto_region 2 with fail
  refine Reg.wp_chain_n (fun N0 D v W => Below w.heap.size w W ∧ Keeps w1 W ∧ N0 ≤ W.heap.size ∧ Blk W (w.heap.size) 23 #[.int .i64 (lo), .int .i64 (hi)] ∧ Blk W (w.heap.size + 1) 31 #[.bool f1, .slice f2 f3 f5, .bool f6, .slice f7 f8 f9])
    (Reg.inl [3, 4, 5, 6]) (Reg.gv [(3, IsNu), (4, IsNu), (5, IsFr), (6, fun x => x = .tuple #[.int .i64 Y, .int .i64 0])]) (gw [(3, GNu (hi)), (4, GNu (1099511627776)), (5, GFr (unitQ hi))]) (fun _ => Keeps) (fun _ _ => False) (Reg.pl [(5, [(3, some 23), (4, some 24)]), (6, [(5, some 25)]), (12, [(3, some 23), (4, some 24), (5, some 25), (6, some 26)])]) (Reg.pl [])
    (by kernel_rfl) (by kernel_rfl) (by kernel_rfl) (Reg.gv_some _ (by intro p hp; simp only [List.mem_cons, List.not_mem_nil, or_false] at hp; rcases hp with rfl | rfl | rfl | rfl <;> first | exact ⟨_, rfl⟩ | exact ⟨_, 0, rfl⟩ | exact ⟨_, false, none, 0, 0, rfl⟩ | exact ⟨_, false, none, 0, 0, false, none, 0, 0, rfl⟩)) (fun N0 hN0 => ⟨fun v => ?_, fun D v v' W hv hj => ?_, fun D v k j W W' x _ _ _ _ hk hg => gw_keeps _ (by intro p hp; simp only [List.mem_cons, List.not_mem_nil, or_false] at hp; rcases hp with rfl | rfl | rfl <;> first | exact GFr.keeps | exact GFrE.keeps | exact GNu.keeps | exact GNuE.keeps) hk hg, fun _ _ _ _ h => h.elim, fun ops' Q' hops hQ => ?_⟩)
  · exact ⟨belowB, keepsB, Nat.le_of_eq hN0.out, ownK, ownK⟩
  · obtain ⟨j0, jk, jn, b_a, b_f⟩ := hj
    exact ⟨j0, jk, jn, b_a, b_f⟩
  have i_a : w.heap.size < N0 := by have e := hN0.out; (try simp only [World.size_alloc, World.size_setCell, World.size_drew, World.heap_drewN] at e); first | omega | (have h := oa.lt; omega)
  have i_f : w.heap.size + 1 < N0 := by have e := hN0.out; (try simp only [World.size_alloc, World.size_setCell, World.size_drew, World.heap_drewN] at e); first | omega | (have h := of.lt; omega)
  have iw : w.heap.size ≤ N0 := by have e := hN0.out; (try simp only [World.size_alloc, World.size_setCell, World.size_drew, World.heap_drewN] at e); first | omega | (have h := B.size; omega)
  clear B oa of ca0 ca1 fa la cf0 cf1 cf2 cf3 ff lf
  clear hN0
  apply Reg.RC_pure (hc := rfl) (hst := rfl) (hw := rfl) (t := 20) (hd := rfl) (ht := Nat.le_of_ble_eq_true rfl)
  · intro D v' W' hc hj hf K hK
    obtain ⟨j0, jk, jn, b_a, b_f⟩ := hj
    have c0 : W'.cell? ⟨w.heap.size + 1, 0, none⟩ = some (.bool f1) := b_f.c 0 rfl
    have c1 : W'.cell? ⟨w.heap.size + 1, 1, none⟩ = some (.slice f2 f3 f5) := b_f.c 1 rfl
    have c2 : W'.cell? ⟨w.heap.size + 1, 2, none⟩ = some (.bool f6) := b_f.c 2 rfl
    have c3 : W'.cell? ⟨w.heap.size + 1, 3, none⟩ = some (.slice f7 f8 f9) := b_f.c 3 rfl
    go_step
    exact hK.out
  · rfl
  apply Reg.RC_pure (hc := rfl) (hst := rfl) (hw := rfl) (t := 21) (hd := rfl) (ht := Nat.le_of_ble_eq_true rfl)
  · intro D v' W' hc hj hf K hK
    go_step
    exact hK.out
  · rfl
  apply Reg.RC_pure (hc := rfl) (hst := rfl) (hw := rfl) (t := 22) (hd := rfl) (ht := Nat.le_of_ble_eq_true rfl)
  · intro D v' W' hc hj hf K hK
    obtain ⟨j0, jk, jn, b_a, b_f⟩ := hj
    have c0 : W'.cell? ⟨w.heap.size, 0, none⟩ = some (.int .i64 (lo)) := b_a.c 0 rfl
    have c1 : W'.cell? ⟨w.heap.size, 1, none⟩ = some (.int .i64 (hi)) := b_a.c 1 rfl
    go_step
    exact hK.out
  · rfl
  refine Reg.RC_call rfl (by intro t ht; cases ht; exact Nat.le_of_ble_eq_true rfl) rfl (fun D v' W' hc hj hf K hK => ?_) ?_
  · obtain ⟨j0, jk, jn, b_a, b_f⟩ := hj
    clear hf
    go_step
    refine (rfrom hi W' h0 h1).mono ?_
    rintro e W2 ⟨u, rfl, hu, hs⟩
    obtain ⟨x1, x2, x3, x4, rfl⟩ := hu.shape
    exact hK.out _ W2 (Keeps.steps hs) ⟨below_steps j0 (Nat.le_refl _) hs, jk.then_ hs, Nat.le_trans jn hs.size, b_a.steps hs, b_f.steps hs⟩ hu ⟨_, _, _, _, rfl⟩
  rintro _ ⟨x1, x2, x3, x4, rfl⟩
  refine Reg.RC_at (b := ⟨#[_,_,_,_,_,_,_,_,_,_,_,_,_,_,_,_,_,_,_,_,_,_,_,_,_,_,_,_,_,_,_,_,_,_,_], []⟩) rfl ?_
  refine Reg.RC_call rfl (by intro t ht; cases ht; exact Nat.le_of_ble_eq_true rfl) rfl (fun D v' W' hc hj hf K hK => ?_) ?_
  · obtain ⟨j0, jk, jn, b_a, b_f⟩ := hj
    clear hf
    go_step
    refine (rfrom 1099511627776 W' (by omega) (by omega)).mono ?_
    rintro e W2 ⟨u, rfl, hu, hs⟩
    obtain ⟨y1, y2, y3, y4, rfl⟩ := hu.shape
    exact hK.out _ W2 (Keeps.steps hs) ⟨below_steps j0 (Nat.le_refl _) hs, jk.then_ hs, Nat.le_trans jn hs.size, b_a.steps hs, b_f.steps hs⟩ hu ⟨_, _, _, _, rfl⟩
  rintro _ ⟨y1, y2, y3, y4, rfl⟩
  refine Reg.RC_at (b := ⟨#[_,_,_,_,_,_,_,_,_,_,_,_,_,_,_,_,_,_,_,_,_,_,_,_,_,_,_,_,_,_,_,_,_,_,_], []⟩) rfl ?_
  refine Reg.RC_call rfl (by intro t ht; cases ht; exact Nat.le_of_ble_eq_true rfl) rfl (fun D v' W' hc hj hf K hK => ?_) ?_
  · obtain ⟨j0, jk, jn, b_a, b_f⟩ := hj
    have g3 : GNu (hi) _ W' := (hf (3, some 23) (.head _) rfl).2.2
    have g3 : Num W' _ (hi) := g3
    have g4 : GNu (1099511627776) _ W' := (hf (4, some 24) (.tail _ (.head _)) rfl).2.2
    have g4 : Num W' _ (1099511627776) := g4
    clear hf
    go_step
    refine (rreducedQ W' g3 g4 fh f4 (by omega)).mono ?_
    rintro e W2 ⟨u, rfl, hu, hs⟩
    obtain ⟨z1, z2, z3, z4, z5, z6, z7, z8, rfl⟩ := hu.shape
    exact hK.out _ W2 (Keeps.steps hs) ⟨below_steps j0 (Nat.le_refl _) hs, jk.then_ hs, Nat.le_trans jn hs.size, b_a.steps hs, b_f.steps hs⟩ hu ⟨_, _, _, _, _, _, _, _, rfl⟩
  rintro _ ⟨z1, z2, z3, z4, z5, z6, z7, z8, rfl⟩
  refine Reg.RC_at (b := ⟨#[_,_,_,_,_,_,_,_,_,_,_,_,_,_,_,_,_,_,_,_,_,_,_,_,_,_,_,_,_,_,_,_,_,_,_], []⟩) rfl ?_
  refine Reg.RC_call rfl (by intro t ht; cases ht; exact Nat.le_of_ble_eq_true rfl) rfl (fun D v' W' hc hj hf K hK => ?_) ?_
  · obtain ⟨j0, jk, jn, b_a, b_f⟩ := hj
    have g5 : GFr (unitQ hi) _ W' := (hf (5, some 25) (.head _) rfl).2.2
    have g5 : FR W' _ (unitQ hi) := g5
    clear hf
    go_step
    refine (c2 W' _ _ (Ff.out.keeps jk) g5).mono ?_
    rintro e W2 ⟨rfl, hs⟩
    exact hK.out _ W2 (Keeps.steps hs) ⟨below_steps j0 (Nat.le_refl _) hs, jk.then_ hs, Nat.le_trans jn hs.size, b_a.steps hs, b_f.steps hs⟩ trivial rfl
  rintro _ rfl
  refine Reg.RC_at (b := ⟨#[_,_,_,_,_,_,_,_,_,_,_,_,_,_,_,_,_,_,_,_,_,_,_,_,_,_,_,_,_,_,_,_,_,_,_], []⟩) rfl ?_
  apply Reg.RC_pure (hc := rfl) (hst := rfl) (hw := rfl) (t := 19) (hd := rfl) (ht := Nat.le_of_ble_eq_true rfl)
  · intro D v' W' hc hj hf K hK
    go_step
    exact hK.out
  · rfl
  apply Reg.RC_pure (hc := rfl) (hst := rfl) (hw := rfl) (t := 27) (hd := rfl) (ht := Nat.le_of_ble_eq_true rfl)
  · intro D v' W' hc hj hf K hK
    go_step
    exact hK.out
  · rfl
  apply Reg.RC_pure (hc := rfl) (hst := rfl) (hw := rfl) (t := 28) (hd := rfl) (ht := Nat.le_of_ble_eq_true rfl)
  · intro D v' W' hc hj hf K hK
    go_step
    exact hK.out
  · rfl
  apply Reg.RC_pure (hc := rfl) (hst := rfl) (hw := rfl) (t := 7) (hd := rfl) (ht := Nat.le_of_ble_eq_true rfl)
  · intro D v' W' hc hj hf K hK
    go_step
    exact hK.out
  · rfl
  apply Reg.RC_pure (hc := rfl) (hst := rfl) (hw := rfl) (t := 8) (hd := rfl) (ht := Nat.le_of_ble_eq_true rfl)
  · intro D v' W' hc hj hf K hK
    go_step
    exact hK.out
  · rfl
  refine Reg.RC_end (fun Dn v' w2 hd hj hf => ?_)
  obtain ⟨j0, jk, jn, b_a, b_f⟩ := hj
  have B := j0
  have oa := b_a
  clear b_a
  have of := b_f
  clear b_f
  replace Ff := Hid.mk_ (Ff.out.keeps jk)
  clear hd hf jk j0
  refine hQ _ _ ?_
  clear hQ hops Q' ops'
  have ca0 := oa.q0
  have ca1 := oa.q1
  have fa := oa.fr
  have la := oa.lt
  have cf0 := of.q0
  have cf1 := of.q1
  have cf2 := of.q2
  have cf3 := of.q3
  have ff := of.fr
  have lf := of.lt
  by_cases x1 : X ≤ 0
  · by_cases x2 : Y ≤ 0
    · go_wp2
      go_returns
      exact ⟨retBool (by simp [x1, x2]), belowB⟩
    · go_wp2
      go_returns
      exact ⟨retBool (by simp [x1, x2]), belowB⟩
  · go_wp2
    go_returns
    exact ⟨retBool (by first | (simp; omega) | simp [x1]), belowB⟩
theorem rhas (lo hi : Int) {v : Value} {r : Rat} {k : Nat} (w : World) (hv : FR w v r) (hr : sz r k) (hk : k ≤ 4000) (l0 : -9223372036854775808 ≤ lo) (l1 : lo ≤ 9223372036854775807) (h0 : -9223372036854775808 ≤ hi) (h1 : hi ≤ 9223372036854775807) :
    Calls Tryz.prog 16 #[.agg #[.int .i64 lo, .int .i64 hi], v] w fun e w' => e = .returned (.bool (decide (unitQ lo ≤ r ∧ r ≤ unitQ hi))) ∧ Steps w w' := by
  have := rhas_walk lo hi _ _ w hv hr hk l0 l1 h0 h1 rfl rfl
  simp only [cmpQ_le] at this
  exact this
set_option maxHeartbeats 6400000 in
set_option maxRecDepth 1000000 in
theorem lnear_true (en C : Int) {v : Value} {r : Rat} {k : Nat} (w : World) (hv : FR w v r) (hr : sz r k) (hk : k ≤ 4000) (e0 : -9223372036854775808 ≤ en) (e1 : en ≤ 9223372036854775807) (hC : cmpQ (unitQ en - r) (unitQ 1) = C) :
    Calls Tryz.prog 22 #[.int .i64 en, v, .bool true] w fun e w' => e = .returned (.bool (decide (¬ (unitQ en - r) < 0 ∧ C < 0))) ∧ Steps w w' := by
  have su := sz_unit e0 (by omega)
  have s1 := sz_unit (n := 1) (by omega) (by omega)
  have sd := su.sub hr
  have sn := sd.neg
  have c1 : ∀ w' a b, FR w' a (unitQ en - r) → FR w' b (unitQ 1) → Calls Tryz.prog 20 #[a, b] w' fun e w2 => e = .returned (.tuple #[.int .i64 C, .int .i64 0]) ∧ Steps w' w2 := fun w' a b ha hb => by rw [← hC]; exact rCmpQ w' ha hb sd s1 (by omega)
  have mi : ∀ w' a b, FR w' a (unitQ en) → FR w' b r → Calls Tryz.prog 12 #[a, b] w' fun e w2 => ∃ v, e = .returned (.tuple #[v, .int .i64 0]) ∧ FR w2 v (unitQ en - r) ∧ Steps w' w2 := fun w' a b ha hb => rMinusQ w' ha hb su hr (by omega)
  obtain ⟨f1, f2, f3, f5, f6, f7, f8, f9, rfl⟩ := hv.shape
  have Ff := Hid.mk_ hv
  clear hv hr hC su s1 sd sn
  go_enter Tryz.func22, Tryz.ntmps22
  go_upto_region 1 with fail
  refine Reg.wp_chain_n (fun N0 D v W => Below w.heap.size w W ∧ Keeps w W ∧ N0 ≤ W.heap.size ∧ Blk W (w.heap.size) 31 #[.bool f1, .slice f2 f3 f5, .bool f6, .slice f7 f8 f9] ∧ (D 7 = true → ∃ g : Nat, v 7 = .pointer (some ⟨g, 0, none⟩) ∧ N0 ≤ g ∧ g < W.heap.size ∧ (D 8 = false → Blk W g 31 #[.bool false, .slice none 0 0, .bool false, .slice none 0 0]) ∧ (D 8 = true → D 3 = true ∧ ∃ cs, v 3 = .tuple #[.agg cs, .int .i64 0] ∧ Blk W g 31 cs)))
    (Reg.inl [1, 3, 7, 8]) (Reg.gv [(1, IsFr), (3, IsFrE 0), (7, IsPtr)]) (gw [(1, GFr (unitQ en)), (3, GFrE (unitQ en - r) 0)]) (fun _ => Keeps) (fun _ _ => False) (Reg.pl [(3, [(1, some 13)]), (8, [(3, some 15), (7, some 7)]), (10, [(1, some 13), (3, some 15), (7, some 7)])]) (Reg.pl [(7, [8]), (3, [8])])
    (by kernel_rfl) (by kernel_rfl) (by kernel_rfl) (Reg.gv_some _ (by intro p hp; simp only [List.mem_cons, List.not_mem_nil, or_false] at hp; rcases hp with rfl | rfl | rfl <;> first | exact ⟨_, rfl⟩ | exact ⟨_, 0, rfl⟩ | exact ⟨_, false, none, 0, 0, rfl⟩ | exact ⟨_, false, none, 0, 0, false, none, 0, 0, rfl⟩)) (fun N0 hN0 => ⟨fun v => ?_, fun D v v' W hv hj => ?_, fun D v k j W W' x _ _ _ _ hk hg => gw_keeps _ (by intro p hp; simp only [List.mem_cons, List.not_mem_nil, or_false] at hp; rcases hp with rfl | rfl <;> first | exact GFr.keeps | exact GFrE.keeps | exact GNu.keeps | exact GNuE.keeps) hk hg, fun _ _ _ _ h => h.elim, fun ops' Q' hops hQ => ?_⟩)
  · exact ⟨belowB, keepsB, Nat.le_of_eq hN0.out, ownK, (fun h => Bool.noConfusion h)⟩
  · obtain ⟨j0, jk, jn, b_f, a_7⟩ := hj
    exact ⟨j0, jk, jn, b_f, fun h => by obtain ⟨g, e1, e2, e3, e4, e5⟩ := a_7 h; exact ⟨g, (hv 7 h) ▸ e1, e2, e3, e4, fun h => by obtain ⟨d, cs, e, hb⟩ := e5 h; exact ⟨d, cs, (hv 3 d) ▸ e, hb⟩⟩⟩
  have i_f : w.heap.size < N0 := by have e := hN0.out; (try simp only [World.size_alloc, World.size_setCell, World.size_drew, World.heap_drewN] at e); first | omega | (have h := of.lt; omega)
  have iw : w.heap.size ≤ N0 := by have e := hN0.out; (try simp only [World.size_alloc, World.size_setCell, World.size_drew, World.heap_drewN] at e); first | omega | (have h := B.size; omega)
  clear hN0
  apply Reg.RC_pure (hc := rfl) (hst := rfl) (hw := rfl) (t := 12) (hd := rfl) (ht := Nat.le_of_ble_eq_true rfl)
  · intro D v' W' hc hj hf K hK
    go_step
    exact hK.out
  · rfl
  refine Reg.RC_call rfl (by intro t ht; cases ht; exact Nat.le_of_ble_eq_true rfl) rfl (fun D v' W' hc hj hf K hK => ?_) ?_
  · obtain ⟨j0, jk, jn, b_f, a_7⟩ := hj
    clear hf
    go_step
    refine (lnumber en W' e0 e1).mono ?_
    rintro e W2 ⟨u, rfl, hu, hs⟩
    obtain ⟨x1, x2, x3, x4, x5, x6, x7, x8, rfl⟩ := hu.shape
    exact hK.out _ W2 (Keeps.steps hs) ⟨below_steps j0 (Nat.le_refl _) hs, jk.then_ hs, Nat.le_trans jn hs.size, b_f.steps hs, fun h => by obtain ⟨g, e1, e2, e3, e4, e5⟩ := a_7 h; exact ⟨g, e1, e2, Nat.lt_of_lt_of_le e3 (hs).size, fun h => (e4 h).steps hs, fun h => by obtain ⟨d, cs, e, hb⟩ := e5 h; exact ⟨d, cs, e, hb.steps hs⟩⟩⟩ hu ⟨_, _, _, _, _, _, _, _, rfl⟩
  rintro _ ⟨x1, x2, x3, x4, x5, x6, x7, x8, rfl⟩
  refine Reg.RC_at (b := ⟨#[_,_,_,_,_,_,_,_,_,_,_,_,_,_,_,_,_,_,_,_,_,_,_,_,_,_,_,_,_,_,_,_,_,_,_,_,_,_,_], []⟩) rfl ?_
  apply Reg.RC_pure (hc := rfl) (hst := rfl) (hw := rfl) (t := 14) (hd := rfl) (ht := Nat.le_of_ble_eq_true rfl)
  · intro D v' W' hc hj hf K hK
    obtain ⟨j0, jk, jn, b_f, a_7⟩ := hj
    have c0 : W'.cell? ⟨w.heap.size, 0, none⟩ = some (.bool f1) := b_f.c 0 rfl
    have c1 : W'.cell? ⟨w.heap.size, 1, none⟩ = some (.slice f2 f3 f5) := b_f.c 1 rfl
    have c2 : W'.cell? ⟨w.heap.size, 2, none⟩ = some (.bool f6) := b_f.c 2 rfl
    have c3 : W'.cell? ⟨w.heap.size, 3, none⟩ = some (.slice f7 f8 f9) := b_f.c 3 rfl
    go_step
    exact hK.out
  · rfl
  refine Reg.RC_call rfl (by intro t ht; cases ht; exact Nat.le_of_ble_eq_true rfl) rfl (fun D v' W' hc hj hf K hK => ?_) ?_
  · obtain ⟨j0, jk, jn, b_f, a_7⟩ := hj
    have g1 : GFr (unitQ en) _ W' := (hf (1, some 13) (.head _) rfl).2.2
    have g1 : FR W' _ (unitQ en) := g1
    clear hf
    go_step
    refine (mi W' _ _ g1 (Ff.out.keeps jk)).mono ?_
    rintro e W2 ⟨u, rfl, hu, hs⟩
    obtain ⟨d1, d2, d3, d4, d5, d6, d7, d8, rfl⟩ := hu.shape
    exact hK.out _ W2 (Keeps.steps hs) ⟨below_steps j0 (Nat.le_refl _) hs, jk.then_ hs, Nat.le_trans jn hs.size, b_f.steps hs, fun h => by obtain ⟨g, e1, e2, e3, e4, e5⟩ := a_7 h; exact ⟨g, e1, e2, Nat.lt_of_lt_of_le e3 (hs).size, fun h => (e4 h).steps hs, fun h => Bool.noConfusion ((hc.2 8 (by decide)).symm.trans h)⟩⟩ ⟨_, rfl, hu⟩ ⟨_, _, _, _, _, _, _, _, rfl⟩
  rintro _ ⟨d1, d2, d3, d4, d5, d6, d7, d8, rfl⟩
  refine Reg.RC_at (b := ⟨#[_,_,_,_,_,_,_,_,_,_,_,_,_,_,_,_,_,_,_,_,_,_,_,_,_,_,_,_,_,_,_,_,_,_,_,_,_,_,_], []⟩) rfl ?_
  apply Reg.RC_pure (hc := rfl) (hst := rfl) (hw := rfl) (t := 11) (hd := rfl) (ht := Nat.le_of_ble_eq_true rfl)
  · intro D v' W' hc hj hf K hK
    go_step
    exact hK.out
  · rfl
  apply Reg.RC_pure (hc := rfl) (hst := rfl) (hw := rfl) (t := 16) (hd := rfl) (ht := Nat.le_of_ble_eq_true rfl)
  · intro D v' W' hc hj hf K hK
    go_step
    exact hK.out
  · rfl
  apply Reg.RC_pure (hc := rfl) (hst := rfl) (hw := rfl) (t := 17) (hd := rfl) (ht := Nat.le_of_ble_eq_true rfl)
  · intro D v' W' hc hj hf K hK
    go_step
    exact hK.out
  · rfl
  refine Reg.RC_call rfl (by intro t ht; cases ht; exact Nat.le_of_ble_eq_true rfl) rfl (fun D v' W' hc hj hf K hK => ?_) ?_
  · obtain ⟨j0, jk, jn, b_f, a_7⟩ := hj
    go_step
    have hs : ∀ o : Obj, Steps W' (W'.alloc o) := fun o => (Below.refl _ _).alloc (Nat.le_refl _) o
    exact hK.out _ _ (Keeps.steps (hs _)) ⟨below_steps j0 (Nat.le_refl _) (hs _), jk.then_ (hs _), Nat.le_trans jn (hs _).size, b_f.steps (hs _), fun _ => ⟨W'.heap.size, rfl, jn, by rw [World.size_alloc]; omega, fun _ => Blk.new _ _ _, fun h => Bool.noConfusion ((hc.2 8 (by decide)).symm.trans h)⟩⟩ trivial ⟨_, rfl⟩
  rintro _ ⟨p7, rfl⟩
  refine Reg.RC_at (b := ⟨#[_,_,_,_,_,_,_,_,_,_,_,_,_,_,_,_,_,_,_,_,_,_,_,_,_,_,_,_,_,_,_,_,_,_,_,_,_,_,_], []⟩) rfl ?_
  refine Reg.RC_call rfl (by intro t ht; cases ht) rfl (fun D v' W' hc hj hf K hK => ?_) (fun _ _ => Reg.RC_at (b := ⟨_, []⟩) rfl ?_)
  · obtain ⟨j0, jk, jn, b_f, a_7⟩ := hj
    have f := hf (7, some 7) (.tail _ (.head _)) rfl
    have e6 : v' 7 = .pointer (some ⟨p7, 0, none⟩) := f.2.1
    obtain ⟨g, e1, e2, e3, e4, e5⟩ := a_7 f.1
    obtain rfl : p7 = g := Reg.ptr_eq (e6.symm.trans e1)
    have hb := e4 hc.1
    clear e4 e5
    have fc := hf (3, some 15) (.head _) rfl
    have ec : v' 3 = .tuple #[.agg #[.bool d1, .slice d2 d3 d4, .bool d5, .slice d6 d7 d8], .int .i64 0] := fc.2.1
    have ff := hb.fr
    have cc0 : W'.cell? ⟨p7, 0, none⟩ = some (.bool false) := hb.c 0 rfl
    have cc1 : W'.cell? ⟨p7, 1, none⟩ = some (.slice none 0 0) := hb.c 1 rfl
    have cc2 : W'.cell? ⟨p7, 2, none⟩ = some (.bool false) := hb.c 2 rfl
    have cc3 : W'.cell? ⟨p7, 3, none⟩ = some (.slice none 0 0) := hb.c 3 rfl
    go_step
    exact hK.out undef _ (Keeps.only hb rfl ((Only.refl _ _).set.set.set.set)) ⟨(Below.setCell (p := ⟨p7, 3, none⟩) (Below.setCell (p := ⟨p7, 2, none⟩) (Below.setCell (p := ⟨p7, 1, none⟩) (Below.setCell (p := ⟨p7, 0, none⟩) j0 (by show w.heap.size ≤ p7; omega) _) (by show w.heap.size ≤ p7; omega) _) (by show w.heap.size ≤ p7; omega) _) (by show w.heap.size ≤ p7; omega) _), jk.trans (Keeps.only hb rfl ((Only.refl _ _).set.set.set.set)), by simpa using jn, ((((b_f).far' (show w.heap.size ≠ p7 by omega)).far' (show w.heap.size ≠ p7 by omega)).far' (show w.heap.size ≠ p7 by omega)).far' (show w.heap.size ≠ p7 by omega), fun _ => ⟨p7, e1, e2, by simpa using e3, fun h => Bool.noConfusion h, fun _ => ⟨fc.1, _, ec, (Blk.set2 (cs' := #[.bool d1, .slice d2 d3 d4, .bool d5, .slice d6 d7 d8]) (Blk.set2 (cs' := #[.bool d1, .slice d2 d3 d4, .bool d5, .slice none 0 0]) (Blk.set2 (cs' := #[.bool d1, .slice d2 d3 d4, .bool false, .slice none 0 0]) (Blk.set2 (cs' := #[.bool d1, .slice none 0 0, .bool false, .slice none 0 0]) hb (i := 0) rfl) (i := 1) rfl) (i := 2) rfl) (i := 3) rfl)⟩⟩⟩ trivial trivial
  apply Reg.RC_pure (hc := rfl) (hst := rfl) (hw := rfl) (t := 8) (hd := rfl) (ht := Nat.le_of_ble_eq_true rfl)
  · intro D v' W' hc hj hf K hK
    go_step
    exact hK.out
  · rfl
  refine Reg.RC_end (fun Dn v' w1 hd hj hf => ?_)
  obtain ⟨j0, jk, jn, b_f, a_7⟩ := hj
  have B := j0
  have of := b_f
  clear b_f
  have f := hf (7, some 7) (.tail _ (.tail _ (.head _))) rfl
  have e6 : v' 7 = .pointer (some ⟨p7, 0, none⟩) := f.2.1
  obtain ⟨g, e1, zd, -, -, e5⟩ := a_7 f.1
  obtain rfl : p7 = g := Reg.ptr_eq (e6.symm.trans e1)
  obtain ⟨-, cs_, ee, od⟩ := e5 (hd 8 (Nat.le_of_ble_eq_true rfl))
  have ef : v' 3 = .tuple #[.agg #[.bool d1, .slice d2 d3 d4, .bool d5, .slice d6 d7 d8], .int .i64 0] := (hf (3, some 15) (.tail _ (.head _)) rfl).2.1
  obtain rfl : #[.bool d1, .slice d2 d3 d4, .bool d5, .slice d6 d7 d8] = cs_ := by have := ef.symm.trans ee; simpa only [Value.tuple.injEq, Value.agg.injEq, Array.mk.injEq, List.cons.injEq, and_true, true_and] using this
  clear ee ef f e5
  have Fd := Hid.mk_ (GFrE.get (r := unitQ en - r) (e := 0) (v := .agg #[.bool d1, .slice d2 d3 d4, .bool d5, .slice d6 d7 d8]) (hf (3, some 15) (.tail _ (.head _)) rfl).2.2)
  replace Ff := Hid.mk_ (Ff.out.keeps jk)
  clear hd hf jk j0
  refine hQ _ _ ?_
  clear hQ hops Q' ops'
  have cf0 := of.q0
  have cf1 := of.q1
  have cf2 := of.q2
  have cf3 := of.q3
  have ff := of.fr
  have lf := of.lt
  have cd0 := od.q0
  have cd1 := od.q1
  have cd2 := od.q2
  have cd3 := od.q3
  have fd := od.fr
  have ld := od.lt
  clear Ff
  clear mi
  go_upto_region 4 with fail
  refine Reg.wp_chain_n (fun N0 D v W => Below w.heap.size w W ∧ Keeps w1 W ∧ N0 ≤ W.heap.size ∧ Blk W (w.heap.size) 31 #[.bool f1, .slice f2 f3 f5, .bool f6, .slice f7 f8 f9] ∧ Blk W (p7) 31 #[.bool d1, .slice d2 d3 d4, .bool d5, .slice d6 d7 d8])
    (Reg.inl [1, 2]) (Reg.gv [(1, IsFr), (2, fun x => x = .tuple #[.int .i64 C, .int .i64 0])]) (gw [(1, GFr (unitQ 1))]) (fun _ => Keeps) (fun _ _ => False) (Reg.pl [(2, [(1, some 27)]), (8, [(1, some 27), (2, some 28)])]) (Reg.pl [])
    (by kernel_rfl) (by kernel_rfl) (by kernel_rfl) (Reg.gv_some _ (by intro p hp; simp only [List.mem_cons, List.not_mem_nil, or_false] at hp; rcases hp with rfl | rfl <;> first | exact ⟨_, rfl⟩ | exact ⟨_, 0, rfl⟩ | exact ⟨_, false, none, 0, 0, rfl⟩ | exact ⟨_, false, none, 0, 0, false, none, 0, 0, rfl⟩)) (fun N0 hN0 => ⟨fun v => ?_, fun D v v' W hv hj => ?_, fun D v k j W W' x _ _ _ _ hk hg => gw_keeps _ (by intro p hp; simp only [List.mem_cons, List.not_mem_nil, or_false] at hp; rcases hp with rfl <;> first | exact GFr.keeps | exact GFrE.keeps | exact GNu.keeps | exact GNuE.keeps) hk hg, fun _ _ _ _ h => h.elim, fun ops' Q' hops hQ => ?_⟩)
  · exact ⟨belowB, keepsB, Nat.le_of_eq hN0.out, ownK, ownK⟩
  · obtain ⟨j0, jk, jn, b_f, b_d⟩ := hj
    exact ⟨j0, jk, jn, b_f, b_d⟩
  have i_f : w.heap.size < N0 := by have e := hN0.out; (try simp only [World.size_alloc, World.size_setCell, World.size_drew, World.heap_drewN] at e); first | omega | (have h := of.lt; omega)
  have i_d : p7 < N0 := by have e := hN0.out; (try simp only [World.size_alloc, World.size_setCell, World.size_drew, World.heap_drewN] at e); first | omega | (have h := od.lt; omega)
  have iw : w.heap.size ≤ N0 := by have e := hN0.out; (try simp only [World.size_alloc, World.size_setCell, World.size_drew, World.heap_drewN] at e); first | omega | (have h := B.size; omega)
  clear B of od cf0 cf1 cf2 cf3 ff lf cd0 cd1 cd2 cd3 fd ld
  clear hN0
  apply Reg.RC_pure (hc := rfl) (hst := rfl) (hw := rfl) (t := 26) (hd := rfl) (ht := Nat.le_of_ble_eq_true rfl)
  · intro D v' W' hc hj hf K hK
    obtain ⟨j0, jk, jn, b_f, b_d⟩ := hj
    have c0 : W'.cell? ⟨p7, 0, none⟩ = some (.bool d1) := b_d.c 0 rfl
    have c1 : W'.cell? ⟨p7, 1, none⟩ = some (.slice d2 d3 d4) := b_d.c 1 rfl
    have c2 : W'.cell? ⟨p7, 2, none⟩ = some (.bool d5) := b_d.c 2 rfl
    have c3 : W'.cell? ⟨p7, 3, none⟩ = some (.slice d6 d7 d8) := b_d.c 3 rfl
    go_step
    exact hK.out
  · rfl
  refine Reg.RC_call rfl (by intro t ht; cases ht; exact Nat.le_of_ble_eq_true rfl) rfl (fun D v' W' hc hj hf K hK => ?_) ?_
  · obtain ⟨j0, jk, jn, b_f, b_d⟩ := hj
    clear hf
    go_step
    refine (lnumber 1 W' (by omega) (by omega)).mono ?_
    rintro e W2 ⟨u, rfl, hu, hs⟩
    obtain ⟨y1, y2, y3, y4, y5, y6, y7, y8, rfl⟩ := hu.shape
    exact hK.out _ W2 (Keeps.steps hs) ⟨below_steps j0 (Nat.le_refl _) hs, jk.then_ hs, Nat.le_trans jn hs.size, b_f.steps hs, b_d.steps hs⟩ hu ⟨_, _, _, _, _, _, _, _, rfl⟩
  rintro _ ⟨y1, y2, y3, y4, y5, y6, y7, y8, rfl⟩
  refine Reg.RC_at (b := ⟨#[_,_,_,_,_,_,_,_,_,_,_,_,_,_,_,_,_,_,_,_,_,_,_,_,_,_,_,_,_,_,_,_,_,_,_,_,_,_,_], []⟩) rfl ?_
  refine Reg.RC_call rfl (by intro t ht; cases ht; exact Nat.le_of_ble_eq_true rfl) rfl (fun D v' W' hc hj hf K hK => ?_) ?_
  · obtain ⟨j0, jk, jn, b_f, b_d⟩ := hj
    have g1 : GFr (unitQ 1) _ W' := (hf (1, some 27) (.head _) rfl).2.2
    have g1 : FR W' _ (unitQ 1) := g1
    clear hf
    go_step
    refine (c1 W' _ _ (Fd.out.keeps jk) g1).mono ?_
    rintro e W2 ⟨rfl, hs⟩
    exact hK.out _ W2 (Keeps.steps hs) ⟨below_steps j0 (Nat.le_refl _) hs, jk.then_ hs, Nat.le_trans jn hs.size, b_f.steps hs, b_d.steps hs⟩ trivial rfl
  rintro _ rfl
  refine Reg.RC_at (b := ⟨#[_,_,_,_,_,_,_,_,_,_,_,_,_,_,_,_,_,_,_,_,_,_,_,_,_,_,_,_,_,_,_,_,_,_,_,_,_,_,_], []⟩) rfl ?_
  apply Reg.RC_pure (hc := rfl) (hst := rfl) (hw := rfl) (t := 25) (hd := rfl) (ht := Nat.le_of_ble_eq_true rfl)
  · intro D v' W' hc hj hf K hK
    go_step
    exact hK.out
  · rfl
  apply Reg.RC_pure (hc := rfl) (hst := rfl) (hw := rfl) (t := 29) (hd := rfl) (ht := Nat.le_of_ble_eq_true rfl)
  · intro D v' W' hc hj hf K hK
    go_step
    exact hK.out
  · rfl
  apply Reg.RC_pure (hc := rfl) (hst := rfl) (hw := rfl) (t := 30) (hd := rfl) (ht := Nat.le_of_ble_eq_true rfl)
  · intro D v' W' hc hj hf K hK
    go_step
    exact hK.out
  · rfl
  apply Reg.RC_pure (hc := rfl) (hst := rfl) (hw := rfl) (t := 9) (hd := rfl) (ht := Nat.le_of_ble_eq_true rfl)
  · intro D v' W' hc hj hf K hK
    go_step
    exact hK.out
  · rfl
  apply Reg.RC_pure (hc := rfl) (hst := rfl) (hw := rfl) (t := 10) (hd := rfl) (ht := Nat.le_of_ble_eq_true rfl)
  · intro D v' W' hc hj hf K hK
    go_step
    exact hK.out
  · rfl
  refine Reg.RC_end (fun Dn v' w2 hd hj hf => ?_)
  obtain ⟨j0, jk, jn, b_f, b_d⟩ := hj
  have B := j0
  have of := b_f
  clear b_f
  have od := b_d
  clear b_d
  replace Fd := Hid.mk_ (Fd.out.keeps jk)
  clear hd hf jk j0
  refine hQ _ _ ?_
  clear hQ hops Q' ops'
  have cf0 := of.q0
  have cf1 := of.q1
  have cf2 := of.q2
  have cf3 := of.q3
  have ff := of.fr
  have lf := of.lt
  have cd0 := od.q0
  have cd1 := od.q1
  have cd2 := od.q2
  have cd3 := od.q3
  have fd := od.fr
  have ld := od.lt
  clear c1
  have HN := Fd.out.neg.1
  clear Fd
  have HM := Hid.mk_ HN
  clear HN
  cases d1
  · by_cases x2 : C < 0
    · go_wp2
      go_returns
      exact ⟨retBool (by have := HM.out; have h := of_decide_eq_false this.symm; first | (simp [h]; done) | (simp [h]; omega)), belowB⟩
    · go_wp2
      go_returns
      exact ⟨retBool (by have := HM.out; have h := of_decide_eq_false this.symm; first | (simp [h]; done) | (simp [h]; omega)), belowB⟩
  · go_wp2
    go_returns
    exact ⟨retBool (by have := HM.out; have h := of_decide_eq_true this.symm; simp [h]), belowB⟩
set_option maxHeartbeats 6400000 in
set_option maxRecDepth 1000000 in
theorem lnear_false (en C : Int) {v : Value} {r : Rat} {k : Nat} (w : World) (hv : FR w v r) (hr : sz r k) (hk : k ≤ 4000) (e0 : -9223372036854775808 ≤ en) (e1 : en ≤ 9223372036854775807) (hC : cmpQ (-(unitQ en - r)) (unitQ 1) = C) :
    Calls Tryz.prog 22 #[.int .i64 en, v, .bool false] w fun e w' => e = .returned (.bool (decide (¬ (-(unitQ en - r)) < 0 ∧ C < 0))) ∧ Steps w w' := by
  have su := sz_unit e0 (by omega)
  have s1 := sz_unit (n := 1) (by omega) (by omega)
  have sd := su.sub hr
  have sn := sd.neg
  have c1 : ∀ w' a b, FR w' a (-(unitQ en - r)) → FR w' b (unitQ 1) → Calls Tryz.prog 20 #[a, b] w' fun e w2 => e = .returned (.tuple #[.int .i64 C, .int .i64 0]) ∧ Steps w' w2 := fun w' a b ha hb => by rw [← hC]; exact rCmpQ w' ha hb sn s1 (by omega)
  have mi : ∀ w' a b, FR w' a (unitQ en) → FR w' b r → Calls Tryz.prog 12 #[a, b] w' fun e w2 => ∃ v, e = .returned (.tuple #[v, .int .i64 0]) ∧ FR w2 v (unitQ en - r) ∧ Steps w' w2 := fun w' a b ha hb => rMinusQ w' ha hb su hr (by omega)
  obtain ⟨f1, f2, f3, f5, f6, f7, f8, f9, rfl⟩ := hv.shape
  have Ff := Hid.mk_ hv
  clear hv hr hC su s1 sd sn
  go_enter Tryz.func22, Tryz.ntmps22
  go_upto_region 1 with fail
  refine Reg.wp_chain_n (fun N0 D v W => Below w.heap.size w W ∧ Keeps w W ∧ N0 ≤ W.heap.size ∧ Blk W (w.heap.size) 31 #[.bool f1, .slice f2 f3 f5, .bool f6, .slice f7 f8 f9] ∧ (D 7 = true → ∃ g : Nat, v 7 = .pointer (some ⟨g, 0, none⟩) ∧ N0 ≤ g ∧ g < W.heap.size ∧ (D 8 = false → Blk W g 31 #[.bool false, .slice none 0 0, .bool false, .slice none 0 0]) ∧ (D 8 = true → D 3 = true ∧ ∃ cs, v 3 = .tuple #[.agg cs, .int .i64 0] ∧ Blk W g 31 cs)))
    (Reg.inl [1, 3, 7, 8]) (Reg.gv [(1, IsFr), (3, IsFrE 0), (7, IsPtr)]) (gw [(1, GFr (unitQ en)), (3, GFrE (unitQ en - r) 0)]) (fun _ => Keeps) (fun _ _ => False) (Reg.pl [(3, [(1, some 13)]), (8, [(3, some 15), (7, some 7)]), (10, [(1, some 13), (3, some 15), (7, some 7)])]) (Reg.pl [(7, [8]), (3, [8])])
    (by kernel_rfl) (by kernel_rfl) (by kernel_rfl) (Reg.gv_some _ (by intro p hp; simp only [List.mem_cons, List.not_mem_nil, or_false] at hp; rcases hp with rfl | rfl | rfl <;> first | exact ⟨_, rfl⟩ | exact ⟨_, 0, rfl⟩ | exact ⟨_, false, none, 0, 0, rfl⟩ | exact ⟨_, false, none, 0, 0, false, none, 0, 0, rfl⟩)) (fun N0 hN0 => ⟨fun v => ?_, fun D v v' W hv hj => ?_, fun D v k j W W' x _ _ _ _ hk hg => gw_keeps _ (by intro p hp; simp only [List.mem_cons, List.not_mem_nil, or_false] at hp; rcases hp with rfl | rfl <;> first | exact GFr.keeps | exact GFrE.keeps | exact GNu.keeps | exact GNuE.keeps) hk hg, fun _ _ _ _ h => h.elim, fun ops' Q' hops hQ => ?_⟩)
  · exact ⟨belowB, keepsB, Nat.le_of_eq hN0.out, ownK, (fun h => Bool.noConfusion h)⟩
  · obtain ⟨j0, jk, jn, b_f, a_7⟩ := hj
    exact ⟨j0, jk, jn, b_f, fun h => by obtain ⟨g, e1, e2, e3, e4, e5⟩ := a_7 h; exact ⟨g, (hv 7 h) ▸ e1, e2, e3, e4, fun h => by obtain ⟨d, cs, e, hb⟩ := e5 h; exact ⟨d, cs, (hv 3 d) ▸ e, hb⟩⟩⟩
  have i_f : w.heap.size < N0 := by have e := hN0.out; (try simp only [World.size_alloc, World.size_setCell, World.size_drew, World.heap_drewN] at e); first | omega | (have h := of.lt; omega)
  have iw : w.heap.size ≤ N0 := by have e := hN0.out; (try simp only [World.size_alloc, World.size_setCell, World.size_drew, World.heap_drewN] at e); first | omega | (have h := B.size; omega)
  clear hN0
  apply Reg.RC_pure (hc := rfl) (hst := rfl) (hw := rfl) (t := 12) (hd := rfl) (ht := Nat.le_of_ble_eq_true rfl)
  · intro D v' W' hc hj hf K hK
    go_step
    exact hK.out
  · rfl
  refine Reg.RC_call rfl (by intro t ht; cases ht; exact Nat.le_of_ble_eq_true rfl) rfl (fun D v' W' hc hj hf K hK => ?_) ?_
  · obtain ⟨j0, jk, jn, b_f, a_7⟩ := hj
    clear hf
    go_step
    refine (lnumber en W' e0 e1).mono ?_
    rintro e W2 ⟨u, rfl, hu, hs⟩
    obtain ⟨x1, x2, x3, x4, x5, x6, x7, x8, rfl⟩ := hu.shape
    exact hK.out _ W2 (Keeps.steps hs) ⟨below_steps j0 (Nat.le_refl _) hs, jk.then_ hs, Nat.le_trans jn hs.size, b_f.steps hs, fun h => by obtain ⟨g, e1, e2, e3, e4, e5⟩ := a_7 h; exact ⟨g, e1, e2, Nat.lt_of_lt_of_le e3 (hs).size, fun h => (e4 h).steps hs, fun h => by obtain ⟨d, cs, e, hb⟩ := e5 h; exact ⟨d, cs, e, hb.steps hs⟩⟩⟩ hu ⟨_, _, _, _, _, _, _, _, rfl⟩
  rintro _ ⟨x1, x2, x3, x4, x5, x6, x7, x8, rfl⟩
  refine Reg.RC_at (b := ⟨#[_,_,_,_,_,_,_,_,_,_,_,_,_,_,_,_,_,_,_,_,_,_,_,_,_,_,_,_,_,_,_,_,_,_,_,_,_,_,_], []⟩) rfl ?_
  apply Reg.RC_pure (hc := rfl) (hst := rfl) (hw := rfl) (t := 14) (hd := rfl) (ht := Nat.le_of_ble_eq_true rfl)
  · intro D v' W' hc hj hf K hK
    obtain ⟨j0, jk, jn, b_f, a_7⟩ := hj
    have c0 : W'.cell? ⟨w.heap.size, 0, none⟩ = some (.bool f1) := b_f.c 0 rfl
    have c1 : W'.cell? ⟨w.heap.size, 1, none⟩ = some (.slice f2 f3 f5) := b_f.c 1 rfl
    have c2 : W'.cell? ⟨w.heap.size, 2, none⟩ = some (.bool f6) := b_f.c 2 rfl
    have c3 : W'.cell? ⟨w.heap.size, 3, none⟩ = some (.slice f7 f8 f9) := b_f.c 3 rfl
    go_step
    exact hK.out
  · rfl
  refine Reg.RC_call rfl (by intro t ht; cases ht; exact Nat.le_of_ble_eq_true rfl) rfl (fun D v' W' hc hj hf K hK => ?_) ?_
  · obtain ⟨j0, jk, jn, b_f, a_7⟩ := hj
    have g1 : GFr (unitQ en) _ W' := (hf (1, some 13) (.head _) rfl).2.2
    have g1 : FR W' _ (unitQ en) := g1
    clear hf
    go_step
    refine (mi W' _ _ g1 (Ff.out.keeps jk)).mono ?_
    rintro e W2 ⟨u, rfl, hu, hs⟩
    obtain ⟨d1, d2, d3, d4, d5, d6, d7, d8, rfl⟩ := hu.shape
    exact hK.out _ W2 (Keeps.steps hs) ⟨below_steps j0 (Nat.le_refl _) hs, jk.then_ hs, Nat.le_trans jn hs.size, b_f.steps hs, fun h => by obtain ⟨g, e1, e2, e3, e4, e5⟩ := a_7 h; exact ⟨g, e1, e2, Nat.lt_of_lt_of_le e3 (hs).size, fun h => (e4 h).steps hs, fun h => Bool.noConfusion ((hc.2 8 (by decide)).symm.trans h)⟩⟩ ⟨_, rfl, hu⟩ ⟨_, _, _, _, _, _, _, _, rfl⟩
  rintro _ ⟨d1, d2, d3, d4, d5, d6, d7, d8, rfl⟩
  refine Reg.RC_at (b := ⟨#[_,_,_,_,_,_,_,_,_,_,_,_,_,_,_,_,_,_,_,_,_,_,_,_,_,_,_,_,_,_,_,_,_,_,_,_,_,_,_], []⟩) rfl ?_
  apply Reg.RC_pure (hc := rfl) (hst := rfl) (hw := rfl) (t := 11) (hd := rfl) (ht := Nat.le_of_ble_eq_true rfl)
  · intro D v' W' hc hj hf K hK
    go_step
    exact hK.out
  · rfl
  apply Reg.RC_pure (hc := rfl) (hst := rfl) (hw := rfl) (t := 16) (hd := rfl) (ht := Nat.le_of_ble_eq_true rfl)
  · intro D v' W' hc hj hf K hK
    go_step
    exact hK.out
  · rfl
  apply Reg.RC_pure (hc := rfl) (hst := rfl) (hw := rfl) (t := 17) (hd := rfl) (ht := Nat.le_of_ble_eq_true rfl)
  · intro D v' W' hc hj hf K hK
    go_step
    exact hK.out
  · rfl
  refine Reg.RC_call rfl (by intro t ht; cases ht; exact Nat.le_of_ble_eq_true rfl) rfl (fun D v' W' hc hj hf K hK => ?_) ?_
  · obtain ⟨j0, jk, jn, b_f, a_7⟩ := hj
    go_step
    have hs : ∀ o : Obj, Steps W' (W'.alloc o) := fun o => (Below.refl _ _).alloc (Nat.le_refl _) o
    exact hK.out _ _ (Keeps.steps (hs _)) ⟨below_steps j0 (Nat.le_refl _) (hs _), jk.then_ (hs _), Nat.le_trans jn (hs _).size, b_f.steps (hs _), fun _ => ⟨W'.heap.size, rfl, jn, by rw [World.size_alloc]; omega, fun _ => Blk.new _ _ _, fun h => Bool.noConfusion ((hc.2 8 (by decide)).symm.trans h)⟩⟩ trivial ⟨_, rfl⟩
  rintro _ ⟨p7, rfl⟩
  refine Reg.RC_at (b := ⟨#[_,_,_,_,_,_,_,_,_,_,_,_,_,_,_,_,_,_,_,_,_,_,_,_,_,_,_,_,_,_,_,_,_,_,_,_,_,_,_], []⟩) rfl ?_
  refine Reg.RC_call rfl (by intro t ht; cases ht) rfl (fun D v' W' hc hj hf K hK => ?_) (fun _ _ => Reg.RC_at (b := ⟨_, []⟩) rfl ?_)
  · obtain ⟨j0, jk, jn, b_f, a_7⟩ := hj
    have f := hf (7, some 7) (.tail _ (.head _)) rfl
    have e6 : v' 7 = .pointer (some ⟨p7, 0, none⟩) := f.2.1
    obtain ⟨g, e1, e2, e3, e4, e5⟩ := a_7 f.1
    obtain rfl : p7 = g := Reg.ptr_eq (e6.symm.trans e1)
    have hb := e4 hc.1
    clear e4 e5
    have fc := hf (3, some 15) (.head _) rfl
    have ec : v' 3 = .tuple #[.agg #[.bool d1, .slice d2 d3 d4, .bool d5, .slice d6 d7 d8], .int .i64 0] := fc.2.1
    have ff := hb.fr
    have cc0 : W'.cell? ⟨p7, 0, none⟩ = some (.bool false) := hb.c 0 rfl
    have cc1 : W'.cell? ⟨p7, 1, none⟩ = some (.slice none 0 0) := hb.c 1 rfl
    have cc2 : W'.cell? ⟨p7, 2, none⟩ = some (.bool false) := hb.c 2 rfl
    have cc3 : W'.cell? ⟨p7, 3, none⟩ = some (.slice none 0 0) := hb.c 3 rfl
    go_step
    exact hK.out undef _ (Keeps.only hb rfl ((Only.refl _ _).set.set.set.set)) ⟨(Below.setCell (p := ⟨p7, 3, none⟩) (Below.setCell (p := ⟨p7, 2, none⟩) (Below.setCell (p := ⟨p7, 1, none⟩) (Below.setCell (p := ⟨p7, 0, none⟩) j0 (by show w.heap.size ≤ p7; omega) _) (by show w.heap.size ≤ p7; omega) _) (by show w.heap.size ≤ p7; omega) _) (by show w.heap.size ≤ p7; omega) _), jk.trans (Keeps.only hb rfl ((Only.refl _ _).set.set.set.set)), by simpa using jn, ((((b_f).far' (show w.heap.size ≠ p7 by omega)).far' (show w.heap.size ≠ p7 by omega)).far' (show w.heap.size ≠ p7 by omega)).far' (show w.heap.size ≠ p7 by omega), fun _ => ⟨p7, e1, e2, by simpa using e3, fun h => Bool.noConfusion h, fun _ => ⟨fc.1, _, ec, (Blk.set2 (cs' := #[.bool d1, .slice d2 d3 d4, .bool d5, .slice d6 d7 d8]) (Blk.set2 (cs' := #[.bool d1, .slice d2 d3 d4, .bool d5, .slice none 0 0]) (Blk.set2 (cs' := #[.bool d1, .slice d2 d3 d4, .bool false, .slice none 0 0]) (Blk.set2 (cs' := #[.bool d1, .slice none 0 0, .bool false, .slice none 0 0]) hb (i := 0) rfl) (i := 1) rfl) (i := 2) rfl) (i := 3) rfl)⟩⟩⟩ trivial trivial
  apply Reg.RC_pure (hc := rfl) (hst := rfl) (hw := rfl) (t := 8) (hd := rfl) (ht := Nat.le_of_ble_eq_true rfl)
  · intro D v' W' hc hj hf K hK
    go_step
    exact hK.out
  · rfl
  refine Reg.RC_end (fun Dn v' w1 hd hj hf => ?_)
  obtain ⟨j0, jk, jn, b_f, a_7⟩ := hj
  have B := j0
  have of := b_f
  clear b_f
  have f := hf (7, some 7) (.tail _ (.tail _ (.head _))) rfl
  have e6 : v' 7 = .pointer (some ⟨p7, 0, none⟩) := f.2.1
  obtain ⟨g, e1, zd, -, -, e5⟩ := a_7 f.1
  obtain rfl : p7 = g := Reg.ptr_eq (e6.symm.trans e1)
  obtain ⟨-, cs_, ee, od⟩ := e5 (hd 8 (Nat.le_of_ble_eq_true rfl))
  have ef : v' 3 = .tuple #[.agg #[.bool d1, .slice d2 d3 d4, .bool d5, .slice d6 d7 d8], .int .i64 0] := (hf (3, some 15) (.tail _ (.head _)) rfl).2.1
  obtain rfl : #[.bool d1, .slice d2 d3 d4, .bool d5, .slice d6 d7 d8] = cs_ := by have := ef.symm.trans ee; simpa only [Value.tuple.injEq, Value.agg.injEq, Array.mk.injEq, List.cons.injEq, and_true, true_and] using this
  clear ee ef f e5
  have Fd := Hid.mk_ (GFrE.get (r := unitQ en - r) (e := 0) (v := .agg #[.bool d1, .slice d2 d3 d4, .bool d5, .slice d6 d7 d8]) (hf (3, some 15) (.tail _ (.head _)) rfl).2.2)
  replace Ff := Hid.mk_ (Ff.out.keeps jk)
  clear hd hf jk j0
  refine hQ _ _ ?_
  clear hQ hops Q' ops'
  have cf0 := of.q0
  have cf1 := of.q1
  have cf2 := of.q2
  have cf3 := of.q3
  have ff := of.fr
  have lf := of.lt
  have cd0 := od.q0
  have cd1 := od.q1
  have cd2 := od.q2
  have cd3 := od.q3
  have fd := od.fr
  have ld := od.lt
  clear Ff
  clear mi
  go_wp2_with fail
  refine (rNegQ _ (Fd.out.keeps keepsB)).mono ?_
  rintro e w2 ⟨vq, rfl, hvq, hb2⟩
  have st : Steps _ w2 := hb2
  have Bn : Below w.heap.size w w2 := belowA st
  have kp : Keeps w1 w2 := Keeps.then_ keepsB st
  have nf : Blk w2 (w.heap.size) 31 #[.bool f1, .slice f2 f3 f5, .bool f6, .slice f7 f8 f9] := Blk.stepsK st
  have nd : Blk w2 (p7) 31 #[.bool d1, .slice d2 d3 d4, .bool d5, .slice d6 d7 d8] := Blk.stepsK st
  clear B of od cf0 cf1 cf2 cf3 ff lf cd0 cd1 cd2 cd3 fd ld
  clear st
  have B := Bn
  clear Bn
  replace Fd := Hid.mk_ (Fd.out.keeps kp)
  clear kp
  have of := nf
  clear nf
  have cf0 := of.q0
  have cf1 := of.q1
  have cf2 := of.q2
  have cf3 := of.q3
  have ff := of.fr
  have lf := of.lt
  have od := nd
  clear nd
  have cd0 := od.q0
  have cd1 := od.q1
  have cd2 := od.q2
  have cd3 := od.q3
  have fd := od.fr
  have ld := od.lt
  obtain ⟨q1, q2, q3, q4, q5, q6, q7, q8, rfl⟩ := hvq.shape
  have Fq := Hid.mk_ hvq
  clear hvq
  clear Fd
  go_upto_region 4 with fail
  refine Reg.wp_chain_n (fun N0 D v W => Below w.heap.size w W ∧ Keeps w2 W ∧ N0 ≤ W.heap.size ∧ Blk W (w.heap.size) 31 #[.bool f1, .slice f2 f3 f5, .bool f6, .slice f7 f8 f9] ∧ Blk W (p7) 31 #[.bool q1, .slice q2 q3 q4, .bool q5, .slice q6 q7 q8])
    (Reg.inl [1, 2]) (Reg.gv [(1, IsFr), (2, fun x => x = .tuple #[.int .i64 C, .int .i64 0])]) (gw [(1, GFr (unitQ 1))]) (fun _ => Keeps) (fun _ _ => False) (Reg.pl [(2, [(1, some 27)]), (8, [(1, some 27), (2, some 28)])]) (Reg.pl [])
    (by kernel_rfl) (by kernel_rfl) (by kernel_rfl) (Reg.gv_some _ (by intro p hp; simp only [List.mem_cons, List.not_mem_nil, or_false] at hp; rcases hp with rfl | rfl <;> first | exact ⟨_, rfl⟩ | exact ⟨_, 0, rfl⟩ | exact ⟨_, false, none, 0, 0, rfl⟩ | exact ⟨_, false, none, 0, 0, false, none, 0, 0, rfl⟩)) (fun N0 hN0 => ⟨fun v => ?_, fun D v v' W hv hj => ?_, fun D v k j W W' x _ _ _ _ hk hg => gw_keeps _ (by intro p hp; simp only [List.mem_cons, List.not_mem_nil, or_false] at hp; rcases hp with rfl <;> first | exact GFr.keeps | exact GFrE.keeps | exact GNu.keeps | exact GNuE.keeps) hk hg, fun _ _ _ _ h => h.elim, fun ops' Q' hops hQ => ?_⟩)
  · exact ⟨belowB, keepsB, Nat.le_of_eq hN0.out, ownK, ownK⟩
  · obtain ⟨j0, jk, jn, b_f, b_d⟩ := hj
    exact ⟨j0, jk, jn, b_f, b_d⟩
  have i_f : w.heap.size < N0 := by have e := hN0.out; (try simp only [World.size_alloc, World.size_setCell, World.size_drew, World.heap_drewN] at e); first | omega | (have h := of.lt; omega)
  have i_d : p7 < N0 := by have e := hN0.out; (try simp only [World.size_alloc, World.size_setCell, World.size_drew, World.heap_drewN] at e); first | omega | (have h := od.lt; omega)
  have iw : w.heap.size ≤ N0 := by have e := hN0.out; (try simp only [World.size_alloc, World.size_setCell, World.size_drew, World.heap_drewN] at e); first | omega | (have h := B.size; omega)
  clear B of od cf0 cf1 cf2 cf3 ff lf cd0 cd1 cd2 cd3 fd ld
  clear hN0
  apply Reg.RC_pure (hc := rfl) (hst := rfl) (hw := rfl) (t := 26) (hd := rfl) (ht := Nat.le_of_ble_eq_true rfl)
  · intro D v' W' hc hj hf K hK
    obtain ⟨j0, jk, jn, b_f, b_d⟩ := hj
    have c0 : W'.cell? ⟨p7, 0, none⟩ = some (.bool q1) := b_d.c 0 rfl
    have c1 : W'.cell? ⟨p7, 1, none⟩ = some (.slice q2 q3 q4) := b_d.c 1 rfl
    have c2 : W'.cell? ⟨p7, 2, none⟩ = some (.bool q5) := b_d.c 2 rfl
    have c3 : W'.cell? ⟨p7, 3, none⟩ = some (.slice q6 q7 q8) := b_d.c 3 rfl
    go_step
    exact hK.out
  · rfl
  refine Reg.RC_call rfl (by intro t ht; cases ht; exact Nat.le_of_ble_eq_true rfl) rfl (fun D v' W' hc hj hf K hK => ?_) ?_
  · obtain ⟨j0, jk, jn, b_f, b_d⟩ := hj
    clear hf
    go_step
    refine (lnumber 1 W' (by omega) (by omega)).mono ?_
    rintro e W2 ⟨u, rfl, hu, hs⟩
    obtain ⟨y1, y2, y3, y4, y5, y6, y7, y8, rfl⟩ := hu.shape
    exact hK.out _ W2 (Keeps.steps hs) ⟨below_steps j0 (Nat.le_refl _) hs, jk.then_ hs, Nat.le_trans jn hs.size, b_f.steps hs, b_d.steps hs⟩ hu ⟨_, _, _, _, _, _, _, _, rfl⟩
  rintro _ ⟨y1, y2, y3, y4, y5, y6, y7, y8, rfl⟩
  refine Reg.RC_at (b := ⟨#[_,_,_,_,_,_,_,_,_,_,_,_,_,_,_,_,_,_,_,_,_,_,_,_,_,_,_,_,_,_,_,_,_,_,_,_,_,_,_], []⟩) rfl ?_
  refine Reg.RC_call rfl (by intro t ht; cases ht; exact Nat.le_of_ble_eq_true rfl) rfl (fun D v' W' hc hj hf K hK => ?_) ?_
  · obtain ⟨j0, jk, jn, b_f, b_d⟩ := hj
    have g1 : GFr (unitQ 1) _ W' := (hf (1, some 27) (.head _) rfl).2.2
    have g1 : FR W' _ (unitQ 1) := g1
    clear hf
    go_step
    refine (c1 W' _ _ (Fq.out.keeps jk) g1).mono ?_
    rintro e W2 ⟨rfl, hs⟩
    exact hK.out _ W2 (Keeps.steps hs) ⟨below_steps j0 (Nat.le_refl _) hs, jk.then_ hs, Nat.le_trans jn hs.size, b_f.steps hs, b_d.steps hs⟩ trivial rfl
  rintro _ rfl
  refine Reg.RC_at (b := ⟨#[_,_,_,_,_,_,_,_,_,_,_,_,_,_,_,_,_,_,_,_,_,_,_,_,_,_,_,_,_,_,_,_,_,_,_,_,_,_,_], []⟩) rfl ?_
  apply Reg.RC_pure (hc := rfl) (hst := rfl) (hw := rfl) (t := 25) (hd := rfl) (ht := Nat.le_of_ble_eq_true rfl)
  · intro D v' W' hc hj hf K hK
    go_step
    exact hK.out
  · rfl
  apply Reg.RC_pure (hc := rfl) (hst := rfl) (hw := rfl) (t := 29) (hd := rfl) (ht := Nat.le_of_ble_eq_true rfl)
  · intro D v' W' hc hj hf K hK
    go_step
    exact hK.out
  · rfl
  apply Reg.RC_pure (hc := rfl) (hst := rfl) (hw := rfl) (t := 30) (hd := rfl) (ht := Nat.le_of_ble_eq_true rfl)
  · intro D v' W' hc hj hf K hK
    go_step
    exact hK.out
  · rfl
  apply Reg.RC_pure (hc := rfl) (hst := rfl) (hw := rfl) (t := 9) (hd := rfl) (ht := Nat.le_of_ble_eq_true rfl)
  · intro D v' W' hc hj hf K hK
    go_step
    exact hK.out
  · rfl
  apply Reg.RC_pure (hc := rfl) (hst := rfl) (hw := rfl) (t := 10) (hd := rfl) (ht := Nat.le_of_ble_eq_true rfl)
  · intro D v' W' hc hj hf K hK
    go_step
    exact hK.out
  · rfl
  refine Reg.RC_end (fun Dn v' w3 hd hj hf => ?_)
  obtain ⟨j0, jk, jn, b_f, b_d⟩ := hj
  have B := j0
  have of := b_f
  clear b_f
  have od := b_d
  clear b_d
  replace Fq := Hid.mk_ (Fq.out.keeps jk)
  clear hd hf jk j0
  refine hQ _ _ ?_
  clear hQ hops Q' ops'
  have cf0 := of.q0
  have cf1 := of.q1
  have cf2 := of.q2
  have cf3 := of.q3
  have ff := of.fr
  have lf := of.lt
  have cd0 := od.q0
  have cd1 := od.q1
  have cd2 := od.q2
  have cd3 := od.q3
  have fd := od.fr
  have ld := od.lt
  clear c1
  have HN := Fq.out.neg.1
  clear Fq
  have HM := Hid.mk_ HN
  clear HN
  cases q1
  · by_cases x2 : C < 0
    · go_wp2
      go_returns
      exact ⟨retBool (by have := HM.out; have h := of_decide_eq_false this.symm; first | (simp [h]; done) | (simp [h]; omega)), belowB⟩
    · go_wp2
      go_returns
      exact ⟨retBool (by have := HM.out; have h := of_decide_eq_false this.symm; first | (simp [h]; done) | (simp [h]; omega)), belowB⟩
  · go_wp2
    go_returns
    exact ⟨retBool (by have := HM.out; have h := of_decide_eq_true this.symm; simp [h]), belowB⟩
theorem lnear_up (en : Int) {v : Value} {r : Rat} {k : Nat} (w : World) (hv : FR w v r) (hr : sz r k) (hk : k ≤ 4000) (e0 : -9223372036854775808 ≤ en) (e1 : en ≤ 9223372036854775807) :
    Calls Tryz.prog 22 #[.int .i64 en, v, .bool true] w fun e w' => e = .returned (.bool (decide (r ≤ unitQ en ∧ unitQ en < r + unitQ 1))) ∧ Steps w w' := by
  have := lnear_true en _ w hv hr hk e0 e1 rfl
  have e : decide (¬ (unitQ en - r) < 0 ∧ cmpQ (unitQ en - r) (unitQ 1) < 0) = decide (r ≤ unitQ en ∧ unitQ en < r + unitQ 1) := by
    rw [decide_eq_decide, cmpQ_lt]
    constructor
    · rintro ⟨h1, h2⟩; constructor <;> grind
    · rintro ⟨h1, h2⟩; constructor <;> grind
  rw [e] at this
  exact this
theorem lnear_down (en : Int) {v : Value} {r : Rat} {k : Nat} (w : World) (hv : FR w v r) (hr : sz r k) (hk : k ≤ 4000) (e0 : -9223372036854775808 ≤ en) (e1 : en ≤ 9223372036854775807) :
    Calls Tryz.prog 22 #[.int .i64 en, v, .bool false] w fun e w' => e = .returned (.bool (decide (unitQ en ≤ r ∧ r < unitQ en + unitQ 1))) ∧ Steps w w' := by
  have := lnear_false en _ w hv hr hk e0 e1 rfl
  have e : decide (¬ (-(unitQ en - r)) < 0 ∧ cmpQ (-(unitQ en - r)) (unitQ 1) < 0) = decide (unitQ en ≤ r ∧ r < unitQ en + unitQ 1) := by
    rw [decide_eq_decide, cmpQ_lt]
    constructor
    · rintro ⟨h1, h2⟩; constructor <;> grind
    · rintro ⟨h1, h2⟩; constructor <;> grind
  rw [e] at this
  exact this
end Go.Proofs.YtalnlnpnacfdfaaGreat
