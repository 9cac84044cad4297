import Derived.Test.YtffmbepfbienaaaGreatCMd
namespace Go.Proofs.YtffmbepfbienaaaGreat
open Go.RowKit
def f4q (a b c d : Rat) (i : Nat) : Rat := match i with | 0 => a | 1 => b | 2 => c | _ => d
set_option maxHeartbeats 6400000 in
set_option maxRecDepth 1000000 in
theorem msimilar {ax ay bx b_y px py qx qy : Int} {gc : Nat} {tc : TypeId} (w : World) (hc : Blk w gc tc #[.int .i64 0]) (ha : okP (ax, ay)) (hb : okP (bx, b_y)) (hp : okP (px, py)) (hq : okP (qx, qy)) (hn : csq (bx - ax) (b_y - ay) ≠ 0) :
    Calls Tryz.prog 38 #[.pointer (some ⟨gc, 0, none⟩), .agg #[.int .i64 ax, .int .i64 ay], .agg #[.int .i64 bx, .int .i64 b_y], .agg #[.int .i64 px, .int .i64 py], .agg #[.int .i64 qx, .int .i64 qy]] w fun e w' => ∃ v, e = .returned v ∧ SimR w' v (simT (ax, ay) (bx, b_y) (px, py) (qx, qy)) ∧ Steps w w' := by
  obtain ⟨a0, a1, a2, a3⟩ := ha
  obtain ⟨b0, b1, b2, b3⟩ := hb
  obtain ⟨p0, p1, p2, p3⟩ := hp
  obtain ⟨q0, q1, q2, q3⟩ := hq
  dsimp only at a0 a1 a2 a3 b0 b1 b2 b3 p0 p1 p2 p3 q0 q1 q2 q3
  obtain ⟨ux, hux⟩ : ∃ z, bx - ax = z := ⟨_, rfl⟩
  obtain ⟨uy, huy⟩ : ∃ z, b_y - ay = z := ⟨_, rfl⟩
  obtain ⟨vx, hvx⟩ : ∃ z, qx - px = z := ⟨_, rfl⟩
  obtain ⟨vy, hvy⟩ : ∃ z, qy - py = z := ⟨_, rfl⟩
  have u1 : -2097152 ≤ ux ∧ ux ≤ 2097152 := by omega
  have u2 : -2097152 ≤ uy ∧ uy ≤ 2097152 := by omega
  have u3 : -2097152 ≤ vx ∧ vx ≤ 2097152 := by omega
  have u4 : -2097152 ≤ vy ∧ vy ≤ 2097152 := by omega
  have hw1 : wrap64 (bx - ax) = ux := by rw [← hux]; unfold wrap64; omega
  have hw2 : wrap64 (b_y - ay) = uy := by rw [← huy]; unfold wrap64; omega
  have hw3 : wrap64 (qx - px) = vx := by rw [← hvx]; unfold wrap64; omega
  have hw4 : wrap64 (qy - py) = vy := by rw [← hvy]; unfold wrap64; omega
  have m1 := mul_bound u1.1 u1.2 u1.1 u1.2
  have m2 := mul_bound u2.1 u2.2 u2.1 u2.2
  have m3 := mul_bound u3.1 u3.2 u1.1 u1.2
  have m4 := mul_bound u4.1 u4.2 u2.1 u2.2
  have m5 := mul_bound u4.1 u4.2 u1.1 u1.2
  have m6 := mul_bound u3.1 u3.2 u2.1 u2.2
  obtain ⟨x1, e1⟩ : ∃ x, ux * ux = x := ⟨_, rfl⟩
  obtain ⟨x2, e2⟩ : ∃ x, uy * uy = x := ⟨_, rfl⟩
  obtain ⟨x3, e3⟩ : ∃ x, vx * ux = x := ⟨_, rfl⟩
  obtain ⟨x4, e4⟩ : ∃ x, vy * uy = x := ⟨_, rfl⟩
  obtain ⟨x5, e5⟩ : ∃ x, vy * ux = x := ⟨_, rfl⟩
  obtain ⟨x6, e6⟩ : ∃ x, vx * uy = x := ⟨_, rfl⟩
  rw [e1] at m1
  rw [e2] at m2
  rw [e3] at m3
  rw [e4] at m4
  rw [e5] at m5
  rw [e6] at m6
  have hw5 : wrap64 (ux * ux) = x1 := by rw [e1]; unfold wrap64; omega
  have hw6 : wrap64 (uy * uy) = x2 := by rw [e2]; unfold wrap64; omega
  have hw7 : wrap64 (vx * ux) = x3 := by rw [e3]; unfold wrap64; omega
  have hw8 : wrap64 (vy * uy) = x4 := by rw [e4]; unfold wrap64; omega
  have hw9 : wrap64 (vy * ux) = x5 := by rw [e5]; unfold wrap64; omega
  have hw10 : wrap64 (vx * uy) = x6 := by rw [e6]; unfold wrap64; omega
  obtain ⟨N, hN⟩ : ∃ x, x1 + x2 = x := ⟨_, rfl⟩
  obtain ⟨A, hA⟩ : ∃ x, x3 + x4 = x := ⟨_, rfl⟩
  obtain ⟨B0, hB⟩ : ∃ x, x5 - x6 = x := ⟨_, rfl⟩
  have hw11 : wrap64 (x1 + x2) = N := by rw [← hN]; unfold wrap64; omega
  have hw12 : wrap64 (x3 + x4) = A := by rw [← hA]; unfold wrap64; omega
  have hw13 : wrap64 (x5 - x6) = B0 := by rw [← hB]; unfold wrap64; omega
  have eN : csq (bx - ax) (b_y - ay) = N := by unfold csq; rw [hux, huy, e1, e2, hN]
  have eA : cre (bx - ax) (b_y - ay) (qx - px) (qy - py) = A := by unfold cre; rw [hux, huy, hvx, hvy, e3, e4, hA]
  have eB : cim (bx - ax) (b_y - ay) (qx - px) (qy - py) = B0 := by unfold cim; rw [hux, huy, hvx, hvy, e5, e6, hB]
  rw [eN] at hn
  have t0 : simT (ax, ay) (bx, b_y) (px, py) (qx, qy) 0 = (A : Rat) / (N : Rat) := by show (cre _ _ _ _ : Rat) / _ = _; rw [eN, eA]
  have t1 : simT (ax, ay) (bx, b_y) (px, py) (qx, qy) 1 = (B0 : Rat) / (N : Rat) := by show (cim _ _ _ _ : Rat) / _ = _; rw [eN, eB]
  have bN : -8796093022208 ≤ N ∧ N ≤ 8796093022208 := by omega
  have bA : -8796093022208 ≤ A ∧ A ≤ 8796093022208 := by omega
  have bB : -8796093022208 ≤ B0 ∧ B0 ≤ 8796093022208 := by omega
  have z0 : sz ((A : Rat) / (N : Rat)) 2 := sz_frac hn (by rw [bp_two]; unfold absN; omega) (by rw [bp_two]; unfold absN; omega)
  have z1 : sz ((B0 : Rat) / (N : Rat)) 2 := sz_frac hn (by rw [bp_two]; unfold absN; omega) (by rw [bp_two]; unfold absN; omega)
  have KC : ∀ w', Below w.heap.size w w' → Blk w' gc tc #[.int .i64 0] := fun w' s => hc.steps s
  have KP : ∀ w' u r, Below w.heap.size w w' → FR w' u r → Calls Tryz.prog 76 #[.pointer (some ⟨gc, 0, none⟩), u, .int .i64 0] w' fun e w2 => ∃ v, e = .returned v ∧ FR w2 v r ∧ Steps w' w2 := fun w' u r s h => mkeepQ w' (KC w' s) h
  have ofA := fun w' => fofQ A N w' (by omega) (by omega) (by omega) (by omega) hn
  have ofB := fun w' => fofQ B0 N w' (by omega) (by omega) (by omega) (by omega) hn
  have sa1 : sz (ax : Rat) 2 := sz_coord ⟨a0, a1⟩
  have sa2 : sz (ay : Rat) 2 := sz_coord ⟨a2, a3⟩
  have sp1 : sz (px : Rat) 2 := sz_coord ⟨p0, p1⟩
  have sp2 : sz (py : Rat) 2 := sz_coord ⟨p2, p3⟩
  have sc0 : sz ((0 : Int) : Rat) 2 := sz_coord (by decide)
  have ofx : ∀ w', Below w.heap.size w w' → Calls Tryz.prog 66 #[.pointer (some ⟨gc, 0, none⟩), .int .i64 px] w' fun e w2 => ∃ v, e = .returned v ∧ FR w2 v (px : Rat) ∧ Steps w' w2 := fun w' s => mof px w' (KC w' s) (by omega) (by omega)
  have ofy : ∀ w', Below w.heap.size w w' → Calls Tryz.prog 66 #[.pointer (some ⟨gc, 0, none⟩), .int .i64 py] w' fun e w2 => ∃ v, e = .returned v ∧ FR w2 v (py : Rat) ∧ Steps w' w2 := fun w' s => mof py w' (KC w' s) (by omega) (by omega)
  have of0 : ∀ w', Below w.heap.size w w' → Calls Tryz.prog 66 #[.pointer (some ⟨gc, 0, none⟩), .int .i64 0] w' fun e w2 => ∃ v, e = .returned v ∧ FR w2 v ((0 : Int) : Rat) ∧ Steps w' w2 := fun w' s => mof 0 w' (KC w' s) (by omega) (by omega)
  obtain ⟨ra, hra⟩ : ∃ z, (A : Rat) / (N : Rat) = z := ⟨_, rfl⟩
  obtain ⟨rb, hrb⟩ : ∃ z, (B0 : Rat) / (N : Rat) = z := ⟨_, rfl⟩
  have t2 : simT (ax, ay) (bx, b_y) (px, py) (qx, qy) 2 = (px : Rat) - (ra * (ax : Rat) - rb * (ay : Rat) + ((0 : Int) : Rat)) := by show (px : Rat) - ((cre _ _ _ _ : Rat) / _ * _ - (cim _ _ _ _ : Rat) / _ * _ + 0) = _; rw [eN, eA, eB, hra, hrb]; rfl
  have t3 : simT (ax, ay) (bx, b_y) (px, py) (qx, qy) 3 = (py : Rat) - (rb * (ax : Rat) + ra * (ay : Rat) + ((0 : Int) : Rat)) := by show (py : Rat) - ((cim _ _ _ _ : Rat) / _ * _ + (cre _ _ _ _ : Rat) / _ * _ + 0) = _; rw [eN, eA, eB, hra, hrb]; rfl
  rw [hra] at t0 z0 ofA
  rw [hrb] at t1 z1 ofB
  have AP : ∀ w' (v0 v1 v2 v3 : Bool × Option Addr × Nat × Nat × Bool × Option Addr × Nat × Nat), Below w.heap.size w w' → FR w' (.agg #[.bool v0.1, .slice v0.2.1 v0.2.2.1 v0.2.2.2.1, .bool v0.2.2.2.2.1, .slice v0.2.2.2.2.2.1 v0.2.2.2.2.2.2.1 v0.2.2.2.2.2.2.2]) ra → FR w' (.agg #[.bool v1.1, .slice v1.2.1 v1.2.2.1 v1.2.2.2.1, .bool v1.2.2.2.2.1, .slice v1.2.2.2.2.2.1 v1.2.2.2.2.2.2.1 v1.2.2.2.2.2.2.2]) rb → FR w' (.agg #[.bool v2.1, .slice v2.2.1 v2.2.2.1 v2.2.2.2.1, .bool v2.2.2.2.2.1, .slice v2.2.2.2.2.2.1 v2.2.2.2.2.2.2.1 v2.2.2.2.2.2.2.2]) ((0 : Int) : Rat) → FR w' (.agg #[.bool v3.1, .slice v3.2.1 v3.2.2.1 v3.2.2.2.1, .bool v3.2.2.2.2.1, .slice v3.2.2.2.2.2.1 v3.2.2.2.2.2.2.1 v3.2.2.2.2.2.2.2]) ((0 : Int) : Rat) → Calls Tryz.prog 42 #[.pointer (some ⟨gc, 0, none⟩), .agg #[.bool v0.1, .slice v0.2.1 v0.2.2.1 v0.2.2.2.1, .bool v0.2.2.2.2.1, .slice v0.2.2.2.2.2.1 v0.2.2.2.2.2.2.1 v0.2.2.2.2.2.2.2, .bool v1.1, .slice v1.2.1 v1.2.2.1 v1.2.2.2.1, .bool v1.2.2.2.2.1, .slice v1.2.2.2.2.2.1 v1.2.2.2.2.2.2.1 v1.2.2.2.2.2.2.2, .bool v2.1, .slice v2.2.1 v2.2.2.1 v2.2.2.2.1, .bool v2.2.2.2.2.1, .slice v2.2.2.2.2.2.1 v2.2.2.2.2.2.2.1 v2.2.2.2.2.2.2.2, .bool v3.1, .slice v3.2.1 v3.2.2.1 v3.2.2.2.1, .bool v3.2.2.2.2.1, .slice v3.2.2.2.2.2.1 v3.2.2.2.2.2.2.1 v3.2.2.2.2.2.2.2], .agg #[.int .i64 ax, .int .i64 ay]] w' fun e w2 => ∃ u v, e = .returned (.tuple #[u, v]) ∧ FR w2 u (ra * (ax : Rat) - rb * (ay : Rat) + ((0 : Int) : Rat)) ∧ FR w2 v (rb * (ax : Rat) + ra * (ay : Rat) + ((0 : Int) : Rat)) ∧ Steps w' w2 := fun w' v0 v1 v2 v3 s h0 h1 h2 h3 => mapply (t := f4q ra rb ((0 : Int) : Rat) ((0 : Int) : Rat)) ax ay w' (KC w' s) h0 h1 h2 h3 (z0.mono (by omega)) (z1.mono (by omega)) (sc0.mono (by omega)) (sc0.mono (by omega)) ⟨a0, a1⟩ ⟨a2, a3⟩
  have zx : sz (ra * (ax : Rat) - rb * (ay : Rat) + ((0 : Int) : Rat)) 12 := (((z0.mul sa1).sub (z1.mul sa2)).add sc0).mono (by omega)
  have zy : sz (rb * (ax : Rat) + ra * (ay : Rat) + ((0 : Int) : Rat)) 12 := (((z1.mul sa1).add (z0.mul sa2)).add sc0).mono (by omega)
  have HT := Hid.mk_ (And.intro t0 (And.intro t1 (And.intro t2 t3)))
  clear t0 t1 t2 t3 hra hrb eN eA eB bN bA bB hN hA hB e1 e2 e3 e4 e5 e6 m1 m2 m3 m4 m5 m6 u1 u2 u3 u4 hux huy hvx hvy a0 a1 a2 a3 b0 b1 b2 b3 p0 p1 p2 p3 q0 q1 q2 q3 hn hc sa1 sa2 sc0
  generalize hgx : ra * (ax : Rat) - rb * (ay : Rat) + ((0 : Int) : Rat) = rx at *
  generalize hgy : rb * (ax : Rat) + ra * (ay : Rat) + ((0 : Int) : Rat) = ry at *
  generalize hp1 : (px : Rat) = pX at *
  generalize hp2 : (py : Rat) = pY at *
  generalize hz : ((0 : Int) : Rat) = zR at *
  clear hgx hgy hp1 hp2 hz
  go_enter Tryz.func38, Tryz.ntmps38
  go_upto_region 1 with fail
  refine Reg.wp_chain_n (fun N0 D v W => Below w.heap.size w W ∧ Keeps w W ∧ N0 ≤ W.heap.size ∧ Blk W (w.heap.size) 23 #[.int .i64 ax, .int .i64 ay] ∧ Blk W (w.heap.size + 1) 23 #[.int .i64 bx, .int .i64 b_y] ∧ Blk W (w.heap.size + 1 + 1) 23 #[.int .i64 px, .int .i64 py] ∧ Blk W (w.heap.size + 1 + 1 + 1) 23 #[.int .i64 qx, .int .i64 qy] ∧ Blk W (w.heap.size + 1 + 1 + 1 + 1) 30 #[.bool false, .slice none 0 0, .bool false, .slice none 0 0, .bool false, .slice none 0 0, .bool false, .slice none 0 0, .bool false, .slice none 0 0, .bool false, .slice none 0 0, .bool false, .slice none 0 0, .bool false, .slice none 0 0])
    (Reg.inl []) (Reg.gv []) (gw []) (fun _ => Keeps) (fun _ _ => False) (Reg.pl [(24, [])]) (Reg.pl [])
    (by kernel_rfl) (by kernel_rfl) (by kernel_rfl) (Reg.gv_some _ (by intro p hp; cases hp)) (fun N0 hN0 => ⟨fun v => ?_, fun D v v' W hv hj => ?_, fun D v k j W W' x _ _ _ _ hk hg => gw_keeps _ (by intro p hp; cases hp) hk hg, fun _ _ _ _ h => h.elim, fun ops' Q' hops hQ => ?_⟩)
  · exact ⟨belowB, keepsB, by first | with_reducible exact Nat.le_of_eq hN0.out | (simp only [World.size_drew]; with_reducible exact Nat.le_of_eq hN0.out), ownK, ownK, ownK, ownK, ownK⟩
  · obtain ⟨j0, jk, jn, b_a, b_b, b_i, b_j, b_r⟩ := hj
    exact ⟨j0, jk, jn, b_a, b_b, b_i, b_j, b_r⟩
  have i_a : w.heap.size < N0 := by have e := hN0.out; (try simp only [World.size_alloc, World.size_setCell, World.size_drew, World.heap_drewN] at e); first | omega | (have h := oa.lt; omega)
  have i_b : w.heap.size + 1 < N0 := by have e := hN0.out; (try simp only [World.size_alloc, World.size_setCell, World.size_drew, World.heap_drewN] at e); first | omega | (have h := ob.lt; omega)
  have i_i : w.heap.size + 1 + 1 < N0 := by have e := hN0.out; (try simp only [World.size_alloc, World.size_setCell, World.size_drew, World.heap_drewN] at e); first | omega | (have h := oi.lt; omega)
  have i_j : w.heap.size + 1 + 1 + 1 < N0 := by have e := hN0.out; (try simp only [World.size_alloc, World.size_setCell, World.size_drew, World.heap_drewN] at e); first | omega | (have h := oj.lt; omega)
  have i_r : w.heap.size + 1 + 1 + 1 + 1 < N0 := by have e := hN0.out; (try simp only [World.size_alloc, World.size_setCell, World.size_drew, World.heap_drewN] at e); first | omega | (have h := or.lt; omega)
  have iw : w.heap.size ≤ N0 := by have e := hN0.out; (try simp only [World.size_alloc, World.size_setCell, World.size_drew, World.heap_drewN] at e); first | omega | (have h := B.size; omega)
  clear hN0
  apply Reg.RC_pure (hc := rfl) (hst := rfl) (hw := rfl) (t := 19) (hd := rfl) (ht := Nat.le_of_ble_eq_true rfl)
  · intro D v' W' hc hj hf K hK
    go_step
    exact hK.out
  · rfl
  apply Reg.RC_pure (hc := rfl) (hst := rfl) (hw := rfl) (t := 20) (hd := rfl) (ht := Nat.le_of_ble_eq_true rfl)
  · intro D v' W' hc hj hf K hK
    obtain ⟨j0, jk, jn, b_a, b_b, b_i, b_j, b_r⟩ := hj
    have c0 : W'.cell? ⟨w.heap.size + 1, 0, none⟩ = some (.int .i64 bx) := b_b.c 0 rfl
    go_step
    exact hK.out
  · rfl
  apply Reg.RC_pure (hc := rfl) (hst := rfl) (hw := rfl) (t := 21) (hd := rfl) (ht := Nat.le_of_ble_eq_true rfl)
  · intro D v' W' hc hj hf K hK
    go_step
    exact hK.out
  · rfl
  apply Reg.RC_pure (hc := rfl) (hst := rfl) (hw := rfl) (t := 22) (hd := rfl) (ht := Nat.le_of_ble_eq_true rfl)
  · intro D v' W' hc hj hf K hK
    obtain ⟨j0, jk, jn, b_a, b_b, b_i, b_j, b_r⟩ := hj
    have c0 : W'.cell? ⟨w.heap.size, 0, none⟩ = some (.int .i64 ax) := b_a.c 0 rfl
    go_step
    exact hK.out
  · rfl
  apply Reg.RC_pure (hc := rfl) (hst := rfl) (hw := rfl) (t := 23) (hd := rfl) (ht := Nat.le_of_ble_eq_true rfl)
  · intro D v' W' hc hj hf K hK
    go_step
    exact hK.out
  · rfl
  apply Reg.RC_pure (hc := rfl) (hst := rfl) (hw := rfl) (t := 24) (hd := rfl) (ht := Nat.le_of_ble_eq_true rfl)
  · intro D v' W' hc hj hf K hK
    go_step
    exact hK.out
  · rfl
  apply Reg.RC_pure (hc := rfl) (hst := rfl) (hw := rfl) (t := 25) (hd := rfl) (ht := Nat.le_of_ble_eq_true rfl)
  · intro D v' W' hc hj hf K hK
    obtain ⟨j0, jk, jn, b_a, b_b, b_i, b_j, b_r⟩ := hj
    have c1 : W'.cell? ⟨w.heap.size + 1, 1, none⟩ = some (.int .i64 b_y) := b_b.c 1 rfl
    go_step
    exact hK.out
  · rfl
  apply Reg.RC_pure (hc := rfl) (hst := rfl) (hw := rfl) (t := 26) (hd := rfl) (ht := Nat.le_of_ble_eq_true rfl)
  · intro D v' W' hc hj hf K hK
    go_step
    exact hK.out
  · rfl
  apply Reg.RC_pure (hc := rfl) (hst := rfl) (hw := rfl) (t := 27) (hd := rfl) (ht := Nat.le_of_ble_eq_true rfl)
  · intro D v' W' hc hj hf K hK
    obtain ⟨j0, jk, jn, b_a, b_b, b_i, b_j, b_r⟩ := hj
    have c1 : W'.cell? ⟨w.heap.size, 1, none⟩ = some (.int .i64 ay) := b_a.c 1 rfl
    go_step
    exact hK.out
  · rfl
  apply Reg.RC_pure (hc := rfl) (hst := rfl) (hw := rfl) (t := 28) (hd := rfl) (ht := Nat.le_of_ble_eq_true rfl)
  · intro D v' W' hc hj hf K hK
    go_step
    exact hK.out
  · rfl
  apply Reg.RC_pure (hc := rfl) (hst := rfl) (hw := rfl) (t := 29) (hd := rfl) (ht := Nat.le_of_ble_eq_true rfl)
  · intro D v' W' hc hj hf K hK
    go_step
    exact hK.out
  · rfl
  apply Reg.RC_pure (hc := rfl) (hst := rfl) (hw := rfl) (t := 30) (hd := rfl) (ht := Nat.le_of_ble_eq_true rfl)
  · intro D v' W' hc hj hf K hK
    obtain ⟨j0, jk, jn, b_a, b_b, b_i, b_j, b_r⟩ := hj
    have c0 : W'.cell? ⟨w.heap.size + 1 + 1 + 1, 0, none⟩ = some (.int .i64 qx) := b_j.c 0 rfl
    go_step
    exact hK.out
  · rfl
  apply Reg.RC_pure (hc := rfl) (hst := rfl) (hw := rfl) (t := 31) (hd := rfl) (ht := Nat.le_of_ble_eq_true rfl)
  · intro D v' W' hc hj hf K hK
    go_step
    exact hK.out
  · rfl
  apply Reg.RC_pure (hc := rfl) (hst := rfl) (hw := rfl) (t := 32) (hd := rfl) (ht := Nat.le_of_ble_eq_true rfl)
  · intro D v' W' hc hj hf K hK
    obtain ⟨j0, jk, jn, b_a, b_b, b_i, b_j, b_r⟩ := hj
    have c0 : W'.cell? ⟨w.heap.size + 1 + 1, 0, none⟩ = some (.int .i64 px) := b_i.c 0 rfl
    go_step
    exact hK.out
  · rfl
  apply Reg.RC_pure (hc := rfl) (hst := rfl) (hw := rfl) (t := 33) (hd := rfl) (ht := Nat.le_of_ble_eq_true rfl)
  · intro D v' W' hc hj hf K hK
    go_step
    exact hK.out
  · rfl
  apply Reg.RC_pure (hc := rfl) (hst := rfl) (hw := rfl) (t := 34) (hd := rfl) (ht := Nat.le_of_ble_eq_true rfl)
  · intro D v' W' hc hj hf K hK
    go_step
    exact hK.out
  · rfl
  apply Reg.RC_pure (hc := rfl) (hst := rfl) (hw := rfl) (t := 35) (hd := rfl) (ht := Nat.le_of_ble_eq_true rfl)
  · intro D v' W' hc hj hf K hK
    obtain ⟨j0, jk, jn, b_a, b_b, b_i, b_j, b_r⟩ := hj
    have c1 : W'.cell? ⟨w.heap.size + 1 + 1 + 1, 1, none⟩ = some (.int .i64 qy) := b_j.c 1 rfl
    go_step
    exact hK.out
  · rfl
  apply Reg.RC_pure (hc := rfl) (hst := rfl) (hw := rfl) (t := 36) (hd := rfl) (ht := Nat.le_of_ble_eq_true rfl)
  · intro D v' W' hc hj hf K hK
    go_step
    exact hK.out
  · rfl
  apply Reg.RC_pure (hc := rfl) (hst := rfl) (hw := rfl) (t := 37) (hd := rfl) (ht := Nat.le_of_ble_eq_true rfl)
  · intro D v' W' hc hj hf K hK
    obtain ⟨j0, jk, jn, b_a, b_b, b_i, b_j, b_r⟩ := hj
    have c1 : W'.cell? ⟨w.heap.size + 1 + 1, 1, none⟩ = some (.int .i64 py) := b_i.c 1 rfl
    go_step
    exact hK.out
  · rfl
  apply Reg.RC_pure (hc := rfl) (hst := rfl) (hw := rfl) (t := 38) (hd := rfl) (ht := Nat.le_of_ble_eq_true rfl)
  · intro D v' W' hc hj hf K hK
    go_step
    exact hK.out
  · rfl
  apply Reg.RC_pure (hc := rfl) (hst := rfl) (hw := rfl) (t := 11) (hd := rfl) (ht := Nat.le_of_ble_eq_true rfl)
  · intro D v' W' hc hj hf K hK
    go_step
    exact hK.out
  · rfl
  apply Reg.RC_pure (hc := rfl) (hst := rfl) (hw := rfl) (t := 12) (hd := rfl) (ht := Nat.le_of_ble_eq_true rfl)
  · intro D v' W' hc hj hf K hK
    go_step
    exact hK.out
  · rfl
  apply Reg.RC_pure (hc := rfl) (hst := rfl) (hw := rfl) (t := 13) (hd := rfl) (ht := Nat.le_of_ble_eq_true rfl)
  · intro D v' W' hc hj hf K hK
    go_step
    exact hK.out
  · rfl
  apply Reg.RC_pure (hc := rfl) (hst := rfl) (hw := rfl) (t := 14) (hd := rfl) (ht := Nat.le_of_ble_eq_true rfl)
  · intro D v' W' hc hj hf K hK
    go_step
    exact hK.out
  · rfl
  refine Reg.RC_end (fun Dn v' w1 hd hj hf => ?_)
  obtain ⟨j0, jk, jn, b_a, b_b, b_i, b_j, b_r⟩ := hj
  have B := j0
  have oa := b_a
  clear b_a
  have ob := b_b
  clear b_b
  have oi := b_i
  clear b_i
  have oj := b_j
  clear b_j
  have or := b_r
  clear b_r
  clear hd hf jk j0
  refine hQ _ _ ?_
  clear hQ hops Q' ops'
  go_wp2_with fail
  refine (ofA _).mono ?_
  rintro e w2 ⟨vya, rfl, hvya, hb2⟩
  have st : Steps _ w2 := hb2
  have sk : Below w1.heap.size w1 w2 := belowA st
  replace B := below_steps B (Nat.le_refl _) sk
  replace oa := oa.steps sk
  replace ob := ob.steps sk
  replace oi := oi.steps sk
  replace oj := oj.steps sk
  replace or := or.steps sk
  clear st sk
  obtain ⟨ya1, ya2, ya3, ya4, ya5, ya6, ya7, ya8, rfl⟩ := hvya.shape
  have Fya := Hid.mk_ hvya
  clear hvya
  go_wp2_with fail
  refine (KP _ _ _ belowB (Fya.out.keeps keepsB)).mono ?_
  rintro e w3 ⟨vee, rfl, hvee, hb3⟩
  have st : Steps _ w3 := hb3
  have sk : Below w2.heap.size w2 w3 := belowA st
  replace B := below_steps B (Nat.le_refl _) sk
  replace oa := oa.steps sk
  replace ob := ob.steps sk
  replace oi := oi.steps sk
  replace oj := oj.steps sk
  replace or := or.steps sk
  replace Fya := Hid.mk_ (Fya.out.steps sk)
  clear st sk
  obtain ⟨ee1, ee2, ee3, ee4, ee5, ee6, ee7, ee8, rfl⟩ := hvee.shape
  have Fee := Hid.mk_ hvee
  clear hvee
  go_wp2_with fail
  refine (ofB _).mono ?_
  rintro e w4 ⟨vyb, rfl, hvyb, hb4⟩
  have st : Steps _ w4 := hb4
  have sk : Below w3.heap.size w3 w4 := belowA st
  replace B := below_steps B (Nat.le_refl _) sk
  replace oa := oa.steps sk
  replace ob := ob.steps sk
  replace oi := oi.steps sk
  replace oj := oj.steps sk
  replace or := or.steps sk
  replace Fya := Hid.mk_ (Fya.out.steps sk)
  replace Fee := Hid.mk_ (Fee.out.steps sk)
  clear st sk
  obtain ⟨yb1, yb2, yb3, yb4, yb5, yb6, yb7, yb8, rfl⟩ := hvyb.shape
  have Fyb := Hid.mk_ hvyb
  clear hvyb
  go_wp2_with fail
  refine (KP _ _ _ belowB (Fyb.out.keeps keepsB)).mono ?_
  rintro e w5 ⟨vgg, rfl, hvgg, hb5⟩
  have st : Steps _ w5 := hb5
  have sk : Below w4.heap.size w4 w5 := belowA st
  replace B := below_steps B (Nat.le_refl _) sk
  replace oa := oa.steps sk
  replace ob := ob.steps sk
  replace oi := oi.steps sk
  replace oj := oj.steps sk
  replace or := or.steps sk
  replace Fya := Hid.mk_ (Fya.out.steps sk)
  replace Fee := Hid.mk_ (Fee.out.steps sk)
  replace Fyb := Hid.mk_ (Fyb.out.steps sk)
  clear st sk
  obtain ⟨gg1, gg2, gg3, gg4, gg5, gg6, gg7, gg8, rfl⟩ := hvgg.shape
  have Fgg := Hid.mk_ hvgg
  clear hvgg
  go_wp2_with fail
  refine (of0 _ belowB).mono ?_
  rintro e w6 ⟨vk1_, rfl, hvk1_, hb6⟩
  have st : Steps _ w6 := hb6
  have sk : Below w5.heap.size w5 w6 := belowA st
  replace B := below_steps B (Nat.le_refl _) sk
  replace oa := oa.steps sk
  replace ob := ob.steps sk
  replace oi := oi.steps sk
  replace oj := oj.steps sk
  replace or := or.steps sk
  replace Fya := Hid.mk_ (Fya.out.steps sk)
  replace Fee := Hid.mk_ (Fee.out.steps sk)
  replace Fyb := Hid.mk_ (Fyb.out.steps sk)
  replace Fgg := Hid.mk_ (Fgg.out.steps sk)
  clear st sk
  obtain ⟨k1_1, k1_2, k1_3, k1_4, k1_5, k1_6, k1_7, k1_8, rfl⟩ := hvk1_.shape
  have Fk1_ := Hid.mk_ hvk1_
  clear hvk1_
  go_wp2_with fail
  refine (of0 _ belowB).mono ?_
  rintro e w7 ⟨vk2_, rfl, hvk2_, hb7⟩
  have st : Steps _ w7 := hb7
  have sk : Below w6.heap.size w6 w7 := belowA st
  replace B := below_steps B (Nat.le_refl _) sk
  replace oa := oa.steps sk
  replace ob := ob.steps sk
  replace oi := oi.steps sk
  replace oj := oj.steps sk
  replace or := or.steps sk
  replace Fya := Hid.mk_ (Fya.out.steps sk)
  replace Fee := Hid.mk_ (Fee.out.steps sk)
  replace Fyb := Hid.mk_ (Fyb.out.steps sk)
  replace Fgg := Hid.mk_ (Fgg.out.steps sk)
  replace Fk1_ := Hid.mk_ (Fk1_.out.steps sk)
  clear st sk
  obtain ⟨k2_1, k2_2, k2_3, k2_4, k2_5, k2_6, k2_7, k2_8, rfl⟩ := hvk2_.shape
  have Fk2_ := Hid.mk_ hvk2_
  clear hvk2_
  have zr_7 : w.heap.size + 1 + 1 + 1 + 1 < w7.heap.size := or.lt
  have zz7 := B.size
  go_wp2_with (first
    | ((with_reducible show wpList _ _ _ (⟨some 76, _, _, _, _, _⟩ :: _) _ _)
       refine build_big rfl 30 #[(0, .tmp 58), (1, .tmp 71), (2, .tmp 73), (3, .tmp 75)] rfl #[.bool ee1, .slice ee2 ee3 ee4, .bool ee5, .slice ee6 ee7 ee8, .bool gg1, .slice gg2 gg3 gg4, .bool gg5, .slice gg6 gg7 gg8, .bool k1_1, .slice k1_2 k1_3 k1_4, .bool k1_5, .slice k1_6 k1_7 k1_8, .bool k2_1, .slice k2_2 k2_3 k2_4, .bool k2_5, .slice k2_6 k2_7 k2_8] (by kernel_rfl) ?_
       skip)
    | ((with_reducible show wpList _ _ _ (⟨none, .store _ _ _, _, _, _, _⟩ :: _) _ _)
       refine store_big rfl 30 (.tmp 16) (.tmp 76) rfl (w7.heap.size) #[.bool ee1, .slice ee2 ee3 ee4, .bool ee5, .slice ee6 ee7 ee8, .bool gg1, .slice gg2 gg3 gg4, .bool gg5, .slice gg6 gg7 gg8, .bool k1_1, .slice k1_2 k1_3 k1_4, .bool k1_5, .slice k1_6 k1_7 k1_8, .bool k2_1, .slice k2_2 k2_3 k2_4, .bool k2_5, .slice k2_6 k2_7 k2_8] rfl rfl 30 #[.bool false, .slice none 0 0, .bool false, .slice none 0 0, .bool false, .slice none 0 0, .bool false, .slice none 0 0, .bool false, .slice none 0 0, .bool false, .slice none 0 0, .bool false, .slice none 0 0, .bool false, .slice none 0 0] ownK (by kernel_rfl) rfl (by simp [Value.oneCell']) (fun w8 hrow => ?_)
       have Bn : Below w.heap.size w w8 := hrow.below belowB (by omega)
       have kp : Keeps w7 w8 := Keeps.trans keepsB (hrow.keeps rfl)
       have na : Blk w8 (w.heap.size) 23 #[.int .i64 ax, .int .i64 ay] := hrow.far ownK (show w.heap.size ≠ w7.heap.size by omega)
       have nb : Blk w8 (w.heap.size + 1) 23 #[.int .i64 bx, .int .i64 b_y] := hrow.far ownK (show w.heap.size + 1 ≠ w7.heap.size by omega)
       have ni : Blk w8 (w.heap.size + 1 + 1) 23 #[.int .i64 px, .int .i64 py] := hrow.far ownK (show w.heap.size + 1 + 1 ≠ w7.heap.size by omega)
       have nj : Blk w8 (w.heap.size + 1 + 1 + 1) 23 #[.int .i64 qx, .int .i64 qy] := hrow.far ownK (show w.heap.size + 1 + 1 + 1 ≠ w7.heap.size by omega)
       have nr : Blk w8 (w.heap.size + 1 + 1 + 1 + 1) 30 #[.bool false, .slice none 0 0, .bool false, .slice none 0 0, .bool false, .slice none 0 0, .bool false, .slice none 0 0, .bool false, .slice none 0 0, .bool false, .slice none 0 0, .bool false, .slice none 0 0, .bool false, .slice none 0 0] := hrow.far ownK (show w.heap.size + 1 + 1 + 1 + 1 ≠ w7.heap.size by omega)
       have nv16 : Blk w8 (w7.heap.size) 30 #[.bool ee1, .slice ee2 ee3 ee4, .bool ee5, .slice ee6 ee7 ee8, .bool gg1, .slice gg2 gg3 gg4, .bool gg5, .slice gg6 gg7 gg8, .bool k1_1, .slice k1_2 k1_3 k1_4, .bool k1_5, .slice k1_6 k1_7 k1_8, .bool k2_1, .slice k2_2 k2_3 k2_4, .bool k2_5, .slice k2_6 k2_7 k2_8] := hrow.blk
       replace B := Bn
       clear Bn hrow
       replace oa := na
       clear na
       replace ob := nb
       clear nb
       replace oi := ni
       clear ni
       replace oj := nj
       clear nj
       replace or := nr
       clear nr
       have ov16 := nv16
       clear nv16
       replace Fya := Hid.mk_ (Fya.out.keeps kp)
       replace Fee := Hid.mk_ (Fee.out.keeps kp)
       replace Fyb := Hid.mk_ (Fyb.out.keeps kp)
       replace Fgg := Hid.mk_ (Fgg.out.keeps kp)
       replace Fk1_ := Hid.mk_ (Fk1_.out.keeps kp)
       replace Fk2_ := Hid.mk_ (Fk2_.out.keeps kp)
       clear kp
       have ca0 := oa.q0
       have ca1 := oa.q1
       have la := oa.lt
       have lb := ob.lt
       have li := oi.lt
       have lj := oj.lt
       have lr := or.lt
       skip)
    | ((with_reducible show wpList _ _ _ (⟨some 79, _, _, _, _, _⟩ :: _) _ _)
       refine load_big rfl 30 (.tmp 16) rfl (w7.heap.size) rfl 30 #[.bool ee1, .slice ee2 ee3 ee4, .bool ee5, .slice ee6 ee7 ee8, .bool gg1, .slice gg2 gg3 gg4, .bool gg5, .slice gg6 gg7 gg8, .bool k1_1, .slice k1_2 k1_3 k1_4, .bool k1_5, .slice k1_6 k1_7 k1_8, .bool k2_1, .slice k2_2 k2_3 k2_4, .bool k2_5, .slice k2_6 k2_7 k2_8] _ ownK Tryz.underlying30 rfl (by kernel_rfl) ?_
       skip)
    )
  refine (AP _ ⟨_, _, _, _, _, _, _, _⟩ ⟨_, _, _, _, _, _, _, _⟩ ⟨_, _, _, _, _, _, _, _⟩ ⟨_, _, _, _, _, _, _, _⟩ belowB (Fee.out.keeps keepsB) (Fgg.out.keeps keepsB) (Fk1_.out.keeps keepsB) (Fk2_.out.keeps keepsB)).mono ?_
  rintro e w9 ⟨vxa, vxb, rfl, hvxa, hvxb, hb9⟩
  have st : Steps _ w9 := hb9
  have sk : Below w8.heap.size w8 w9 := belowA st
  replace B := below_steps B (Nat.le_refl _) sk
  replace oa := oa.steps sk
  replace ob := ob.steps sk
  replace oi := oi.steps sk
  replace oj := oj.steps sk
  replace or := or.steps sk
  replace ov16 := ov16.steps sk
  replace Fya := Hid.mk_ (Fya.out.steps sk)
  replace Fee := Hid.mk_ (Fee.out.steps sk)
  replace Fyb := Hid.mk_ (Fyb.out.steps sk)
  replace Fgg := Hid.mk_ (Fgg.out.steps sk)
  replace Fk1_ := Hid.mk_ (Fk1_.out.steps sk)
  replace Fk2_ := Hid.mk_ (Fk2_.out.steps sk)
  clear st sk ca0 ca1 la lb li lj lr
  have la := oa.lt
  have lb := ob.lt
  have ci0 := oi.q0
  have ci1 := oi.q1
  have li := oi.lt
  have lj := oj.lt
  have lr := or.lt
  obtain ⟨xa1, xa2, xa3, xa4, xa5, xa6, xa7, xa8, rfl⟩ := hvxa.shape
  obtain ⟨xb1, xb2, xb3, xb4, xb5, xb6, xb7, xb8, rfl⟩ := hvxb.shape
  have Fxa := Hid.mk_ hvxa
  clear hvxa
  have Fxb := Hid.mk_ hvxb
  clear hvxb
  have zv16_9 : w7.heap.size < w9.heap.size := ov16.lt
  have zz9 := B.size
  go_wp2_with fail
  go_upto_region 5 with fail
  refine Reg.wp_chain_n (fun N0 D v W => Below w.heap.size w W ∧ Keeps w9 W ∧ N0 ≤ W.heap.size ∧ Blk W (w.heap.size) 23 #[.int .i64 ax, .int .i64 ay] ∧ Blk W (w.heap.size + 1) 23 #[.int .i64 bx, .int .i64 b_y] ∧ Blk W (w.heap.size + 1 + 1) 23 #[.int .i64 px, .int .i64 py] ∧ Blk W (w.heap.size + 1 + 1 + 1) 23 #[.int .i64 qx, .int .i64 qy] ∧ Blk W (w.heap.size + 1 + 1 + 1 + 1) 30 #[.bool false, .slice none 0 0, .bool false, .slice none 0 0, .bool false, .slice none 0 0, .bool false, .slice none 0 0, .bool false, .slice none 0 0, .bool false, .slice none 0 0, .bool false, .slice none 0 0, .bool false, .slice none 0 0] ∧ (D 15 = false → D 17 = false → Blk W (w7.heap.size) 30 #[.bool ee1, .slice ee2 ee3 ee4, .bool ee5, .slice ee6 ee7 ee8, .bool gg1, .slice gg2 gg3 gg4, .bool gg5, .slice gg6 gg7 gg8, .bool k1_1, .slice k1_2 k1_3 k1_4, .bool k1_5, .slice k1_6 k1_7 k1_8, .bool k2_1, .slice k2_2 k2_3 k2_4, .bool k2_5, .slice k2_6 k2_7 k2_8]) ∧ (D 15 = false → D 17 = true → D 13 = true ∧ ∃ (y13_1 y13_5 : Bool) (y13_2 y13_6 : Option Addr) (y13_3 y13_7 y13_4 y13_8 : Nat), v 13 = .agg #[.bool y13_1, .slice y13_2 y13_3 y13_4, .bool y13_5, .slice y13_6 y13_7 y13_8] ∧ Blk W (w7.heap.size) 30 #[.bool ee1, .slice ee2 ee3 ee4, .bool ee5, .slice ee6 ee7 ee8, .bool gg1, .slice gg2 gg3 gg4, .bool gg5, .slice gg6 gg7 gg8, .bool k1_1, .slice k1_2 k1_3 k1_4, .bool k1_5, .slice k1_6 k1_7 k1_8, .bool y13_1, .slice y13_2 y13_3 y13_4, .bool y13_5, .slice y13_6 y13_7 y13_8]) ∧ (D 15 = true → D 17 = false → D 6 = true ∧ ∃ (y6_1 y6_5 : Bool) (y6_2 y6_6 : Option Addr) (y6_3 y6_7 y6_4 y6_8 : Nat), v 6 = .agg #[.bool y6_1, .slice y6_2 y6_3 y6_4, .bool y6_5, .slice y6_6 y6_7 y6_8] ∧ Blk W (w7.heap.size) 30 #[.bool ee1, .slice ee2 ee3 ee4, .bool ee5, .slice ee6 ee7 ee8, .bool gg1, .slice gg2 gg3 gg4, .bool gg5, .slice gg6 gg7 gg8, .bool y6_1, .slice y6_2 y6_3 y6_4, .bool y6_5, .slice y6_6 y6_7 y6_8, .bool k2_1, .slice k2_2 k2_3 k2_4, .bool k2_5, .slice k2_6 k2_7 k2_8]) ∧ (D 15 = true → D 17 = true → D 6 = true ∧ D 13 = true ∧ ∃ (y6_1 y6_5 : Bool) (y6_2 y6_6 : Option Addr) (y6_3 y6_7 y6_4 y6_8 : Nat) (y13_1 y13_5 : Bool) (y13_2 y13_6 : Option Addr) (y13_3 y13_7 y13_4 y13_8 : Nat), v 6 = .agg #[.bool y6_1, .slice y6_2 y6_3 y6_4, .bool y6_5, .slice y6_6 y6_7 y6_8] ∧ v 13 = .agg #[.bool y13_1, .slice y13_2 y13_3 y13_4, .bool y13_5, .slice y13_6 y13_7 y13_8] ∧ Blk W (w7.heap.size) 30 #[.bool ee1, .slice ee2 ee3 ee4, .bool ee5, .slice ee6 ee7 ee8, .bool gg1, .slice gg2 gg3 gg4, .bool gg5, .slice gg6 gg7 gg8, .bool y6_1, .slice y6_2 y6_3 y6_4, .bool y6_5, .slice y6_6 y6_7 y6_8, .bool y13_1, .slice y13_2 y13_3 y13_4, .bool y13_5, .slice y13_6 y13_7 y13_8]) ∧ Blk W (w9.heap.size) 28 #[.bool xa1, .slice xa2 xa3 xa4, .bool xa5, .slice xa6 xa7 xa8] ∧ Blk W (w9.heap.size + 1) 28 #[.bool xb1, .slice xb2 xb3 xb4, .bool xb5, .slice xb6 xb7 xb8])
    (Reg.inl [4, 6, 11, 13, 15, 17]) (Reg.gv [(4, IsFr), (6, IsFr), (11, IsFr), (13, IsFr)]) (gw [(4, GFr (pX)), (6, GFr ((pX - rx))), (11, GFr (pY)), (13, GFr ((pY - ry)))]) (fun _ => Keeps) (fun _ _ => False) (Reg.pl [(6, [(4, some 88)]), (13, [(11, some 95)]), (15, [(6, some 90)]), (17, [(13, some 97)]), (18, [(4, some 88), (6, some 90), (11, some 95), (13, some 97)])]) (Reg.pl [(6, [15]), (13, [17])])
    (by kernel_rfl) (by kernel_rfl) (by kernel_rfl) (Reg.gv_some _ (by intro p hp; simp only [List.mem_cons, List.not_mem_nil, or_false] at hp; rcases hp with rfl | rfl | rfl | rfl <;> first | exact ⟨_, rfl⟩ | exact ⟨_, 0, rfl⟩ | exact ⟨_, none, 0, 0, rfl⟩ | exact ⟨_, false, none, 0, 0, rfl⟩ | exact ⟨_, false, none, 0, 0, false, none, 0, 0, rfl⟩)) (fun N0 hN0 => ⟨fun v => ?_, fun D v v' W hv hj => ?_, fun D v k j W W' x _ _ _ _ hk hg => gw_keeps _ (by intro p hp; simp only [List.mem_cons, List.not_mem_nil, or_false] at hp; rcases hp with rfl | rfl | rfl | rfl <;> first | exact GFr.keeps | exact GFrE.keeps | exact GNu.keeps | exact GNuE.keeps | exact GLi.keeps) hk hg, fun _ _ _ _ h => h.elim, fun ops' Q' hops hQ => ?_⟩)
  · exact ⟨belowB, keepsB, by first | with_reducible exact Nat.le_of_eq hN0.out | (simp only [World.size_drew]; with_reducible exact Nat.le_of_eq hN0.out), ownK, ownK, ownK, ownK, ownK, fun q0 q1 => ownK, fun q0 q1 => Bool.noConfusion q1, fun q0 q1 => Bool.noConfusion q0, fun q0 q1 => Bool.noConfusion q0, ownK, ownK⟩
  · obtain ⟨j0, jk, jn, b_a, b_b, b_i, b_j, b_r, b_v16_00, b_v16_01, b_v16_10, b_v16_11, b_v17, b_v18⟩ := hj
    exact ⟨j0, jk, jn, b_a, b_b, b_i, b_j, b_r, fun q0 q1 => (b_v16_00 q0 q1), fun q0 q1 => by obtain ⟨d_13, y13_1, y13_5, y13_2, y13_6, y13_3, y13_7, y13_4, y13_8, e_13, hb⟩ := b_v16_01 q0 q1; exact ⟨d_13, _, _, _, _, _, _, _, _, (hv 13 d_13) ▸ e_13, hb⟩, fun q0 q1 => by obtain ⟨d_6, y6_1, y6_5, y6_2, y6_6, y6_3, y6_7, y6_4, y6_8, e_6, hb⟩ := b_v16_10 q0 q1; exact ⟨d_6, _, _, _, _, _, _, _, _, (hv 6 d_6) ▸ e_6, hb⟩, fun q0 q1 => by obtain ⟨d_6, d_13, y6_1, y6_5, y6_2, y6_6, y6_3, y6_7, y6_4, y6_8, y13_1, y13_5, y13_2, y13_6, y13_3, y13_7, y13_4, y13_8, e_6, e_13, hb⟩ := b_v16_11 q0 q1; exact ⟨d_6, d_13, _, _, _, _, _, _, _, _, _, _, _, _, _, _, _, _, (hv 6 d_6) ▸ e_6, (hv 13 d_13) ▸ e_13, hb⟩, b_v17, b_v18⟩
  have i_a : w.heap.size < N0 := by have e := hN0.out; (try simp only [World.size_alloc, World.size_setCell, World.size_drew, World.heap_drewN] at e); first | omega | (have h := oa.lt; omega)
  have i_b : w.heap.size + 1 < N0 := by have e := hN0.out; (try simp only [World.size_alloc, World.size_setCell, World.size_drew, World.heap_drewN] at e); first | omega | (have h := ob.lt; omega)
  have i_i : w.heap.size + 1 + 1 < N0 := by have e := hN0.out; (try simp only [World.size_alloc, World.size_setCell, World.size_drew, World.heap_drewN] at e); first | omega | (have h := oi.lt; omega)
  have i_j : w.heap.size + 1 + 1 + 1 < N0 := by have e := hN0.out; (try simp only [World.size_alloc, World.size_setCell, World.size_drew, World.heap_drewN] at e); first | omega | (have h := oj.lt; omega)
  have i_r : w.heap.size + 1 + 1 + 1 + 1 < N0 := by have e := hN0.out; (try simp only [World.size_alloc, World.size_setCell, World.size_drew, World.heap_drewN] at e); first | omega | (have h := or.lt; omega)
  have i_v16 : w7.heap.size < N0 := by have e := hN0.out; (try simp only [World.size_alloc, World.size_setCell, World.size_drew, World.heap_drewN] at e); first | omega | (have h := ov16.lt; omega)
  have i_v17 : w9.heap.size < N0 := by have e := hN0.out; (try simp only [World.size_alloc, World.size_setCell, World.size_drew, World.heap_drewN] at e); first | omega | (have h := ov17.lt; omega)
  have i_v18 : w9.heap.size + 1 < N0 := by have e := hN0.out; (try simp only [World.size_alloc, World.size_setCell, World.size_drew, World.heap_drewN] at e); first | omega | (have h := ov18.lt; omega)
  have iw : w.heap.size ≤ N0 := by have e := hN0.out; (try simp only [World.size_alloc, World.size_setCell, World.size_drew, World.heap_drewN] at e); first | omega | (have h := B.size; omega)
  clear la lb ci0 ci1 li lj lr
  clear hN0
  apply Reg.RC_pure (hc := rfl) (hst := rfl) (hw := rfl) (t := 84) (hd := rfl) (ht := Nat.le_of_ble_eq_true rfl)
  · intro D v' W' hc hj hf K hK
    go_step
    exact hK.out
  · rfl
  apply Reg.RC_pure (hc := rfl) (hst := rfl) (hw := rfl) (t := 85) (hd := rfl) (ht := Nat.le_of_ble_eq_true rfl)
  · intro D v' W' hc hj hf K hK
    go_step
    exact hK.out
  · rfl
  apply Reg.RC_pure (hc := rfl) (hst := rfl) (hw := rfl) (t := 86) (hd := rfl) (ht := Nat.le_of_ble_eq_true rfl)
  · intro D v' W' hc hj hf K hK
    go_step
    exact hK.out
  · rfl
  apply Reg.RC_pure (hc := rfl) (hst := rfl) (hw := rfl) (t := 87) (hd := rfl) (ht := Nat.le_of_ble_eq_true rfl)
  · intro D v' W' hc hj hf K hK
    obtain ⟨j0, jk, jn, b_a, b_b, b_i, b_j, b_r, b_v16_00, b_v16_01, b_v16_10, b_v16_11, b_v17, b_v18⟩ := hj
    have c0 : W'.cell? ⟨w.heap.size + 1 + 1, 0, none⟩ = some (.int .i64 px) := b_i.c 0 rfl
    go_step
    exact hK.out
  · rfl
  refine Reg.RC_call rfl (by intro t ht; cases ht; exact Nat.le_of_ble_eq_true rfl) rfl (fun D v' W' hc hj hf K hK => ?_) ?_
  · obtain ⟨j0, jk, jn, b_a, b_b, b_i, b_j, b_r, b_v16_00, b_v16_01, b_v16_10, b_v16_11, b_v17, b_v18⟩ := hj
    clear hf
    go_step
    refine (ofx W' j0).mono ?_
    rintro e W2 ⟨u, rfl, hu, hs⟩
    obtain ⟨xc1, xc2, xc3, xc4, xc5, xc6, xc7, xc8, rfl⟩ := hu.shape
    exact hK.out _ W2 (Keeps.steps hs) ⟨below_steps j0 (Nat.le_refl _) hs, jk.then_ hs, Nat.le_trans jn hs.size, b_a.steps hs, b_b.steps hs, b_i.steps hs, b_j.steps hs, b_r.steps hs, fun q0 q1 => ((b_v16_00 q0 q1)).steps hs, fun q0 q1 => by obtain ⟨d_13, y13_1, y13_5, y13_2, y13_6, y13_3, y13_7, y13_4, y13_8, e_13, hb⟩ := b_v16_01 q0 q1; exact ⟨d_13, _, _, _, _, _, _, _, _, e_13, (hb).steps hs⟩, fun q0 q1 => by obtain ⟨d_6, y6_1, y6_5, y6_2, y6_6, y6_3, y6_7, y6_4, y6_8, e_6, hb⟩ := b_v16_10 q0 q1; exact ⟨d_6, _, _, _, _, _, _, _, _, e_6, (hb).steps hs⟩, fun q0 q1 => by obtain ⟨d_6, d_13, y6_1, y6_5, y6_2, y6_6, y6_3, y6_7, y6_4, y6_8, y13_1, y13_5, y13_2, y13_6, y13_3, y13_7, y13_4, y13_8, e_6, e_13, hb⟩ := b_v16_11 q0 q1; exact ⟨d_6, d_13, _, _, _, _, _, _, _, _, _, _, _, _, _, _, _, _, e_6, e_13, (hb).steps hs⟩, b_v17.steps hs, b_v18.steps hs⟩ hu ⟨_, _, _, _, _, _, _, _, rfl⟩
  rintro _ ⟨xc1, xc2, xc3, xc4, xc5, xc6, xc7, xc8, rfl⟩
  refine Reg.RC_at (b := ⟨#[_,_,_,_,_,_,_,_,_,_,_,_,_,_,_,_,_,_,_,_,_,_,_,_,_,_,_,_,_,_,_,_,_,_,_,_,_,_,_,_,_,_,_,_,_,_,_,_,_,_,_,_,_,_,_,_,_,_,_,_,_,_,_,_,_,_,_,_,_,_,_,_,_,_,_,_,_,_,_,_,_,_,_,_,_,_,_,_,_,_,_,_,_,_,_,_,_,_,_,_,_], _⟩) rfl ?_
  apply Reg.RC_pure (hc := rfl) (hst := rfl) (hw := rfl) (t := 89) (hd := rfl) (ht := Nat.le_of_ble_eq_true rfl)
  · intro D v' W' hc hj hf K hK
    obtain ⟨j0, jk, jn, b_a, b_b, b_i, b_j, b_r, b_v16_00, b_v16_01, b_v16_10, b_v16_11, b_v17, b_v18⟩ := hj
    have c0 : W'.cell? ⟨w9.heap.size, 0, none⟩ = some (.bool xa1) := b_v17.c 0 rfl
    have c1 : W'.cell? ⟨w9.heap.size, 1, none⟩ = some (.slice xa2 xa3 xa4) := b_v17.c 1 rfl
    have c2 : W'.cell? ⟨w9.heap.size, 2, none⟩ = some (.bool xa5) := b_v17.c 2 rfl
    have c3 : W'.cell? ⟨w9.heap.size, 3, none⟩ = some (.slice xa6 xa7 xa8) := b_v17.c 3 rfl
    go_step
    exact hK.out
  · rfl
  refine Reg.RC_call rfl (by intro t ht; cases ht; exact Nat.le_of_ble_eq_true rfl) rfl (fun D v' W' hc hj hf K hK => ?_) ?_
  · obtain ⟨j0, jk, jn, b_a, b_b, b_i, b_j, b_r, b_v16_00, b_v16_01, b_v16_10, b_v16_11, b_v17, b_v18⟩ := hj
    have g4 : GFr (pX) _ W' := (hf (4, some 88) (.head _) rfl).2.2
    have g4 : FR W' _ (pX) := g4
    clear hf
    go_step
    refine (msub W' (KC _ j0) g4 (Fxa.out.keeps jk) sp1 zx (by omega)).mono ?_
    rintro e W2 ⟨u, rfl, hu, hs⟩
    obtain ⟨s_1, s_2, s_3, s_4, s_5, s_6, s_7, s_8, rfl⟩ := hu.shape
    exact hK.out _ W2 (Keeps.steps hs) ⟨below_steps j0 (Nat.le_refl _) hs, jk.then_ hs, Nat.le_trans jn hs.size, b_a.steps hs, b_b.steps hs, b_i.steps hs, b_j.steps hs, b_r.steps hs, fun q0 q1 => ((b_v16_00 q0 q1)).steps hs, fun q0 q1 => by obtain ⟨d_13, y13_1, y13_5, y13_2, y13_6, y13_3, y13_7, y13_4, y13_8, e_13, hb⟩ := b_v16_01 q0 q1; exact ⟨d_13, _, _, _, _, _, _, _, _, e_13, (hb).steps hs⟩, fun q0 q1 => Bool.noConfusion ((hc.2 15 (by decide)).symm.trans q0), fun q0 q1 => Bool.noConfusion ((hc.2 15 (by decide)).symm.trans q0), b_v17.steps hs, b_v18.steps hs⟩ hu ⟨_, _, _, _, _, _, _, _, rfl⟩
  rintro _ ⟨s_1, s_2, s_3, s_4, s_5, s_6, s_7, s_8, rfl⟩
  refine Reg.RC_at (b := ⟨#[_,_,_,_,_,_,_,_,_,_,_,_,_,_,_,_,_,_,_,_,_,_,_,_,_,_,_,_,_,_,_,_,_,_,_,_,_,_,_,_,_,_,_,_,_,_,_,_,_,_,_,_,_,_,_,_,_,_,_,_,_,_,_,_,_,_,_,_,_,_,_,_,_,_,_,_,_,_,_,_,_,_,_,_,_,_,_,_,_,_,_,_,_,_,_,_,_,_,_,_,_], _⟩) rfl ?_
  apply Reg.RC_pure (hc := rfl) (hst := rfl) (hw := rfl) (t := 91) (hd := rfl) (ht := Nat.le_of_ble_eq_true rfl)
  · intro D v' W' hc hj hf K hK
    go_step
    exact hK.out
  · rfl
  apply Reg.RC_pure (hc := rfl) (hst := rfl) (hw := rfl) (t := 92) (hd := rfl) (ht := Nat.le_of_ble_eq_true rfl)
  · intro D v' W' hc hj hf K hK
    go_step
    exact hK.out
  · rfl
  apply Reg.RC_pure (hc := rfl) (hst := rfl) (hw := rfl) (t := 93) (hd := rfl) (ht := Nat.le_of_ble_eq_true rfl)
  · intro D v' W' hc hj hf K hK
    go_step
    exact hK.out
  · rfl
  apply Reg.RC_pure (hc := rfl) (hst := rfl) (hw := rfl) (t := 94) (hd := rfl) (ht := Nat.le_of_ble_eq_true rfl)
  · intro D v' W' hc hj hf K hK
    obtain ⟨j0, jk, jn, b_a, b_b, b_i, b_j, b_r, b_v16_00, b_v16_01, b_v16_10, b_v16_11, b_v17, b_v18⟩ := hj
    have c1 : W'.cell? ⟨w.heap.size + 1 + 1, 1, none⟩ = some (.int .i64 py) := b_i.c 1 rfl
    go_step
    exact hK.out
  · rfl
  refine Reg.RC_call rfl (by intro t ht; cases ht; exact Nat.le_of_ble_eq_true rfl) rfl (fun D v' W' hc hj hf K hK => ?_) ?_
  · obtain ⟨j0, jk, jn, b_a, b_b, b_i, b_j, b_r, b_v16_00, b_v16_01, b_v16_10, b_v16_11, b_v17, b_v18⟩ := hj
    clear hf
    go_step
    refine (ofy W' j0).mono ?_
    rintro e W2 ⟨u, rfl, hu, hs⟩
    obtain ⟨xd1, xd2, xd3, xd4, xd5, xd6, xd7, xd8, rfl⟩ := hu.shape
    exact hK.out _ W2 (Keeps.steps hs) ⟨below_steps j0 (Nat.le_refl _) hs, jk.then_ hs, Nat.le_trans jn hs.size, b_a.steps hs, b_b.steps hs, b_i.steps hs, b_j.steps hs, b_r.steps hs, fun q0 q1 => ((b_v16_00 q0 q1)).steps hs, fun q0 q1 => by obtain ⟨d_13, y13_1, y13_5, y13_2, y13_6, y13_3, y13_7, y13_4, y13_8, e_13, hb⟩ := b_v16_01 q0 q1; exact ⟨d_13, _, _, _, _, _, _, _, _, e_13, (hb).steps hs⟩, fun q0 q1 => by obtain ⟨d_6, y6_1, y6_5, y6_2, y6_6, y6_3, y6_7, y6_4, y6_8, e_6, hb⟩ := b_v16_10 q0 q1; exact ⟨d_6, _, _, _, _, _, _, _, _, e_6, (hb).steps hs⟩, fun q0 q1 => by obtain ⟨d_6, d_13, y6_1, y6_5, y6_2, y6_6, y6_3, y6_7, y6_4, y6_8, y13_1, y13_5, y13_2, y13_6, y13_3, y13_7, y13_4, y13_8, e_6, e_13, hb⟩ := b_v16_11 q0 q1; exact ⟨d_6, d_13, _, _, _, _, _, _, _, _, _, _, _, _, _, _, _, _, e_6, e_13, (hb).steps hs⟩, b_v17.steps hs, b_v18.steps hs⟩ hu ⟨_, _, _, _, _, _, _, _, rfl⟩
  rintro _ ⟨xd1, xd2, xd3, xd4, xd5, xd6, xd7, xd8, rfl⟩
  refine Reg.RC_at (b := ⟨#[_,_,_,_,_,_,_,_,_,_,_,_,_,_,_,_,_,_,_,_,_,_,_,_,_,_,_,_,_,_,_,_,_,_,_,_,_,_,_,_,_,_,_,_,_,_,_,_,_,_,_,_,_,_,_,_,_,_,_,_,_,_,_,_,_,_,_,_,_,_,_,_,_,_,_,_,_,_,_,_,_,_,_,_,_,_,_,_,_,_,_,_,_,_,_,_,_,_,_,_,_], _⟩) rfl ?_
  apply Reg.RC_pure (hc := rfl) (hst := rfl) (hw := rfl) (t := 96) (hd := rfl) (ht := Nat.le_of_ble_eq_true rfl)
  · intro D v' W' hc hj hf K hK
    obtain ⟨j0, jk, jn, b_a, b_b, b_i, b_j, b_r, b_v16_00, b_v16_01, b_v16_10, b_v16_11, b_v17, b_v18⟩ := hj
    have c0 : W'.cell? ⟨w9.heap.size + 1, 0, none⟩ = some (.bool xb1) := b_v18.c 0 rfl
    have c1 : W'.cell? ⟨w9.heap.size + 1, 1, none⟩ = some (.slice xb2 xb3 xb4) := b_v18.c 1 rfl
    have c2 : W'.cell? ⟨w9.heap.size + 1, 2, none⟩ = some (.bool xb5) := b_v18.c 2 rfl
    have c3 : W'.cell? ⟨w9.heap.size + 1, 3, none⟩ = some (.slice xb6 xb7 xb8) := b_v18.c 3 rfl
    go_step
    exact hK.out
  · rfl
  refine Reg.RC_call rfl (by intro t ht; cases ht; exact Nat.le_of_ble_eq_true rfl) rfl (fun D v' W' hc hj hf K hK => ?_) ?_
  · obtain ⟨j0, jk, jn, b_a, b_b, b_i, b_j, b_r, b_v16_00, b_v16_01, b_v16_10, b_v16_11, b_v17, b_v18⟩ := hj
    have g11 : GFr (pY) _ W' := (hf (11, some 95) (.head _) rfl).2.2
    have g11 : FR W' _ (pY) := g11
    clear hf
    go_step
    refine (msub W' (KC _ j0) g11 (Fxb.out.keeps jk) sp2 zy (by omega)).mono ?_
    rintro e W2 ⟨u, rfl, hu, hs⟩
    obtain ⟨u_1, u_2, u_3, u_4, u_5, u_6, u_7, u_8, rfl⟩ := hu.shape
    exact hK.out _ W2 (Keeps.steps hs) ⟨below_steps j0 (Nat.le_refl _) hs, jk.then_ hs, Nat.le_trans jn hs.size, b_a.steps hs, b_b.steps hs, b_i.steps hs, b_j.steps hs, b_r.steps hs, fun q0 q1 => ((b_v16_00 q0 q1)).steps hs, fun q0 q1 => Bool.noConfusion ((hc.2 17 (by decide)).symm.trans q1), fun q0 q1 => by obtain ⟨d_6, y6_1, y6_5, y6_2, y6_6, y6_3, y6_7, y6_4, y6_8, e_6, hb⟩ := b_v16_10 q0 q1; exact ⟨d_6, _, _, _, _, _, _, _, _, e_6, (hb).steps hs⟩, fun q0 q1 => Bool.noConfusion ((hc.2 17 (by decide)).symm.trans q1), b_v17.steps hs, b_v18.steps hs⟩ hu ⟨_, _, _, _, _, _, _, _, rfl⟩
  rintro _ ⟨u_1, u_2, u_3, u_4, u_5, u_6, u_7, u_8, rfl⟩
  refine Reg.RC_at (b := ⟨#[_,_,_,_,_,_,_,_,_,_,_,_,_,_,_,_,_,_,_,_,_,_,_,_,_,_,_,_,_,_,_,_,_,_,_,_,_,_,_,_,_,_,_,_,_,_,_,_,_,_,_,_,_,_,_,_,_,_,_,_,_,_,_,_,_,_,_,_,_,_,_,_,_,_,_,_,_,_,_,_,_,_,_,_,_,_,_,_,_,_,_,_,_,_,_,_,_,_,_,_,_], _⟩) rfl ?_
  apply Reg.RC_pure (hc := rfl) (hst := rfl) (hw := rfl) (t := 98) (hd := rfl) (ht := Nat.le_of_ble_eq_true rfl)
  · intro D v' W' hc hj hf K hK
    go_step
    exact hK.out
  · rfl
  refine Reg.RC_call rfl (by intro t ht; cases ht) rfl (fun D v' W' hc hj hf K hK => ?_) (fun _ _ => Reg.RC_at (b := ⟨_, _⟩) rfl ?_)
  · obtain ⟨j0, jk, jn, b_a, b_b, b_i, b_j, b_r, b_v16_00, b_v16_01, b_v16_10, b_v16_11, b_v17, b_v18⟩ := hj
    have e2 : w.heap.size ≤ w7.heap.size := by omega
    have fc := hf (6, some 90) (.head _) rfl
    have ec : v' 6 = .agg #[.bool s_1, .slice s_2 s_3 s_4, .bool s_5, .slice s_6 s_7 s_8] := fc.2.1
    have cc0 : W'.cell? ⟨w7.heap.size, 8, none⟩ = some (.bool k1_1) := by
      cases hq : D 17 with
      | false => exact (b_v16_00 hc.1 hq).c 8 rfl
      | true => obtain ⟨d_13, y13_1, y13_5, y13_2, y13_6, y13_3, y13_7, y13_4, y13_8, e_13, hb⟩ := b_v16_01 hc.1 hq; exact hb.c 8 rfl
    have cc1 : W'.cell? ⟨w7.heap.size, 9, none⟩ = some (.slice k1_2 k1_3 k1_4) := by
      cases hq : D 17 with
      | false => exact (b_v16_00 hc.1 hq).c 9 rfl
      | true => obtain ⟨d_13, y13_1, y13_5, y13_2, y13_6, y13_3, y13_7, y13_4, y13_8, e_13, hb⟩ := b_v16_01 hc.1 hq; exact hb.c 9 rfl
    have cc2 : W'.cell? ⟨w7.heap.size, 10, none⟩ = some (.bool k1_5) := by
      cases hq : D 17 with
      | false => exact (b_v16_00 hc.1 hq).c 10 rfl
      | true => obtain ⟨d_13, y13_1, y13_5, y13_2, y13_6, y13_3, y13_7, y13_4, y13_8, e_13, hb⟩ := b_v16_01 hc.1 hq; exact hb.c 10 rfl
    have cc3 : W'.cell? ⟨w7.heap.size, 11, none⟩ = some (.slice k1_6 k1_7 k1_8) := by
      cases hq : D 17 with
      | false => exact (b_v16_00 hc.1 hq).c 11 rfl
      | true => obtain ⟨d_13, y13_1, y13_5, y13_2, y13_6, y13_3, y13_7, y13_4, y13_8, e_13, hb⟩ := b_v16_01 hc.1 hq; exact hb.c 11 rfl
    have ff : ∀ j, W'.frozen? ⟨w7.heap.size, j, none⟩ = false := by
      cases hq : D 17 with
      | false => exact (b_v16_00 hc.1 hq).fr
      | true => obtain ⟨d_13, y13_1, y13_5, y13_2, y13_6, y13_3, y13_7, y13_4, y13_8, e_13, hb⟩ := b_v16_01 hc.1 hq; exact hb.fr
    have kp : Keeps W' ((((W'.setCell ⟨w7.heap.size, 8, none⟩ (.bool s_1)).setCell ⟨w7.heap.size, 9, none⟩ (.slice s_2 s_3 s_4)).setCell ⟨w7.heap.size, 10, none⟩ (.bool s_5)).setCell ⟨w7.heap.size, 11, none⟩ (.slice s_6 s_7 s_8)) := by
      cases hq : D 17 with
      | false => exact (keeps4 (b_v16_00 hc.1 hq) rfl)
      | true => obtain ⟨d_13, y13_1, y13_5, y13_2, y13_6, y13_3, y13_7, y13_4, y13_8, e_13, hb⟩ := b_v16_01 hc.1 hq; exact (keeps4 hb rfl)
    go_step
    exact hK.out undef _ kp ⟨(below4 j0 (by show w.heap.size ≤ w7.heap.size; omega)), jk.trans kp, by simpa using jn, (b_a).far4 (show w.heap.size ≠ w7.heap.size by omega), (b_b).far4 (show w.heap.size + 1 ≠ w7.heap.size by omega), (b_i).far4 (show w.heap.size + 1 + 1 ≠ w7.heap.size by omega), (b_j).far4 (show w.heap.size + 1 + 1 + 1 ≠ w7.heap.size by omega), (b_r).far4 (show w.heap.size + 1 + 1 + 1 + 1 ≠ w7.heap.size by omega), fun q0 q1 => Bool.noConfusion q0, fun q0 q1 => Bool.noConfusion q0, fun q0 q1 => by have hb := b_v16_00 hc.1 q1; exact ⟨fc.1, _, _, _, _, _, _, _, _, ec, (Blk.set2 (cs' := #[.bool ee1, .slice ee2 ee3 ee4, .bool ee5, .slice ee6 ee7 ee8, .bool gg1, .slice gg2 gg3 gg4, .bool gg5, .slice gg6 gg7 gg8, .bool s_1, .slice s_2 s_3 s_4, .bool s_5, .slice s_6 s_7 s_8, .bool k2_1, .slice k2_2 k2_3 k2_4, .bool k2_5, .slice k2_6 k2_7 k2_8]) (Blk.set2 (cs' := #[.bool ee1, .slice ee2 ee3 ee4, .bool ee5, .slice ee6 ee7 ee8, .bool gg1, .slice gg2 gg3 gg4, .bool gg5, .slice gg6 gg7 gg8, .bool s_1, .slice s_2 s_3 s_4, .bool s_5, .slice k1_6 k1_7 k1_8, .bool k2_1, .slice k2_2 k2_3 k2_4, .bool k2_5, .slice k2_6 k2_7 k2_8]) (Blk.set2 (cs' := #[.bool ee1, .slice ee2 ee3 ee4, .bool ee5, .slice ee6 ee7 ee8, .bool gg1, .slice gg2 gg3 gg4, .bool gg5, .slice gg6 gg7 gg8, .bool s_1, .slice s_2 s_3 s_4, .bool k1_5, .slice k1_6 k1_7 k1_8, .bool k2_1, .slice k2_2 k2_3 k2_4, .bool k2_5, .slice k2_6 k2_7 k2_8]) (Blk.set2 (cs' := #[.bool ee1, .slice ee2 ee3 ee4, .bool ee5, .slice ee6 ee7 ee8, .bool gg1, .slice gg2 gg3 gg4, .bool gg5, .slice gg6 gg7 gg8, .bool s_1, .slice k1_2 k1_3 k1_4, .bool k1_5, .slice k1_6 k1_7 k1_8, .bool k2_1, .slice k2_2 k2_3 k2_4, .bool k2_5, .slice k2_6 k2_7 k2_8]) hb (i := 8) rfl) (i := 9) rfl) (i := 10) rfl) (i := 11) rfl)⟩, fun q0 q1 => by obtain ⟨d_13, y13_1, y13_5, y13_2, y13_6, y13_3, y13_7, y13_4, y13_8, e_13, hb⟩ := b_v16_01 hc.1 q1; exact ⟨fc.1, d_13, _, _, _, _, _, _, _, _, _, _, _, _, _, _, _, _, ec, e_13, (Blk.set2 (cs' := #[.bool ee1, .slice ee2 ee3 ee4, .bool ee5, .slice ee6 ee7 ee8, .bool gg1, .slice gg2 gg3 gg4, .bool gg5, .slice gg6 gg7 gg8, .bool s_1, .slice s_2 s_3 s_4, .bool s_5, .slice s_6 s_7 s_8, .bool y13_1, .slice y13_2 y13_3 y13_4, .bool y13_5, .slice y13_6 y13_7 y13_8]) (Blk.set2 (cs' := #[.bool ee1, .slice ee2 ee3 ee4, .bool ee5, .slice ee6 ee7 ee8, .bool gg1, .slice gg2 gg3 gg4, .bool gg5, .slice gg6 gg7 gg8, .bool s_1, .slice s_2 s_3 s_4, .bool s_5, .slice k1_6 k1_7 k1_8, .bool y13_1, .slice y13_2 y13_3 y13_4, .bool y13_5, .slice y13_6 y13_7 y13_8]) (Blk.set2 (cs' := #[.bool ee1, .slice ee2 ee3 ee4, .bool ee5, .slice ee6 ee7 ee8, .bool gg1, .slice gg2 gg3 gg4, .bool gg5, .slice gg6 gg7 gg8, .bool s_1, .slice s_2 s_3 s_4, .bool k1_5, .slice k1_6 k1_7 k1_8, .bool y13_1, .slice y13_2 y13_3 y13_4, .bool y13_5, .slice y13_6 y13_7 y13_8]) (Blk.set2 (cs' := #[.bool ee1, .slice ee2 ee3 ee4, .bool ee5, .slice ee6 ee7 ee8, .bool gg1, .slice gg2 gg3 gg4, .bool gg5, .slice gg6 gg7 gg8, .bool s_1, .slice k1_2 k1_3 k1_4, .bool k1_5, .slice k1_6 k1_7 k1_8, .bool y13_1, .slice y13_2 y13_3 y13_4, .bool y13_5, .slice y13_6 y13_7 y13_8]) hb (i := 8) rfl) (i := 9) rfl) (i := 10) rfl) (i := 11) rfl)⟩, (b_v17).far4 (show w9.heap.size ≠ w7.heap.size by omega), (b_v18).far4 (show w9.heap.size + 1 ≠ w7.heap.size by omega)⟩ trivial trivial
  apply Reg.RC_pure (hc := rfl) (hst := rfl) (hw := rfl) (t := 99) (hd := rfl) (ht := Nat.le_of_ble_eq_true rfl)
  · intro D v' W' hc hj hf K hK
    go_step
    exact hK.out
  · rfl
  refine Reg.RC_call rfl (by intro t ht; cases ht) rfl (fun D v' W' hc hj hf K hK => ?_) (fun _ _ => Reg.RC_at (b := ⟨_, _⟩) rfl ?_)
  · obtain ⟨j0, jk, jn, b_a, b_b, b_i, b_j, b_r, b_v16_00, b_v16_01, b_v16_10, b_v16_11, b_v17, b_v18⟩ := hj
    have e2 : w.heap.size ≤ w7.heap.size := by omega
    have fc := hf (13, some 97) (.head _) rfl
    have ec : v' 13 = .agg #[.bool u_1, .slice u_2 u_3 u_4, .bool u_5, .slice u_6 u_7 u_8] := fc.2.1
    have cc0 : W'.cell? ⟨w7.heap.size, 12, none⟩ = some (.bool k2_1) := by
      cases hq : D 15 with
      | false => exact (b_v16_00 hq hc.1).c 12 rfl
      | true => obtain ⟨d_6, y6_1, y6_5, y6_2, y6_6, y6_3, y6_7, y6_4, y6_8, e_6, hb⟩ := b_v16_10 hq hc.1; exact hb.c 12 rfl
    have cc1 : W'.cell? ⟨w7.heap.size, 13, none⟩ = some (.slice k2_2 k2_3 k2_4) := by
      cases hq : D 15 with
      | false => exact (b_v16_00 hq hc.1).c 13 rfl
      | true => obtain ⟨d_6, y6_1, y6_5, y6_2, y6_6, y6_3, y6_7, y6_4, y6_8, e_6, hb⟩ := b_v16_10 hq hc.1; exact hb.c 13 rfl
    have cc2 : W'.cell? ⟨w7.heap.size, 14, none⟩ = some (.bool k2_5) := by
      cases hq : D 15 with
      | false => exact (b_v16_00 hq hc.1).c 14 rfl
      | true => obtain ⟨d_6, y6_1, y6_5, y6_2, y6_6, y6_3, y6_7, y6_4, y6_8, e_6, hb⟩ := b_v16_10 hq hc.1; exact hb.c 14 rfl
    have cc3 : W'.cell? ⟨w7.heap.size, 15, none⟩ = some (.slice k2_6 k2_7 k2_8) := by
      cases hq : D 15 with
      | false => exact (b_v16_00 hq hc.1).c 15 rfl
      | true => obtain ⟨d_6, y6_1, y6_5, y6_2, y6_6, y6_3, y6_7, y6_4, y6_8, e_6, hb⟩ := b_v16_10 hq hc.1; exact hb.c 15 rfl
    have ff : ∀ j, W'.frozen? ⟨w7.heap.size, j, none⟩ = false := by
      cases hq : D 15 with
      | false => exact (b_v16_00 hq hc.1).fr
      | true => obtain ⟨d_6, y6_1, y6_5, y6_2, y6_6, y6_3, y6_7, y6_4, y6_8, e_6, hb⟩ := b_v16_10 hq hc.1; exact hb.fr
    have kp : Keeps W' ((((W'.setCell ⟨w7.heap.size, 12, none⟩ (.bool u_1)).setCell ⟨w7.heap.size, 13, none⟩ (.slice u_2 u_3 u_4)).setCell ⟨w7.heap.size, 14, none⟩ (.bool u_5)).setCell ⟨w7.heap.size, 15, none⟩ (.slice u_6 u_7 u_8)) := by
      cases hq : D 15 with
      | false => exact (keeps4 (b_v16_00 hq hc.1) rfl)
      | true => obtain ⟨d_6, y6_1, y6_5, y6_2, y6_6, y6_3, y6_7, y6_4, y6_8, e_6, hb⟩ := b_v16_10 hq hc.1; exact (keeps4 hb rfl)
    go_step
    exact hK.out undef _ kp ⟨(below4 j0 (by show w.heap.size ≤ w7.heap.size; omega)), jk.trans kp, by simpa using jn, (b_a).far4 (show w.heap.size ≠ w7.heap.size by omega), (b_b).far4 (show w.heap.size + 1 ≠ w7.heap.size by omega), (b_i).far4 (show w.heap.size + 1 + 1 ≠ w7.heap.size by omega), (b_j).far4 (show w.heap.size + 1 + 1 + 1 ≠ w7.heap.size by omega), (b_r).far4 (show w.heap.size + 1 + 1 + 1 + 1 ≠ w7.heap.size by omega), fun q0 q1 => Bool.noConfusion q1, fun q0 q1 => by have hb := b_v16_00 q0 hc.1; exact ⟨fc.1, _, _, _, _, _, _, _, _, ec, (Blk.set2 (cs' := #[.bool ee1, .slice ee2 ee3 ee4, .bool ee5, .slice ee6 ee7 ee8, .bool gg1, .slice gg2 gg3 gg4, .bool gg5, .slice gg6 gg7 gg8, .bool k1_1, .slice k1_2 k1_3 k1_4, .bool k1_5, .slice k1_6 k1_7 k1_8, .bool u_1, .slice u_2 u_3 u_4, .bool u_5, .slice u_6 u_7 u_8]) (Blk.set2 (cs' := #[.bool ee1, .slice ee2 ee3 ee4, .bool ee5, .slice ee6 ee7 ee8, .bool gg1, .slice gg2 gg3 gg4, .bool gg5, .slice gg6 gg7 gg8, .bool k1_1, .slice k1_2 k1_3 k1_4, .bool k1_5, .slice k1_6 k1_7 k1_8, .bool u_1, .slice u_2 u_3 u_4, .bool u_5, .slice k2_6 k2_7 k2_8]) (Blk.set2 (cs' := #[.bool ee1, .slice ee2 ee3 ee4, .bool ee5, .slice ee6 ee7 ee8, .bool gg1, .slice gg2 gg3 gg4, .bool gg5, .slice gg6 gg7 gg8, .bool k1_1, .slice k1_2 k1_3 k1_4, .bool k1_5, .slice k1_6 k1_7 k1_8, .bool u_1, .slice u_2 u_3 u_4, .bool k2_5, .slice k2_6 k2_7 k2_8]) (Blk.set2 (cs' := #[.bool ee1, .slice ee2 ee3 ee4, .bool ee5, .slice ee6 ee7 ee8, .bool gg1, .slice gg2 gg3 gg4, .bool gg5, .slice gg6 gg7 gg8, .bool k1_1, .slice k1_2 k1_3 k1_4, .bool k1_5, .slice k1_6 k1_7 k1_8, .bool u_1, .slice k2_2 k2_3 k2_4, .bool k2_5, .slice k2_6 k2_7 k2_8]) hb (i := 12) rfl) (i := 13) rfl) (i := 14) rfl) (i := 15) rfl)⟩, fun q0 q1 => Bool.noConfusion q1, fun q0 q1 => by obtain ⟨d_6, y6_1, y6_5, y6_2, y6_6, y6_3, y6_7, y6_4, y6_8, e_6, hb⟩ := b_v16_10 q0 hc.1; exact ⟨d_6, fc.1, _, _, _, _, _, _, _, _, _, _, _, _, _, _, _, _, e_6, ec, (Blk.set2 (cs' := #[.bool ee1, .slice ee2 ee3 ee4, .bool ee5, .slice ee6 ee7 ee8, .bool gg1, .slice gg2 gg3 gg4, .bool gg5, .slice gg6 gg7 gg8, .bool y6_1, .slice y6_2 y6_3 y6_4, .bool y6_5, .slice y6_6 y6_7 y6_8, .bool u_1, .slice u_2 u_3 u_4, .bool u_5, .slice u_6 u_7 u_8]) (Blk.set2 (cs' := #[.bool ee1, .slice ee2 ee3 ee4, .bool ee5, .slice ee6 ee7 ee8, .bool gg1, .slice gg2 gg3 gg4, .bool gg5, .slice gg6 gg7 gg8, .bool y6_1, .slice y6_2 y6_3 y6_4, .bool y6_5, .slice y6_6 y6_7 y6_8, .bool u_1, .slice u_2 u_3 u_4, .bool u_5, .slice k2_6 k2_7 k2_8]) (Blk.set2 (cs' := #[.bool ee1, .slice ee2 ee3 ee4, .bool ee5, .slice ee6 ee7 ee8, .bool gg1, .slice gg2 gg3 gg4, .bool gg5, .slice gg6 gg7 gg8, .bool y6_1, .slice y6_2 y6_3 y6_4, .bool y6_5, .slice y6_6 y6_7 y6_8, .bool u_1, .slice u_2 u_3 u_4, .bool k2_5, .slice k2_6 k2_7 k2_8]) (Blk.set2 (cs' := #[.bool ee1, .slice ee2 ee3 ee4, .bool ee5, .slice ee6 ee7 ee8, .bool gg1, .slice gg2 gg3 gg4, .bool gg5, .slice gg6 gg7 gg8, .bool y6_1, .slice y6_2 y6_3 y6_4, .bool y6_5, .slice y6_6 y6_7 y6_8, .bool u_1, .slice k2_2 k2_3 k2_4, .bool k2_5, .slice k2_6 k2_7 k2_8]) hb (i := 12) rfl) (i := 13) rfl) (i := 14) rfl) (i := 15) rfl)⟩, (b_v17).far4 (show w9.heap.size ≠ w7.heap.size by omega), (b_v18).far4 (show w9.heap.size + 1 ≠ w7.heap.size by omega)⟩ trivial trivial
  refine Reg.RC_end (fun Dn v' w10 hd hj hf => ?_)
  obtain ⟨j0, jk, jn, b_a, b_b, b_i, b_j, b_r, b_v16_00, b_v16_01, b_v16_10, b_v16_11, b_v17, b_v18⟩ := hj
  have B := j0
  have oa := b_a
  clear b_a
  have ob := b_b
  clear b_b
  have oi := b_i
  clear b_i
  have oj := b_j
  clear b_j
  have or := b_r
  clear b_r
  obtain ⟨dd_6, dd_13, y6_1, y6_5, y6_2, y6_6, y6_3, y6_7, y6_4, y6_8, y13_1, y13_5, y13_2, y13_6, y13_3, y13_7, y13_4, y13_8, ee_6, ee_13, ov16⟩ := b_v16_11 (hd 15 (Nat.le_of_ble_eq_true rfl)) (hd 17 (Nat.le_of_ble_eq_true rfl))
  have ef : v' 6 = .agg #[.bool s_1, .slice s_2 s_3 s_4, .bool s_5, .slice s_6 s_7 s_8] := (hf (6, some 90) (.tail _ (.head _)) rfl).2.1
  have eq_ := ef.symm.trans ee_6
  simp only [Value.tuple.injEq, Value.agg.injEq, Array.mk.injEq, List.cons.injEq, Value.bool.injEq, Value.slice.injEq, and_true, true_and] at eq_
  obtain ⟨rfl, ⟨rfl, rfl, rfl⟩, rfl, ⟨rfl, rfl, rfl⟩⟩ := eq_
  clear ef ee_6 dd_6
  have ef : v' 13 = .agg #[.bool u_1, .slice u_2 u_3 u_4, .bool u_5, .slice u_6 u_7 u_8] := (hf (13, some 97) (.tail _ (.tail _ (.tail _ (.head _)))) rfl).2.1
  have eq_ := ef.symm.trans ee_13
  simp only [Value.tuple.injEq, Value.agg.injEq, Array.mk.injEq, List.cons.injEq, Value.bool.injEq, Value.slice.injEq, and_true, true_and] at eq_
  obtain ⟨rfl, ⟨rfl, rfl, rfl⟩, rfl, ⟨rfl, rfl, rfl⟩⟩ := eq_
  clear ef ee_13 dd_13
  clear b_v16_00 b_v16_01 b_v16_10 b_v16_11
  have ov17 := b_v17
  clear b_v17
  have ov18 := b_v18
  clear b_v18
  have Fxc : Hid (FR w10 (.agg #[.bool xc1, .slice xc2 xc3 xc4, .bool xc5, .slice xc6 xc7 xc8]) (pX)) := (hf (4, some 88) (.head _) rfl).2.2
  have Fs_ : Hid (FR w10 (.agg #[.bool s_1, .slice s_2 s_3 s_4, .bool s_5, .slice s_6 s_7 s_8]) ((pX - rx))) := (hf (6, some 90) (.tail _ (.head _)) rfl).2.2
  have Fxd : Hid (FR w10 (.agg #[.bool xd1, .slice xd2 xd3 xd4, .bool xd5, .slice xd6 xd7 xd8]) (pY)) := (hf (11, some 95) (.tail _ (.tail _ (.head _))) rfl).2.2
  have Fu_ : Hid (FR w10 (.agg #[.bool u_1, .slice u_2 u_3 u_4, .bool u_5, .slice u_6 u_7 u_8]) ((pY - ry))) := (hf (13, some 97) (.tail _ (.tail _ (.tail _ (.head _)))) rfl).2.2
  replace Fya := Hid.mk_ (Fya.out.keeps jk)
  replace Fee := Hid.mk_ (Fee.out.keeps jk)
  replace Fyb := Hid.mk_ (Fyb.out.keeps jk)
  replace Fgg := Hid.mk_ (Fgg.out.keeps jk)
  replace Fk1_ := Hid.mk_ (Fk1_.out.keeps jk)
  replace Fk2_ := Hid.mk_ (Fk2_.out.keeps jk)
  replace Fxa := Hid.mk_ (Fxa.out.keeps jk)
  replace Fxb := Hid.mk_ (Fxb.out.keeps jk)
  clear hd hf jk j0
  refine hQ _ _ ?_
  clear hQ hops Q' ops'
  go_wp2_with (first
    | ((with_reducible show wpList _ _ _ (⟨some 100, _, _, _, _, _⟩ :: _) _ _)
       refine load_big rfl 30 (.tmp 16) rfl (w7.heap.size) rfl 30 #[.bool ee1, .slice ee2 ee3 ee4, .bool ee5, .slice ee6 ee7 ee8, .bool gg1, .slice gg2 gg3 gg4, .bool gg5, .slice gg6 gg7 gg8, .bool s_1, .slice s_2 s_3 s_4, .bool s_5, .slice s_6 s_7 s_8, .bool u_1, .slice u_2 u_3 u_4, .bool u_5, .slice u_6 u_7 u_8] _ ownK Tryz.underlying30 rfl (by kernel_rfl) ?_
       skip)
    | ((with_reducible show wpList _ _ _ (⟨none, .store _ _ _, _, _, _, _⟩ :: _) _ _)
       refine store_big rfl 30 (.tmp 10) (.tmp 100) rfl (w.heap.size + 1 + 1 + 1 + 1) #[.bool ee1, .slice ee2 ee3 ee4, .bool ee5, .slice ee6 ee7 ee8, .bool gg1, .slice gg2 gg3 gg4, .bool gg5, .slice gg6 gg7 gg8, .bool s_1, .slice s_2 s_3 s_4, .bool s_5, .slice s_6 s_7 s_8, .bool u_1, .slice u_2 u_3 u_4, .bool u_5, .slice u_6 u_7 u_8] rfl rfl 30 #[.bool false, .slice none 0 0, .bool false, .slice none 0 0, .bool false, .slice none 0 0, .bool false, .slice none 0 0, .bool false, .slice none 0 0, .bool false, .slice none 0 0, .bool false, .slice none 0 0, .bool false, .slice none 0 0] ownK (by kernel_rfl) rfl (by simp [Value.oneCell']) (fun w11 hrow => ?_)
       have Bn : Below w.heap.size w w11 := hrow.below belowB (by omega)
       have kp : Keeps w10 w11 := Keeps.trans keepsB (hrow.keeps rfl)
       have na : Blk w11 (w.heap.size) 23 #[.int .i64 ax, .int .i64 ay] := hrow.far ownK (show w.heap.size ≠ w.heap.size + 1 + 1 + 1 + 1 by omega)
       have nb : Blk w11 (w.heap.size + 1) 23 #[.int .i64 bx, .int .i64 b_y] := hrow.far ownK (show w.heap.size + 1 ≠ w.heap.size + 1 + 1 + 1 + 1 by omega)
       have ni : Blk w11 (w.heap.size + 1 + 1) 23 #[.int .i64 px, .int .i64 py] := hrow.far ownK (show w.heap.size + 1 + 1 ≠ w.heap.size + 1 + 1 + 1 + 1 by omega)
       have nj : Blk w11 (w.heap.size + 1 + 1 + 1) 23 #[.int .i64 qx, .int .i64 qy] := hrow.far ownK (show w.heap.size + 1 + 1 + 1 ≠ w.heap.size + 1 + 1 + 1 + 1 by omega)
       have nr : Blk w11 (w.heap.size + 1 + 1 + 1 + 1) 30 #[.bool ee1, .slice ee2 ee3 ee4, .bool ee5, .slice ee6 ee7 ee8, .bool gg1, .slice gg2 gg3 gg4, .bool gg5, .slice gg6 gg7 gg8, .bool s_1, .slice s_2 s_3 s_4, .bool s_5, .slice s_6 s_7 s_8, .bool u_1, .slice u_2 u_3 u_4, .bool u_5, .slice u_6 u_7 u_8] := hrow.blk
       have nv16 : Blk w11 (w7.heap.size) 30 #[.bool ee1, .slice ee2 ee3 ee4, .bool ee5, .slice ee6 ee7 ee8, .bool gg1, .slice gg2 gg3 gg4, .bool gg5, .slice gg6 gg7 gg8, .bool s_1, .slice s_2 s_3 s_4, .bool s_5, .slice s_6 s_7 s_8, .bool u_1, .slice u_2 u_3 u_4, .bool u_5, .slice u_6 u_7 u_8] := hrow.far ownK (show w7.heap.size ≠ w.heap.size + 1 + 1 + 1 + 1 by omega)
       have nv17 : Blk w11 (w9.heap.size) 28 #[.bool xa1, .slice xa2 xa3 xa4, .bool xa5, .slice xa6 xa7 xa8] := hrow.far ownK (show w9.heap.size ≠ w.heap.size + 1 + 1 + 1 + 1 by omega)
       have nv18 : Blk w11 (w9.heap.size + 1) 28 #[.bool xb1, .slice xb2 xb3 xb4, .bool xb5, .slice xb6 xb7 xb8] := hrow.far ownK (show w9.heap.size + 1 ≠ w.heap.size + 1 + 1 + 1 + 1 by omega)
       replace B := Bn
       clear Bn hrow
       replace oa := na
       clear na
       replace ob := nb
       clear nb
       replace oi := ni
       clear ni
       replace oj := nj
       clear nj
       replace or := nr
       clear nr
       replace ov16 := nv16
       clear nv16
       replace ov17 := nv17
       clear nv17
       replace ov18 := nv18
       clear nv18
       replace Fya := Hid.mk_ (Fya.out.keeps kp)
       replace Fee := Hid.mk_ (Fee.out.keeps kp)
       replace Fyb := Hid.mk_ (Fyb.out.keeps kp)
       replace Fgg := Hid.mk_ (Fgg.out.keeps kp)
       replace Fk1_ := Hid.mk_ (Fk1_.out.keeps kp)
       replace Fk2_ := Hid.mk_ (Fk2_.out.keeps kp)
       replace Fxa := Hid.mk_ (Fxa.out.keeps kp)
       replace Fxb := Hid.mk_ (Fxb.out.keeps kp)
       replace Fxc := Hid.mk_ (Fxc.out.keeps kp)
       replace Fs_ := Hid.mk_ (Fs_.out.keeps kp)
       replace Fxd := Hid.mk_ (Fxd.out.keeps kp)
       replace Fu_ := Hid.mk_ (Fu_.out.keeps kp)
       clear kp
       skip)
    )
  skip
  refine bodyPost_ret (results_row1 rfl _ _ (w.heap.size + 1 + 1 + 1 + 1) rfl (cs := #[.bool ee1, .slice ee2 ee3 ee4, .bool ee5, .slice ee6 ee7 ee8, .bool gg1, .slice gg2 gg3 gg4, .bool gg5, .slice gg6 gg7 gg8, .bool s_1, .slice s_2 s_3 s_4, .bool s_5, .slice s_6 s_7 s_8, .bool u_1, .slice u_2 u_3 u_4, .bool u_5, .slice u_6 u_7 u_8]) ownK Tryz.underlying30 rfl (by kernel_rfl)) rfl ?_
  exact ⟨_, rfl, ⟨_, _, _, _, _, _, _, _, _, _, _, _, _, _, _, _, _, _, _, _, _, _, _, _, _, _, _, _, _, _, _, _, rfl, by rw [HT.out.1]; exact Fee.out.keeps keepsB, by rw [HT.out.2.1]; exact Fgg.out.keeps keepsB, by rw [HT.out.2.2.1]; exact Fs_.out.keeps keepsB, by rw [HT.out.2.2.2]; exact Fu_.out.keeps keepsB⟩, belowB⟩
end Go.Proofs.YtffmbepfbienaaaGreat
namespace Go.Proofs.YtffmbepfbienaaaGreat
open Go.RowKit
set_option maxHeartbeats 6400000 in
set_option maxRecDepth 1000000 in
theorem prof {ax ay bx b_y px py qx qy : Int} (w : World) (ha : okP (ax, ay)) (hb : okP (bx, b_y)) (hp : okP (px, py)) (hq : okP (qx, qy)) (hn : csq (bx - ax) (b_y - ay) ≠ 0) :
    Calls Tryz.prog 40 #[.agg #[.int .i64 ax, .int .i64 ay], .agg #[.int .i64 bx, .int .i64 b_y], .agg #[.int .i64 px, .int .i64 py], .agg #[.int .i64 qx, .int .i64 qy]] w fun e w' => ∃ v, e = .returned v ∧ SimR w' v (simT (ax, ay) (bx, b_y) (px, py) (qx, qy)) ∧ Steps w w' := by
  obtain ⟨a0, a1, a2, a3⟩ := ha
  obtain ⟨b0, b1, b2, b3⟩ := hb
  obtain ⟨p0, p1, p2, p3⟩ := hp
  obtain ⟨q0, q1, q2, q3⟩ := hq
  dsimp only at a0 a1 a2 a3 b0 b1 b2 b3 p0 p1 p2 p3 q0 q1 q2 q3
  obtain ⟨ux, hux⟩ : ∃ z, bx - ax = z := ⟨_, rfl⟩
  obtain ⟨uy, huy⟩ : ∃ z, b_y - ay = z := ⟨_, rfl⟩
  obtain ⟨vx, hvx⟩ : ∃ z, qx - px = z := ⟨_, rfl⟩
  obtain ⟨vy, hvy⟩ : ∃ z, qy - py = z := ⟨_, rfl⟩
  have u1 : -2097152 ≤ ux ∧ ux ≤ 2097152 := by omega
  have u2 : -2097152 ≤ uy ∧ uy ≤ 2097152 := by omega
  have u3 : -2097152 ≤ vx ∧ vx ≤ 2097152 := by omega
  have u4 : -2097152 ≤ vy ∧ vy ≤ 2097152 := by omega
  have hw1 : wrap64 (bx - ax) = ux := by rw [← hux]; unfold wrap64; omega
  have hw2 : wrap64 (b_y - ay) = uy := by rw [← huy]; unfold wrap64; omega
  have hw3 : wrap64 (qx - px) = vx := by rw [← hvx]; unfold wrap64; omega
  have hw4 : wrap64 (qy - py) = vy := by rw [← hvy]; unfold wrap64; omega
  have m1 := mul_bound u1.1 u1.2 u1.1 u1.2
  have m2 := mul_bound u2.1 u2.2 u2.1 u2.2
  have m3 := mul_bound u3.1 u3.2 u1.1 u1.2
  have m4 := mul_bound u4.1 u4.2 u2.1 u2.2
  have m5 := mul_bound u4.1 u4.2 u1.1 u1.2
  have m6 := mul_bound u3.1 u3.2 u2.1 u2.2
  obtain ⟨x1, e1⟩ : ∃ x, ux * ux = x := ⟨_, rfl⟩
  obtain ⟨x2, e2⟩ : ∃ x, uy * uy = x := ⟨_, rfl⟩
  obtain ⟨x3, e3⟩ : ∃ x, vx * ux = x := ⟨_, rfl⟩
  obtain ⟨x4, e4⟩ : ∃ x, vy * uy = x := ⟨_, rfl⟩
  obtain ⟨x5, e5⟩ : ∃ x, vy * ux = x := ⟨_, rfl⟩
  obtain ⟨x6, e6⟩ : ∃ x, vx * uy = x := ⟨_, rfl⟩
  rw [e1] at m1
  rw [e2] at m2
  rw [e3] at m3
  rw [e4] at m4
  rw [e5] at m5
  rw [e6] at m6
  have hw5 : wrap64 (ux * ux) = x1 := by rw [e1]; unfold wrap64; omega
  have hw6 : wrap64 (uy * uy) = x2 := by rw [e2]; unfold wrap64; omega
  have hw7 : wrap64 (vx * ux) = x3 := by rw [e3]; unfold wrap64; omega
  have hw8 : wrap64 (vy * uy) = x4 := by rw [e4]; unfold wrap64; omega
  have hw9 : wrap64 (vy * ux) = x5 := by rw [e5]; unfold wrap64; omega
  have hw10 : wrap64 (vx * uy) = x6 := by rw [e6]; unfold wrap64; omega
  obtain ⟨N, hN⟩ : ∃ x, x1 + x2 = x := ⟨_, rfl⟩
  obtain ⟨A, hA⟩ : ∃ x, x3 + x4 = x := ⟨_, rfl⟩
  obtain ⟨B0, hB⟩ : ∃ x, x5 - x6 = x := ⟨_, rfl⟩
  have hw11 : wrap64 (x1 + x2) = N := by rw [← hN]; unfold wrap64; omega
  have hw12 : wrap64 (x3 + x4) = A := by rw [← hA]; unfold wrap64; omega
  have hw13 : wrap64 (x5 - x6) = B0 := by rw [← hB]; unfold wrap64; omega
  have eN : csq (bx - ax) (b_y - ay) = N := by unfold csq; rw [hux, huy, e1, e2, hN]
  have eA : cre (bx - ax) (b_y - ay) (qx - px) (qy - py) = A := by unfold cre; rw [hux, huy, hvx, hvy, e3, e4, hA]
  have eB : cim (bx - ax) (b_y - ay) (qx - px) (qy - py) = B0 := by unfold cim; rw [hux, huy, hvx, hvy, e5, e6, hB]
  rw [eN] at hn
  have t0 : simT (ax, ay) (bx, b_y) (px, py) (qx, qy) 0 = (A : Rat) / (N : Rat) := by show (cre _ _ _ _ : Rat) / _ = _; rw [eN, eA]
  have t1 : simT (ax, ay) (bx, b_y) (px, py) (qx, qy) 1 = (B0 : Rat) / (N : Rat) := by show (cim _ _ _ _ : Rat) / _ = _; rw [eN, eB]
  have bN : -8796093022208 ≤ N ∧ N ≤ 8796093022208 := by omega
  have bA : -8796093022208 ≤ A ∧ A ≤ 8796093022208 := by omega
  have bB : -8796093022208 ≤ B0 ∧ B0 ≤ 8796093022208 := by omega
  have z0 : sz ((A : Rat) / (N : Rat)) 2 := sz_frac hn (by rw [bp_two]; unfold absN; omega) (by rw [bp_two]; unfold absN; omega)
  have z1 : sz ((B0 : Rat) / (N : Rat)) 2 := sz_frac hn (by rw [bp_two]; unfold absN; omega) (by rw [bp_two]; unfold absN; omega)
  have ofA := fun w' => rofF A N w' (by omega) (by omega) (by omega) (by omega) hn
  have ofB := fun w' => rofF B0 N w' (by omega) (by omega) (by omega) (by omega) hn
  have sa1 : sz (ax : Rat) 2 := sz_coord ⟨a0, a1⟩
  have sa2 : sz (ay : Rat) 2 := sz_coord ⟨a2, a3⟩
  have sp1 : sz (px : Rat) 2 := sz_coord ⟨p0, p1⟩
  have sp2 : sz (py : Rat) 2 := sz_coord ⟨p2, p3⟩
  have of_px := fun w' => rwhole px w' (by omega) (by omega)
  have of_py := fun w' => rwhole py w' (by omega) (by omega)
  have of_ax := fun w' => rwhole ax w' (by omega) (by omega)
  have of_ay := fun w' => rwhole ay w' (by omega) (by omega)
  obtain ⟨ra, hra⟩ : ∃ z, (A : Rat) / (N : Rat) = z := ⟨_, rfl⟩
  obtain ⟨rb, hrb⟩ : ∃ z, (B0 : Rat) / (N : Rat) = z := ⟨_, rfl⟩
  have t2 : simT (ax, ay) (bx, b_y) (px, py) (qx, qy) 2 = (px : Rat) - ra * (ax : Rat) + rb * (ay : Rat) := by rw [← simT_X]; show (px : Rat) - (cre _ _ _ _ : Rat) / _ * _ + (cim _ _ _ _ : Rat) / _ * _ = _; rw [eN, eA, eB, hra, hrb]
  have t3 : simT (ax, ay) (bx, b_y) (px, py) (qx, qy) 3 = (py : Rat) - rb * (ax : Rat) - ra * (ay : Rat) := by rw [← simT_Y]; show (py : Rat) - (cim _ _ _ _ : Rat) / _ * _ - (cre _ _ _ _ : Rat) / _ * _ = _; rw [eN, eA, eB, hra, hrb]
  rw [hra] at t0 z0 ofA
  rw [hrb] at t1 z1 ofB
  have HT := Hid.mk_ (And.intro t0 (And.intro t1 (And.intro t2 t3)))
  clear t0 t1 t2 t3 hra hrb eN eA eB bN bA bB hN hA hB e1 e2 e3 e4 e5 e6 m1 m2 m3 m4 m5 m6 u1 u2 u3 u4 hux huy hvx hvy a0 a1 a2 a3 b0 b1 b2 b3 p0 p1 p2 p3 q0 q1 q2 q3 hn
  generalize hp1 : (px : Rat) = pX at *
  generalize hp2 : (py : Rat) = pY at *
  generalize hp3 : (ax : Rat) = aX at *
  generalize hp4 : (ay : Rat) = aY at *
  clear hp1 hp2 hp3 hp4
  go_enter Tryz.func40, Tryz.ntmps40
  go_upto_region 1 with fail
  refine Reg.wp_chain_n (fun N0 D v W => Below w.heap.size w W ∧ Keeps w W ∧ N0 ≤ W.heap.size ∧ Blk W (w.heap.size) 23 #[.int .i64 ax, .int .i64 ay] ∧ Blk W (w.heap.size + 1) 23 #[.int .i64 bx, .int .i64 b_y] ∧ Blk W (w.heap.size + 1 + 1) 23 #[.int .i64 px, .int .i64 py] ∧ Blk W (w.heap.size + 1 + 1 + 1) 23 #[.int .i64 qx, .int .i64 qy] ∧ Blk W (w.heap.size + 1 + 1 + 1 + 1) 30 #[.bool false, .slice none 0 0, .bool false, .slice none 0 0, .bool false, .slice none 0 0, .bool false, .slice none 0 0, .bool false, .slice none 0 0, .bool false, .slice none 0 0, .bool false, .slice none 0 0, .bool false, .slice none 0 0])
    (Reg.inl []) (Reg.gv []) (gw []) (fun _ => Keeps) (fun _ _ => False) (Reg.pl [(24, [])]) (Reg.pl [])
    (by kernel_rfl) (by kernel_rfl) (by kernel_rfl) (Reg.gv_some _ (by intro p hp; cases hp)) (fun N0 hN0 => ⟨fun v => ?_, fun D v v' W hv hj => ?_, fun D v k j W W' x _ _ _ _ hk hg => gw_keeps _ (by intro p hp; cases hp) hk hg, fun _ _ _ _ h => h.elim, fun ops' Q' hops hQ => ?_⟩)
  · exact ⟨belowB, keepsB, by first | with_reducible exact Nat.le_of_eq hN0.out | (simp only [World.size_drew]; with_reducible exact Nat.le_of_eq hN0.out), ownK, ownK, ownK, ownK, ownK⟩
  · obtain ⟨j0, jk, jn, b_a, b_b, b_i, b_j, b_r⟩ := hj
    exact ⟨j0, jk, jn, b_a, b_b, b_i, b_j, b_r⟩
  have i_a : w.heap.size < N0 := by have e := hN0.out; (try simp only [World.size_alloc, World.size_setCell, World.size_drew, World.heap_drewN] at e); first | omega | (have h := oa.lt; omega)
  have i_b : w.heap.size + 1 < N0 := by have e := hN0.out; (try simp only [World.size_alloc, World.size_setCell, World.size_drew, World.heap_drewN] at e); first | omega | (have h := ob.lt; omega)
  have i_i : w.heap.size + 1 + 1 < N0 := by have e := hN0.out; (try simp only [World.size_alloc, World.size_setCell, World.size_drew, World.heap_drewN] at e); first | omega | (have h := oi.lt; omega)
  have i_j : w.heap.size + 1 + 1 + 1 < N0 := by have e := hN0.out; (try simp only [World.size_alloc, World.size_setCell, World.size_drew, World.heap_drewN] at e); first | omega | (have h := oj.lt; omega)
  have i_r : w.heap.size + 1 + 1 + 1 + 1 < N0 := by have e := hN0.out; (try simp only [World.size_alloc, World.size_setCell, World.size_drew, World.heap_drewN] at e); first | omega | (have h := or.lt; omega)
  have iw : w.heap.size ≤ N0 := by have e := hN0.out; (try simp only [World.size_alloc, World.size_setCell, World.size_drew, World.heap_drewN] at e); first | omega | (have h := B.size; omega)
  clear hN0
  apply Reg.RC_pure (hc := rfl) (hst := rfl) (hw := rfl) (t := 15) (hd := rfl) (ht := Nat.le_of_ble_eq_true rfl)
  · intro D v' W' hc hj hf K hK
    go_step
    exact hK.out
  · rfl
  apply Reg.RC_pure (hc := rfl) (hst := rfl) (hw := rfl) (t := 16) (hd := rfl) (ht := Nat.le_of_ble_eq_true rfl)
  · intro D v' W' hc hj hf K hK
    obtain ⟨j0, jk, jn, b_a, b_b, b_i, b_j, b_r⟩ := hj
    have c0 : W'.cell? ⟨w.heap.size + 1, 0, none⟩ = some (.int .i64 bx) := b_b.c 0 rfl
    go_step
    exact hK.out
  · rfl
  apply Reg.RC_pure (hc := rfl) (hst := rfl) (hw := rfl) (t := 17) (hd := rfl) (ht := Nat.le_of_ble_eq_true rfl)
  · intro D v' W' hc hj hf K hK
    go_step
    exact hK.out
  · rfl
  apply Reg.RC_pure (hc := rfl) (hst := rfl) (hw := rfl) (t := 18) (hd := rfl) (ht := Nat.le_of_ble_eq_true rfl)
  · intro D v' W' hc hj hf K hK
    obtain ⟨j0, jk, jn, b_a, b_b, b_i, b_j, b_r⟩ := hj
    have c0 : W'.cell? ⟨w.heap.size, 0, none⟩ = some (.int .i64 ax) := b_a.c 0 rfl
    go_step
    exact hK.out
  · rfl
  apply Reg.RC_pure (hc := rfl) (hst := rfl) (hw := rfl) (t := 19) (hd := rfl) (ht := Nat.le_of_ble_eq_true rfl)
  · intro D v' W' hc hj hf K hK
    go_step
    exact hK.out
  · rfl
  apply Reg.RC_pure (hc := rfl) (hst := rfl) (hw := rfl) (t := 20) (hd := rfl) (ht := Nat.le_of_ble_eq_true rfl)
  · intro D v' W' hc hj hf K hK
    go_step
    exact hK.out
  · rfl
  apply Reg.RC_pure (hc := rfl) (hst := rfl) (hw := rfl) (t := 21) (hd := rfl) (ht := Nat.le_of_ble_eq_true rfl)
  · intro D v' W' hc hj hf K hK
    obtain ⟨j0, jk, jn, b_a, b_b, b_i, b_j, b_r⟩ := hj
    have c1 : W'.cell? ⟨w.heap.size + 1, 1, none⟩ = some (.int .i64 b_y) := b_b.c 1 rfl
    go_step
    exact hK.out
  · rfl
  apply Reg.RC_pure (hc := rfl) (hst := rfl) (hw := rfl) (t := 22) (hd := rfl) (ht := Nat.le_of_ble_eq_true rfl)
  · intro D v' W' hc hj hf K hK
    go_step
    exact hK.out
  · rfl
  apply Reg.RC_pure (hc := rfl) (hst := rfl) (hw := rfl) (t := 23) (hd := rfl) (ht := Nat.le_of_ble_eq_true rfl)
  · intro D v' W' hc hj hf K hK
    obtain ⟨j0, jk, jn, b_a, b_b, b_i, b_j, b_r⟩ := hj
    have c1 : W'.cell? ⟨w.heap.size, 1, none⟩ = some (.int .i64 ay) := b_a.c 1 rfl
    go_step
    exact hK.out
  · rfl
  apply Reg.RC_pure (hc := rfl) (hst := rfl) (hw := rfl) (t := 24) (hd := rfl) (ht := Nat.le_of_ble_eq_true rfl)
  · intro D v' W' hc hj hf K hK
    go_step
    exact hK.out
  · rfl
  apply Reg.RC_pure (hc := rfl) (hst := rfl) (hw := rfl) (t := 25) (hd := rfl) (ht := Nat.le_of_ble_eq_true rfl)
  · intro D v' W' hc hj hf K hK
    go_step
    exact hK.out
  · rfl
  apply Reg.RC_pure (hc := rfl) (hst := rfl) (hw := rfl) (t := 26) (hd := rfl) (ht := Nat.le_of_ble_eq_true rfl)
  · intro D v' W' hc hj hf K hK
    obtain ⟨j0, jk, jn, b_a, b_b, b_i, b_j, b_r⟩ := hj
    have c0 : W'.cell? ⟨w.heap.size + 1 + 1 + 1, 0, none⟩ = some (.int .i64 qx) := b_j.c 0 rfl
    go_step
    exact hK.out
  · rfl
  apply Reg.RC_pure (hc := rfl) (hst := rfl) (hw := rfl) (t := 27) (hd := rfl) (ht := Nat.le_of_ble_eq_true rfl)
  · intro D v' W' hc hj hf K hK
    go_step
    exact hK.out
  · rfl
  apply Reg.RC_pure (hc := rfl) (hst := rfl) (hw := rfl) (t := 28) (hd := rfl) (ht := Nat.le_of_ble_eq_true rfl)
  · intro D v' W' hc hj hf K hK
    obtain ⟨j0, jk, jn, b_a, b_b, b_i, b_j, b_r⟩ := hj
    have c0 : W'.cell? ⟨w.heap.size + 1 + 1, 0, none⟩ = some (.int .i64 px) := b_i.c 0 rfl
    go_step
    exact hK.out
  · rfl
  apply Reg.RC_pure (hc := rfl) (hst := rfl) (hw := rfl) (t := 29) (hd := rfl) (ht := Nat.le_of_ble_eq_true rfl)
  · intro D v' W' hc hj hf K hK
    go_step
    exact hK.out
  · rfl
  apply Reg.RC_pure (hc := rfl) (hst := rfl) (hw := rfl) (t := 30) (hd := rfl) (ht := Nat.le_of_ble_eq_true rfl)
  · intro D v' W' hc hj hf K hK
    go_step
    exact hK.out
  · rfl
  apply Reg.RC_pure (hc := rfl) (hst := rfl) (hw := rfl) (t := 31) (hd := rfl) (ht := Nat.le_of_ble_eq_true rfl)
  · intro D v' W' hc hj hf K hK
    obtain ⟨j0, jk, jn, b_a, b_b, b_i, b_j, b_r⟩ := hj
    have c1 : W'.cell? ⟨w.heap.size + 1 + 1 + 1, 1, none⟩ = some (.int .i64 qy) := b_j.c 1 rfl
    go_step
    exact hK.out
  · rfl
  apply Reg.RC_pure (hc := rfl) (hst := rfl) (hw := rfl) (t := 32) (hd := rfl) (ht := Nat.le_of_ble_eq_true rfl)
  · intro D v' W' hc hj hf K hK
    go_step
    exact hK.out
  · rfl
  apply Reg.RC_pure (hc := rfl) (hst := rfl) (hw := rfl) (t := 33) (hd := rfl) (ht := Nat.le_of_ble_eq_true rfl)
  · intro D v' W' hc hj hf K hK
    obtain ⟨j0, jk, jn, b_a, b_b, b_i, b_j, b_r⟩ := hj
    have c1 : W'.cell? ⟨w.heap.size + 1 + 1, 1, none⟩ = some (.int .i64 py) := b_i.c 1 rfl
    go_step
    exact hK.out
  · rfl
  apply Reg.RC_pure (hc := rfl) (hst := rfl) (hw := rfl) (t := 34) (hd := rfl) (ht := Nat.le_of_ble_eq_true rfl)
  · intro D v' W' hc hj hf K hK
    go_step
    exact hK.out
  · rfl
  apply Reg.RC_pure (hc := rfl) (hst := rfl) (hw := rfl) (t := 9) (hd := rfl) (ht := Nat.le_of_ble_eq_true rfl)
  · intro D v' W' hc hj hf K hK
    go_step
    exact hK.out
  · rfl
  apply Reg.RC_pure (hc := rfl) (hst := rfl) (hw := rfl) (t := 10) (hd := rfl) (ht := Nat.le_of_ble_eq_true rfl)
  · intro D v' W' hc hj hf K hK
    go_step
    exact hK.out
  · rfl
  apply Reg.RC_pure (hc := rfl) (hst := rfl) (hw := rfl) (t := 11) (hd := rfl) (ht := Nat.le_of_ble_eq_true rfl)
  · intro D v' W' hc hj hf K hK
    go_step
    exact hK.out
  · rfl
  apply Reg.RC_pure (hc := rfl) (hst := rfl) (hw := rfl) (t := 12) (hd := rfl) (ht := Nat.le_of_ble_eq_true rfl)
  · intro D v' W' hc hj hf K hK
    go_step
    exact hK.out
  · rfl
  refine Reg.RC_end (fun Dn v' w1 hd hj hf => ?_)
  obtain ⟨j0, jk, jn, b_a, b_b, b_i, b_j, b_r⟩ := hj
  have B := j0
  have oa := b_a
  clear b_a
  have ob := b_b
  clear b_b
  have oi := b_i
  clear b_i
  have oj := b_j
  clear b_j
  have or := b_r
  clear b_r
  clear hd hf jk j0
  refine hQ _ _ ?_
  clear hQ hops Q' ops'
  have zr_1 : w.heap.size + 1 + 1 + 1 + 1 < w1.heap.size := or.lt
  have zz1 := B.size
  go_wp2_with fail
  refine (ofA _).mono ?_
  rintro e w2 ⟨vee, rfl, hvee, hb2⟩
  have st : Steps _ w2 := hb2
  have sk : Below w1.heap.size w1 w2 := belowA st
  replace B := below_steps B (Nat.le_refl _) sk
  have ov14 : Blk w2 (w1.heap.size) 30 #[.bool false, .slice none 0 0, .bool false, .slice none 0 0, .bool false, .slice none 0 0, .bool false, .slice none 0 0, .bool false, .slice none 0 0, .bool false, .slice none 0 0, .bool false, .slice none 0 0, .bool false, .slice none 0 0] := Blk.stepsK st
  replace oa := oa.steps sk
  replace ob := ob.steps sk
  replace oi := oi.steps sk
  replace oj := oj.steps sk
  replace or := or.steps sk
  clear st sk
  have cv140 := ov14.q0
  have cv141 := ov14.q1
  have cv142 := ov14.q2
  have cv143 := ov14.q3
  have cv144 := ov14.q4
  have cv145 := ov14.q5
  have cv146 := ov14.q6
  have cv147 := ov14.q7
  have cv148 := ov14.q8
  have cv149 := ov14.q9
  have cv1410 := ov14.q10
  have cv1411 := ov14.q11
  have cv1412 := ov14.q12
  have cv1413 := ov14.q13
  have cv1414 := ov14.q14
  have cv1415 := ov14.q15
  have fv14 := ov14.fr
  have lv14 := ov14.lt
  obtain ⟨ee1, ee2, ee3, ee4, ee5, ee6, ee7, ee8, rfl⟩ := hvee.shape
  have Fee := Hid.mk_ hvee
  clear hvee
  go_wp2_with fail
  refine (ofB _).mono ?_
  rintro e w3 ⟨vgg, rfl, hvgg, hb3⟩
  have st : Steps _ w3 := hb3
  have Bn : Below w.heap.size w w3 := belowA st
  have kp : Keeps w2 w3 := Keeps.then_ keepsB st
  have na : Blk w3 (w.heap.size) 23 #[.int .i64 ax, .int .i64 ay] := Blk.stepsK st
  have nb : Blk w3 (w.heap.size + 1) 23 #[.int .i64 bx, .int .i64 b_y] := Blk.stepsK st
  have ni : Blk w3 (w.heap.size + 1 + 1) 23 #[.int .i64 px, .int .i64 py] := Blk.stepsK st
  have nj : Blk w3 (w.heap.size + 1 + 1 + 1) 23 #[.int .i64 qx, .int .i64 qy] := Blk.stepsK st
  have nr : Blk w3 (w.heap.size + 1 + 1 + 1 + 1) 30 #[.bool false, .slice none 0 0, .bool false, .slice none 0 0, .bool false, .slice none 0 0, .bool false, .slice none 0 0, .bool false, .slice none 0 0, .bool false, .slice none 0 0, .bool false, .slice none 0 0, .bool false, .slice none 0 0] := Blk.stepsK st
  have nv14 : Blk w3 (w1.heap.size) 30 #[.bool ee1, .slice ee2 ee3 ee4, .bool ee5, .slice ee6 ee7 ee8, .bool false, .slice none 0 0, .bool false, .slice none 0 0, .bool false, .slice none 0 0, .bool false, .slice none 0 0, .bool false, .slice none 0 0, .bool false, .slice none 0 0] := Blk.steps ownD st
  clear cv140 cv141 cv142 cv143 cv144 cv145 cv146 cv147 cv148 cv149 cv1410 cv1411 cv1412 cv1413 cv1414 cv1415 fv14 lv14
  replace B := Bn
  replace oa := na
  clear na
  replace ob := nb
  clear nb
  replace oi := ni
  clear ni
  replace oj := nj
  clear nj
  replace or := nr
  clear nr
  replace ov14 := nv14
  clear nv14
  replace Fee := Hid.mk_ (Fee.out.keeps kp)
  clear kp
  clear st
  have ca0 := oa.q0
  have ca1 := oa.q1
  have la := oa.lt
  have lb := ob.lt
  have ci0 := oi.q0
  have ci1 := oi.q1
  have li := oi.lt
  have lj := oj.lt
  have lr := or.lt
  have cv140 := ov14.q0
  have cv141 := ov14.q1
  have cv142 := ov14.q2
  have cv143 := ov14.q3
  have cv144 := ov14.q4
  have cv145 := ov14.q5
  have cv146 := ov14.q6
  have cv147 := ov14.q7
  have cv148 := ov14.q8
  have cv149 := ov14.q9
  have cv1410 := ov14.q10
  have cv1411 := ov14.q11
  have cv1412 := ov14.q12
  have cv1413 := ov14.q13
  have cv1414 := ov14.q14
  have cv1415 := ov14.q15
  have fv14 := ov14.fr
  have lv14 := ov14.lt
  obtain ⟨gg1, gg2, gg3, gg4, gg5, gg6, gg7, gg8, rfl⟩ := hvgg.shape
  have Fgg := Hid.mk_ hvgg
  clear hvgg
  go_wp2_with fail
  have zv14_3 : w1.heap.size < w3.heap.size := ov14.lt
  have zz3 := B.size
  go_upto_region 6 with fail
  refine Reg.wp_chain_n (fun N0 D v W => Below w.heap.size w W ∧ Keeps w3 W ∧ N0 ≤ W.heap.size ∧ Blk W (w.heap.size) 23 #[.int .i64 ax, .int .i64 ay] ∧ Blk W (w.heap.size + 1) 23 #[.int .i64 bx, .int .i64 b_y] ∧ Blk W (w.heap.size + 1 + 1) 23 #[.int .i64 px, .int .i64 py] ∧ Blk W (w.heap.size + 1 + 1 + 1) 23 #[.int .i64 qx, .int .i64 qy] ∧ Blk W (w.heap.size + 1 + 1 + 1 + 1) 30 #[.bool false, .slice none 0 0, .bool false, .slice none 0 0, .bool false, .slice none 0 0, .bool false, .slice none 0 0, .bool false, .slice none 0 0, .bool false, .slice none 0 0, .bool false, .slice none 0 0, .bool false, .slice none 0 0] ∧ (D 18 = false → Blk W (w1.heap.size) 30 #[.bool ee1, .slice ee2 ee3 ee4, .bool ee5, .slice ee6 ee7 ee8, .bool gg1, .slice gg2 gg3 gg4, .bool gg5, .slice gg6 gg7 gg8, .bool false, .slice none 0 0, .bool false, .slice none 0 0, .bool false, .slice none 0 0, .bool false, .slice none 0 0]) ∧ (D 18 = true → D 16 = true ∧ ∃ (y16_1 y16_5 : Bool) (y16_2 y16_6 : Option Addr) (y16_3 y16_7 y16_4 y16_8 : Nat), v 16 = .agg #[.bool y16_1, .slice y16_2 y16_3 y16_4, .bool y16_5, .slice y16_6 y16_7 y16_8] ∧ Blk W (w1.heap.size) 30 #[.bool ee1, .slice ee2 ee3 ee4, .bool ee5, .slice ee6 ee7 ee8, .bool gg1, .slice gg2 gg3 gg4, .bool gg5, .slice gg6 gg7 gg8, .bool y16_1, .slice y16_2 y16_3 y16_4, .bool y16_5, .slice y16_6 y16_7 y16_8, .bool false, .slice none 0 0, .bool false, .slice none 0 0]))
    (Reg.inl [2, 7, 8, 9, 14, 15, 16, 18]) (Reg.gv [(2, IsFr), (7, IsFr), (8, IsFr), (9, IsFr), (14, IsFr), (15, IsFr), (16, IsFr)]) (gw [(2, GFr (pX)), (7, GFr (aX)), (8, GFr ((ra * aX))), (9, GFr ((pX - (ra * aX)))), (14, GFr (aY)), (15, GFr ((rb * aY))), (16, GFr (((pX - (ra * aX)) + (rb * aY))))]) (fun _ => Keeps) (fun _ _ => False) (Reg.pl [(8, [(7, some 75)]), (9, [(2, some 70), (8, some 76)]), (15, [(14, some 82)]), (16, [(9, some 77), (15, some 83)]), (18, [(16, some 84)]), (19, [(2, some 70), (7, some 75), (8, some 76), (9, some 77), (14, some 82), (15, some 83), (16, some 84)])]) (Reg.pl [(16, [18]), (4, [18]), (11, [18])])
    (by kernel_rfl) (by kernel_rfl) (by kernel_rfl) (Reg.gv_some _ (by intro p hp; simp only [List.mem_cons, List.not_mem_nil, or_false] at hp; rcases hp with rfl | rfl | rfl | rfl | rfl | rfl | rfl <;> first | exact ⟨_, rfl⟩ | exact ⟨_, 0, rfl⟩ | exact ⟨_, none, 0, 0, rfl⟩ | exact ⟨_, false, none, 0, 0, rfl⟩ | exact ⟨_, false, none, 0, 0, false, none, 0, 0, rfl⟩)) (fun N0 hN0 => ⟨fun v => ?_, fun D v v' W hv hj => ?_, fun D v k j W W' x _ _ _ _ hk hg => gw_keeps _ (by intro p hp; simp only [List.mem_cons, List.not_mem_nil, or_false] at hp; rcases hp with rfl | rfl | rfl | rfl | rfl | rfl | rfl <;> first | exact GFr.keeps | exact GFrE.keeps | exact GNu.keeps | exact GNuE.keeps | exact GLi.keeps) hk hg, fun _ _ _ _ h => h.elim, fun ops' Q' hops hQ => ?_⟩)
  · exact ⟨belowB, keepsB, by first | with_reducible exact Nat.le_of_eq hN0.out | (simp only [World.size_drew]; with_reducible exact Nat.le_of_eq hN0.out), ownK, ownK, ownK, ownK, ownK, fun q0 => ownD, fun q0 => Bool.noConfusion q0⟩
  · obtain ⟨j0, jk, jn, b_a, b_b, b_i, b_j, b_r, b_v14_0, b_v14_1⟩ := hj
    exact ⟨j0, jk, jn, b_a, b_b, b_i, b_j, b_r, fun q0 => (b_v14_0 q0), fun q0 => by obtain ⟨d_16, y16_1, y16_5, y16_2, y16_6, y16_3, y16_7, y16_4, y16_8, e_16, hb⟩ := b_v14_1 q0; exact ⟨d_16, _, _, _, _, _, _, _, _, (hv 16 d_16) ▸ e_16, hb⟩⟩
  have i_a : w.heap.size < N0 := by have e := hN0.out; (try simp only [World.size_alloc, World.size_setCell, World.size_drew, World.heap_drewN] at e); first | omega | (have h := oa.lt; omega)
  have i_b : w.heap.size + 1 < N0 := by have e := hN0.out; (try simp only [World.size_alloc, World.size_setCell, World.size_drew, World.heap_drewN] at e); first | omega | (have h := ob.lt; omega)
  have i_i : w.heap.size + 1 + 1 < N0 := by have e := hN0.out; (try simp only [World.size_alloc, World.size_setCell, World.size_drew, World.heap_drewN] at e); first | omega | (have h := oi.lt; omega)
  have i_j : w.heap.size + 1 + 1 + 1 < N0 := by have e := hN0.out; (try simp only [World.size_alloc, World.size_setCell, World.size_drew, World.heap_drewN] at e); first | omega | (have h := oj.lt; omega)
  have i_r : w.heap.size + 1 + 1 + 1 + 1 < N0 := by have e := hN0.out; (try simp only [World.size_alloc, World.size_setCell, World.size_drew, World.heap_drewN] at e); first | omega | (have h := or.lt; omega)
  have i_v14 : w1.heap.size < N0 := by have e := hN0.out; (try simp only [World.size_alloc, World.size_setCell, World.size_drew, World.heap_drewN] at e); first | omega | (have h := ov14.lt; omega)
  have iw : w.heap.size ≤ N0 := by have e := hN0.out; (try simp only [World.size_alloc, World.size_setCell, World.size_drew, World.heap_drewN] at e); first | omega | (have h := B.size; omega)
  clear ca0 ca1 la lb ci0 ci1 li lj lr cv140 cv141 cv142 cv143 cv144 cv145 cv146 cv147 cv148 cv149 cv1410 cv1411 cv1412 cv1413 cv1414 cv1415 fv14 lv14
  clear hN0
  apply Reg.RC_pure (hc := rfl) (hst := rfl) (hw := rfl) (t := 68) (hd := rfl) (ht := Nat.le_of_ble_eq_true rfl)
  · intro D v' W' hc hj hf K hK
    go_step
    exact hK.out
  · rfl
  apply Reg.RC_pure (hc := rfl) (hst := rfl) (hw := rfl) (t := 69) (hd := rfl) (ht := Nat.le_of_ble_eq_true rfl)
  · intro D v' W' hc hj hf K hK
    obtain ⟨j0, jk, jn, b_a, b_b, b_i, b_j, b_r, b_v14_0, b_v14_1⟩ := hj
    have c0 : W'.cell? ⟨w.heap.size + 1 + 1, 0, none⟩ = some (.int .i64 px) := b_i.c 0 rfl
    go_step
    exact hK.out
  · rfl
  refine Reg.RC_call rfl (by intro t ht; cases ht; exact Nat.le_of_ble_eq_true rfl) rfl (fun D v' W' hc hj hf K hK => ?_) ?_
  · obtain ⟨j0, jk, jn, b_a, b_b, b_i, b_j, b_r, b_v14_0, b_v14_1⟩ := hj
    clear hf
    go_step
    refine (of_px W').mono ?_
    rintro e W2 ⟨u, rfl, hu, hs⟩
    obtain ⟨ka1, ka2, ka3, ka4, ka5, ka6, ka7, ka8, rfl⟩ := hu.shape
    exact hK.out _ W2 (Keeps.steps hs) ⟨below_steps j0 (Nat.le_refl _) hs, jk.then_ hs, Nat.le_trans jn hs.size, b_a.steps hs, b_b.steps hs, b_i.steps hs, b_j.steps hs, b_r.steps hs, fun q0 => ((b_v14_0 q0)).steps hs, fun q0 => by obtain ⟨d_16, y16_1, y16_5, y16_2, y16_6, y16_3, y16_7, y16_4, y16_8, e_16, hb⟩ := b_v14_1 q0; exact ⟨d_16, _, _, _, _, _, _, _, _, e_16, (hb).steps hs⟩⟩ hu ⟨_, _, _, _, _, _, _, _, rfl⟩
  rintro _ ⟨ka1, ka2, ka3, ka4, ka5, ka6, ka7, ka8, rfl⟩
  refine Reg.RC_at (b := ⟨#[_,_,_,_,_,_,_,_,_,_,_,_,_,_,_,_,_,_,_,_,_,_,_,_,_,_,_,_,_,_,_,_,_,_,_,_,_,_,_,_,_,_,_,_,_,_,_,_,_,_,_,_,_,_,_,_,_,_,_,_,_,_,_,_,_,_,_,_,_,_,_,_,_,_,_,_,_,_,_,_,_,_,_,_,_,_,_,_,_,_,_,_,_,_,_,_,_,_,_,_,_,_,_,_,_], _⟩) rfl ?_
  apply Reg.RC_pure (hc := rfl) (hst := rfl) (hw := rfl) (t := 71) (hd := rfl) (ht := Nat.le_of_ble_eq_true rfl)
  · intro D v' W' hc hj hf K hK
    go_step
    exact hK.out
  · rfl
  apply Reg.RC_pure (hc := rfl) (hst := rfl) (hw := rfl) (t := 72) (hd := rfl) (ht := Nat.le_of_ble_eq_true rfl)
  · intro D v' W' hc hj hf K hK
    obtain ⟨j0, jk, jn, b_a, b_b, b_i, b_j, b_r, b_v14_0, b_v14_1⟩ := hj
    have b_v14 := b_v14_0 (hc.2 18 (by decide))
    have c0 : W'.cell? ⟨w1.heap.size, 0, none⟩ = some (.bool ee1) := b_v14.c 0 rfl
    have c1 : W'.cell? ⟨w1.heap.size, 1, none⟩ = some (.slice ee2 ee3 ee4) := b_v14.c 1 rfl
    have c2 : W'.cell? ⟨w1.heap.size, 2, none⟩ = some (.bool ee5) := b_v14.c 2 rfl
    have c3 : W'.cell? ⟨w1.heap.size, 3, none⟩ = some (.slice ee6 ee7 ee8) := b_v14.c 3 rfl
    go_step
    exact hK.out
  · rfl
  apply Reg.RC_pure (hc := rfl) (hst := rfl) (hw := rfl) (t := 73) (hd := rfl) (ht := Nat.le_of_ble_eq_true rfl)
  · intro D v' W' hc hj hf K hK
    go_step
    exact hK.out
  · rfl
  apply Reg.RC_pure (hc := rfl) (hst := rfl) (hw := rfl) (t := 74) (hd := rfl) (ht := Nat.le_of_ble_eq_true rfl)
  · intro D v' W' hc hj hf K hK
    obtain ⟨j0, jk, jn, b_a, b_b, b_i, b_j, b_r, b_v14_0, b_v14_1⟩ := hj
    have c0 : W'.cell? ⟨w.heap.size, 0, none⟩ = some (.int .i64 ax) := b_a.c 0 rfl
    go_step
    exact hK.out
  · rfl
  refine Reg.RC_call rfl (by intro t ht; cases ht; exact Nat.le_of_ble_eq_true rfl) rfl (fun D v' W' hc hj hf K hK => ?_) ?_
  · obtain ⟨j0, jk, jn, b_a, b_b, b_i, b_j, b_r, b_v14_0, b_v14_1⟩ := hj
    clear hf
    go_step
    refine (of_ax W').mono ?_
    rintro e W2 ⟨u, rfl, hu, hs⟩
    obtain ⟨kb1, kb2, kb3, kb4, kb5, kb6, kb7, kb8, rfl⟩ := hu.shape
    exact hK.out _ W2 (Keeps.steps hs) ⟨below_steps j0 (Nat.le_refl _) hs, jk.then_ hs, Nat.le_trans jn hs.size, b_a.steps hs, b_b.steps hs, b_i.steps hs, b_j.steps hs, b_r.steps hs, fun q0 => ((b_v14_0 q0)).steps hs, fun q0 => by obtain ⟨d_16, y16_1, y16_5, y16_2, y16_6, y16_3, y16_7, y16_4, y16_8, e_16, hb⟩ := b_v14_1 q0; exact ⟨d_16, _, _, _, _, _, _, _, _, e_16, (hb).steps hs⟩⟩ hu ⟨_, _, _, _, _, _, _, _, rfl⟩
  rintro _ ⟨kb1, kb2, kb3, kb4, kb5, kb6, kb7, kb8, rfl⟩
  refine Reg.RC_at (b := ⟨#[_,_,_,_,_,_,_,_,_,_,_,_,_,_,_,_,_,_,_,_,_,_,_,_,_,_,_,_,_,_,_,_,_,_,_,_,_,_,_,_,_,_,_,_,_,_,_,_,_,_,_,_,_,_,_,_,_,_,_,_,_,_,_,_,_,_,_,_,_,_,_,_,_,_,_,_,_,_,_,_,_,_,_,_,_,_,_,_,_,_,_,_,_,_,_,_,_,_,_,_,_,_,_,_,_], _⟩) rfl ?_
  refine Reg.RC_call rfl (by intro t ht; cases ht; exact Nat.le_of_ble_eq_true rfl) rfl (fun D v' W' hc hj hf K hK => ?_) ?_
  · obtain ⟨j0, jk, jn, b_a, b_b, b_i, b_j, b_r, b_v14_0, b_v14_1⟩ := hj
    have g7 : GFr (aX) _ W' := (hf (7, some 75) (.head _) rfl).2.2
    have g7 : FR W' _ (aX) := g7
    clear hf
    go_step
    refine (prmul W' (Fee.out.keeps jk) g7 z0 sa1 (by omega)).mono ?_
    rintro e W2 ⟨u, rfl, hu, hs⟩
    obtain ⟨xa1, xa2, xa3, xa4, xa5, xa6, xa7, xa8, rfl⟩ := hu.shape
    exact hK.out _ W2 (Keeps.steps hs) ⟨below_steps j0 (Nat.le_refl _) hs, jk.then_ hs, Nat.le_trans jn hs.size, b_a.steps hs, b_b.steps hs, b_i.steps hs, b_j.steps hs, b_r.steps hs, fun q0 => ((b_v14_0 q0)).steps hs, fun q0 => by obtain ⟨d_16, y16_1, y16_5, y16_2, y16_6, y16_3, y16_7, y16_4, y16_8, e_16, hb⟩ := b_v14_1 q0; exact ⟨d_16, _, _, _, _, _, _, _, _, e_16, (hb).steps hs⟩⟩ hu ⟨_, _, _, _, _, _, _, _, rfl⟩
  rintro _ ⟨xa1, xa2, xa3, xa4, xa5, xa6, xa7, xa8, rfl⟩
  refine Reg.RC_at (b := ⟨#[_,_,_,_,_,_,_,_,_,_,_,_,_,_,_,_,_,_,_,_,_,_,_,_,_,_,_,_,_,_,_,_,_,_,_,_,_,_,_,_,_,_,_,_,_,_,_,_,_,_,_,_,_,_,_,_,_,_,_,_,_,_,_,_,_,_,_,_,_,_,_,_,_,_,_,_,_,_,_,_,_,_,_,_,_,_,_,_,_,_,_,_,_,_,_,_,_,_,_,_,_,_,_,_,_], _⟩) rfl ?_
  refine Reg.RC_call rfl (by intro t ht; cases ht; exact Nat.le_of_ble_eq_true rfl) rfl (fun D v' W' hc hj hf K hK => ?_) ?_
  · obtain ⟨j0, jk, jn, b_a, b_b, b_i, b_j, b_r, b_v14_0, b_v14_1⟩ := hj
    have g2 : GFr (pX) _ W' := (hf (2, some 70) (.head _) rfl).2.2
    have g2 : FR W' _ (pX) := g2
    have g8 : GFr ((ra * aX)) _ W' := (hf (8, some 76) (.tail _ (.head _)) rfl).2.2
    have g8 : FR W' _ ((ra * aX)) := g8
    clear hf
    go_step
    refine (prsub W' g2 g8 sp1 (z0.mul sa1) (by omega)).mono ?_
    rintro e W2 ⟨u, rfl, hu, hs⟩
    obtain ⟨xb1, xb2, xb3, xb4, xb5, xb6, xb7, xb8, rfl⟩ := hu.shape
    exact hK.out _ W2 (Keeps.steps hs) ⟨below_steps j0 (Nat.le_refl _) hs, jk.then_ hs, Nat.le_trans jn hs.size, b_a.steps hs, b_b.steps hs, b_i.steps hs, b_j.steps hs, b_r.steps hs, fun q0 => ((b_v14_0 q0)).steps hs, fun q0 => by obtain ⟨d_16, y16_1, y16_5, y16_2, y16_6, y16_3, y16_7, y16_4, y16_8, e_16, hb⟩ := b_v14_1 q0; exact ⟨d_16, _, _, _, _, _, _, _, _, e_16, (hb).steps hs⟩⟩ hu ⟨_, _, _, _, _, _, _, _, rfl⟩
  rintro _ ⟨xb1, xb2, xb3, xb4, xb5, xb6, xb7, xb8, rfl⟩
  refine Reg.RC_at (b := ⟨#[_,_,_,_,_,_,_,_,_,_,_,_,_,_,_,_,_,_,_,_,_,_,_,_,_,_,_,_,_,_,_,_,_,_,_,_,_,_,_,_,_,_,_,_,_,_,_,_,_,_,_,_,_,_,_,_,_,_,_,_,_,_,_,_,_,_,_,_,_,_,_,_,_,_,_,_,_,_,_,_,_,_,_,_,_,_,_,_,_,_,_,_,_,_,_,_,_,_,_,_,_,_,_,_,_], _⟩) rfl ?_
  apply Reg.RC_pure (hc := rfl) (hst := rfl) (hw := rfl) (t := 78) (hd := rfl) (ht := Nat.le_of_ble_eq_true rfl)
  · intro D v' W' hc hj hf K hK
    go_step
    exact hK.out
  · rfl
  apply Reg.RC_pure (hc := rfl) (hst := rfl) (hw := rfl) (t := 79) (hd := rfl) (ht := Nat.le_of_ble_eq_true rfl)
  · intro D v' W' hc hj hf K hK
    obtain ⟨j0, jk, jn, b_a, b_b, b_i, b_j, b_r, b_v14_0, b_v14_1⟩ := hj
    have b_v14 := b_v14_0 (hc.2 18 (by decide))
    have c4 : W'.cell? ⟨w1.heap.size, 4, none⟩ = some (.bool gg1) := b_v14.c 4 rfl
    have c5 : W'.cell? ⟨w1.heap.size, 5, none⟩ = some (.slice gg2 gg3 gg4) := b_v14.c 5 rfl
    have c6 : W'.cell? ⟨w1.heap.size, 6, none⟩ = some (.bool gg5) := b_v14.c 6 rfl
    have c7 : W'.cell? ⟨w1.heap.size, 7, none⟩ = some (.slice gg6 gg7 gg8) := b_v14.c 7 rfl
    go_step
    exact hK.out
  · rfl
  apply Reg.RC_pure (hc := rfl) (hst := rfl) (hw := rfl) (t := 80) (hd := rfl) (ht := Nat.le_of_ble_eq_true rfl)
  · intro D v' W' hc hj hf K hK
    go_step
    exact hK.out
  · rfl
  apply Reg.RC_pure (hc := rfl) (hst := rfl) (hw := rfl) (t := 81) (hd := rfl) (ht := Nat.le_of_ble_eq_true rfl)
  · intro D v' W' hc hj hf K hK
    obtain ⟨j0, jk, jn, b_a, b_b, b_i, b_j, b_r, b_v14_0, b_v14_1⟩ := hj
    have c1 : W'.cell? ⟨w.heap.size, 1, none⟩ = some (.int .i64 ay) := b_a.c 1 rfl
    go_step
    exact hK.out
  · rfl
  refine Reg.RC_call rfl (by intro t ht; cases ht; exact Nat.le_of_ble_eq_true rfl) rfl (fun D v' W' hc hj hf K hK => ?_) ?_
  · obtain ⟨j0, jk, jn, b_a, b_b, b_i, b_j, b_r, b_v14_0, b_v14_1⟩ := hj
    clear hf
    go_step
    refine (of_ay W').mono ?_
    rintro e W2 ⟨u, rfl, hu, hs⟩
    obtain ⟨kc1, kc2, kc3, kc4, kc5, kc6, kc7, kc8, rfl⟩ := hu.shape
    exact hK.out _ W2 (Keeps.steps hs) ⟨below_steps j0 (Nat.le_refl _) hs, jk.then_ hs, Nat.le_trans jn hs.size, b_a.steps hs, b_b.steps hs, b_i.steps hs, b_j.steps hs, b_r.steps hs, fun q0 => ((b_v14_0 q0)).steps hs, fun q0 => by obtain ⟨d_16, y16_1, y16_5, y16_2, y16_6, y16_3, y16_7, y16_4, y16_8, e_16, hb⟩ := b_v14_1 q0; exact ⟨d_16, _, _, _, _, _, _, _, _, e_16, (hb).steps hs⟩⟩ hu ⟨_, _, _, _, _, _, _, _, rfl⟩
  rintro _ ⟨kc1, kc2, kc3, kc4, kc5, kc6, kc7, kc8, rfl⟩
  refine Reg.RC_at (b := ⟨#[_,_,_,_,_,_,_,_,_,_,_,_,_,_,_,_,_,_,_,_,_,_,_,_,_,_,_,_,_,_,_,_,_,_,_,_,_,_,_,_,_,_,_,_,_,_,_,_,_,_,_,_,_,_,_,_,_,_,_,_,_,_,_,_,_,_,_,_,_,_,_,_,_,_,_,_,_,_,_,_,_,_,_,_,_,_,_,_,_,_,_,_,_,_,_,_,_,_,_,_,_,_,_,_,_], _⟩) rfl ?_
  refine Reg.RC_call rfl (by intro t ht; cases ht; exact Nat.le_of_ble_eq_true rfl) rfl (fun D v' W' hc hj hf K hK => ?_) ?_
  · obtain ⟨j0, jk, jn, b_a, b_b, b_i, b_j, b_r, b_v14_0, b_v14_1⟩ := hj
    have g14 : GFr (aY) _ W' := (hf (14, some 82) (.head _) rfl).2.2
    have g14 : FR W' _ (aY) := g14
    clear hf
    go_step
    refine (prmul W' (Fgg.out.keeps jk) g14 z1 sa2 (by omega)).mono ?_
    rintro e W2 ⟨u, rfl, hu, hs⟩
    obtain ⟨xc1, xc2, xc3, xc4, xc5, xc6, xc7, xc8, rfl⟩ := hu.shape
    exact hK.out _ W2 (Keeps.steps hs) ⟨below_steps j0 (Nat.le_refl _) hs, jk.then_ hs, Nat.le_trans jn hs.size, b_a.steps hs, b_b.steps hs, b_i.steps hs, b_j.steps hs, b_r.steps hs, fun q0 => ((b_v14_0 q0)).steps hs, fun q0 => by obtain ⟨d_16, y16_1, y16_5, y16_2, y16_6, y16_3, y16_7, y16_4, y16_8, e_16, hb⟩ := b_v14_1 q0; exact ⟨d_16, _, _, _, _, _, _, _, _, e_16, (hb).steps hs⟩⟩ hu ⟨_, _, _, _, _, _, _, _, rfl⟩
  rintro _ ⟨xc1, xc2, xc3, xc4, xc5, xc6, xc7, xc8, rfl⟩
  refine Reg.RC_at (b := ⟨#[_,_,_,_,_,_,_,_,_,_,_,_,_,_,_,_,_,_,_,_,_,_,_,_,_,_,_,_,_,_,_,_,_,_,_,_,_,_,_,_,_,_,_,_,_,_,_,_,_,_,_,_,_,_,_,_,_,_,_,_,_,_,_,_,_,_,_,_,_,_,_,_,_,_,_,_,_,_,_,_,_,_,_,_,_,_,_,_,_,_,_,_,_,_,_,_,_,_,_,_,_,_,_,_,_], _⟩) rfl ?_
  refine Reg.RC_call rfl (by intro t ht; cases ht; exact Nat.le_of_ble_eq_true rfl) rfl (fun D v' W' hc hj hf K hK => ?_) ?_
  · obtain ⟨j0, jk, jn, b_a, b_b, b_i, b_j, b_r, b_v14_0, b_v14_1⟩ := hj
    have g9 : GFr ((pX - (ra * aX))) _ W' := (hf (9, some 77) (.head _) rfl).2.2
    have g9 : FR W' _ ((pX - (ra * aX))) := g9
    have g15 : GFr ((rb * aY)) _ W' := (hf (15, some 83) (.tail _ (.head _)) rfl).2.2
    have g15 : FR W' _ ((rb * aY)) := g15
    clear hf
    go_step
    refine (pradd W' g9 g15 (sp1.sub (z0.mul sa1)) (z1.mul sa2) (by omega)).mono ?_
    rintro e W2 ⟨u, rfl, hu, hs⟩
    obtain ⟨xd1, xd2, xd3, xd4, xd5, xd6, xd7, xd8, rfl⟩ := hu.shape
    exact hK.out _ W2 (Keeps.steps hs) ⟨below_steps j0 (Nat.le_refl _) hs, jk.then_ hs, Nat.le_trans jn hs.size, b_a.steps hs, b_b.steps hs, b_i.steps hs, b_j.steps hs, b_r.steps hs, fun q0 => ((b_v14_0 q0)).steps hs, fun q0 => Bool.noConfusion ((hc.2 18 (by decide)).symm.trans q0)⟩ hu ⟨_, _, _, _, _, _, _, _, rfl⟩
  rintro _ ⟨xd1, xd2, xd3, xd4, xd5, xd6, xd7, xd8, rfl⟩
  refine Reg.RC_at (b := ⟨#[_,_,_,_,_,_,_,_,_,_,_,_,_,_,_,_,_,_,_,_,_,_,_,_,_,_,_,_,_,_,_,_,_,_,_,_,_,_,_,_,_,_,_,_,_,_,_,_,_,_,_,_,_,_,_,_,_,_,_,_,_,_,_,_,_,_,_,_,_,_,_,_,_,_,_,_,_,_,_,_,_,_,_,_,_,_,_,_,_,_,_,_,_,_,_,_,_,_,_,_,_,_,_,_,_], _⟩) rfl ?_
  apply Reg.RC_pure (hc := rfl) (hst := rfl) (hw := rfl) (t := 85) (hd := rfl) (ht := Nat.le_of_ble_eq_true rfl)
  · intro D v' W' hc hj hf K hK
    go_step
    exact hK.out
  · rfl
  refine Reg.RC_call rfl (by intro t ht; cases ht) rfl (fun D v' W' hc hj hf K hK => ?_) (fun _ _ => Reg.RC_at (b := ⟨_, _⟩) rfl ?_)
  · obtain ⟨j0, jk, jn, b_a, b_b, b_i, b_j, b_r, b_v14_0, b_v14_1⟩ := hj
    have e2 : w.heap.size ≤ w1.heap.size := by omega
    have fc := hf (16, some 84) (.head _) rfl
    have ec : v' 16 = .agg #[.bool xd1, .slice xd2 xd3 xd4, .bool xd5, .slice xd6 xd7 xd8] := fc.2.1
    have cc0 : W'.cell? ⟨w1.heap.size, 8, none⟩ = some (.bool false) := (b_v14_0 hc.1).c 8 rfl
    have cc1 : W'.cell? ⟨w1.heap.size, 9, none⟩ = some (.slice none 0 0) := (b_v14_0 hc.1).c 9 rfl
    have cc2 : W'.cell? ⟨w1.heap.size, 10, none⟩ = some (.bool false) := (b_v14_0 hc.1).c 10 rfl
    have cc3 : W'.cell? ⟨w1.heap.size, 11, none⟩ = some (.slice none 0 0) := (b_v14_0 hc.1).c 11 rfl
    have ff : ∀ j, W'.frozen? ⟨w1.heap.size, j, none⟩ = false := (b_v14_0 hc.1).fr
    have kp : Keeps W' ((((W'.setCell ⟨w1.heap.size, 8, none⟩ (.bool xd1)).setCell ⟨w1.heap.size, 9, none⟩ (.slice xd2 xd3 xd4)).setCell ⟨w1.heap.size, 10, none⟩ (.bool xd5)).setCell ⟨w1.heap.size, 11, none⟩ (.slice xd6 xd7 xd8)) := (keeps4 (b_v14_0 hc.1) rfl)
    go_step
    exact hK.out undef _ kp ⟨(below4 j0 (by show w.heap.size ≤ w1.heap.size; omega)), jk.trans kp, by simpa using jn, (b_a).far4 (show w.heap.size ≠ w1.heap.size by omega), (b_b).far4 (show w.heap.size + 1 ≠ w1.heap.size by omega), (b_i).far4 (show w.heap.size + 1 + 1 ≠ w1.heap.size by omega), (b_j).far4 (show w.heap.size + 1 + 1 + 1 ≠ w1.heap.size by omega), (b_r).far4 (show w.heap.size + 1 + 1 + 1 + 1 ≠ w1.heap.size by omega), fun q0 => Bool.noConfusion q0, fun q0 => by have hb := b_v14_0 hc.1; exact ⟨fc.1, _, _, _, _, _, _, _, _, ec, (Blk.set2 (cs' := #[.bool ee1, .slice ee2 ee3 ee4, .bool ee5, .slice ee6 ee7 ee8, .bool gg1, .slice gg2 gg3 gg4, .bool gg5, .slice gg6 gg7 gg8, .bool xd1, .slice xd2 xd3 xd4, .bool xd5, .slice xd6 xd7 xd8, .bool false, .slice none 0 0, .bool false, .slice none 0 0]) (Blk.set2 (cs' := #[.bool ee1, .slice ee2 ee3 ee4, .bool ee5, .slice ee6 ee7 ee8, .bool gg1, .slice gg2 gg3 gg4, .bool gg5, .slice gg6 gg7 gg8, .bool xd1, .slice xd2 xd3 xd4, .bool xd5, .slice none 0 0, .bool false, .slice none 0 0, .bool false, .slice none 0 0]) (Blk.set2 (cs' := #[.bool ee1, .slice ee2 ee3 ee4, .bool ee5, .slice ee6 ee7 ee8, .bool gg1, .slice gg2 gg3 gg4, .bool gg5, .slice gg6 gg7 gg8, .bool xd1, .slice xd2 xd3 xd4, .bool false, .slice none 0 0, .bool false, .slice none 0 0, .bool false, .slice none 0 0]) (Blk.set2 (cs' := #[.bool ee1, .slice ee2 ee3 ee4, .bool ee5, .slice ee6 ee7 ee8, .bool gg1, .slice gg2 gg3 gg4, .bool gg5, .slice gg6 gg7 gg8, .bool xd1, .slice none 0 0, .bool false, .slice none 0 0, .bool false, .slice none 0 0, .bool false, .slice none 0 0]) hb (i := 8) rfl) (i := 9) rfl) (i := 10) rfl) (i := 11) rfl)⟩⟩ trivial trivial
  refine Reg.RC_end (fun Dn v' w4 hd hj hf => ?_)
  obtain ⟨j0, jk, jn, b_a, b_b, b_i, b_j, b_r, b_v14_0, b_v14_1⟩ := hj
  have B := j0
  have oa := b_a
  clear b_a
  have ob := b_b
  clear b_b
  have oi := b_i
  clear b_i
  have oj := b_j
  clear b_j
  have or := b_r
  clear b_r
  obtain ⟨dd_16, y16_1, y16_5, y16_2, y16_6, y16_3, y16_7, y16_4, y16_8, ee_16, ov14⟩ := b_v14_1 (hd 18 (Nat.le_of_ble_eq_true rfl))
  have ef : v' 16 = .agg #[.bool xd1, .slice xd2 xd3 xd4, .bool xd5, .slice xd6 xd7 xd8] := (hf (16, some 84) (.tail _ (.tail _ (.tail _ (.tail _ (.tail _ (.tail _ (.head _))))))) rfl).2.1
  have eq_ := ef.symm.trans ee_16
  simp only [Value.tuple.injEq, Value.agg.injEq, Array.mk.injEq, List.cons.injEq, Value.bool.injEq, Value.slice.injEq, and_true, true_and] at eq_
  obtain ⟨rfl, ⟨rfl, rfl, rfl⟩, rfl, ⟨rfl, rfl, rfl⟩⟩ := eq_
  clear ef ee_16 dd_16
  clear b_v14_0 b_v14_1
  have Fxd : Hid (FR w4 (.agg #[.bool xd1, .slice xd2 xd3 xd4, .bool xd5, .slice xd6 xd7 xd8]) (((pX - (ra * aX)) + (rb * aY)))) := (hf (16, some 84) (.tail _ (.tail _ (.tail _ (.tail _ (.tail _ (.tail _ (.head _))))))) rfl).2.2
  replace Fee := Hid.mk_ (Fee.out.keeps jk)
  replace Fgg := Hid.mk_ (Fgg.out.keeps jk)
  clear hd hf jk j0
  refine hQ _ _ ?_
  clear hQ hops Q' ops'
  have ca0 := oa.q0
  have ca1 := oa.q1
  have la := oa.lt
  have lb := ob.lt
  have ci0 := oi.q0
  have ci1 := oi.q1
  have li := oi.lt
  have lj := oj.lt
  have lr := or.lt
  have cv140 := ov14.q0
  have cv141 := ov14.q1
  have cv142 := ov14.q2
  have cv143 := ov14.q3
  have cv144 := ov14.q4
  have cv145 := ov14.q5
  have cv146 := ov14.q6
  have cv147 := ov14.q7
  have cv148 := ov14.q8
  have cv149 := ov14.q9
  have cv1410 := ov14.q10
  have cv1411 := ov14.q11
  have cv1412 := ov14.q12
  have cv1413 := ov14.q13
  have cv1414 := ov14.q14
  have cv1415 := ov14.q15
  have lv14 := ov14.lt
  have zv14_4 : w1.heap.size < w4.heap.size := ov14.lt
  have zz4 := B.size
  go_upto_region 7 with fail
  refine Reg.wp_chain_n (fun N0 D v W => Below w.heap.size w W ∧ Keeps w4 W ∧ N0 ≤ W.heap.size ∧ Blk W (w.heap.size) 23 #[.int .i64 ax, .int .i64 ay] ∧ Blk W (w.heap.size + 1) 23 #[.int .i64 bx, .int .i64 b_y] ∧ Blk W (w.heap.size + 1 + 1) 23 #[.int .i64 px, .int .i64 py] ∧ Blk W (w.heap.size + 1 + 1 + 1) 23 #[.int .i64 qx, .int .i64 qy] ∧ Blk W (w.heap.size + 1 + 1 + 1 + 1) 30 #[.bool false, .slice none 0 0, .bool false, .slice none 0 0, .bool false, .slice none 0 0, .bool false, .slice none 0 0, .bool false, .slice none 0 0, .bool false, .slice none 0 0, .bool false, .slice none 0 0, .bool false, .slice none 0 0] ∧ (D 18 = false → Blk W (w1.heap.size) 30 #[.bool ee1, .slice ee2 ee3 ee4, .bool ee5, .slice ee6 ee7 ee8, .bool gg1, .slice gg2 gg3 gg4, .bool gg5, .slice gg6 gg7 gg8, .bool xd1, .slice xd2 xd3 xd4, .bool xd5, .slice xd6 xd7 xd8, .bool false, .slice none 0 0, .bool false, .slice none 0 0]) ∧ (D 18 = true → D 16 = true ∧ ∃ (y16_1 y16_5 : Bool) (y16_2 y16_6 : Option Addr) (y16_3 y16_7 y16_4 y16_8 : Nat), v 16 = .agg #[.bool y16_1, .slice y16_2 y16_3 y16_4, .bool y16_5, .slice y16_6 y16_7 y16_8] ∧ Blk W (w1.heap.size) 30 #[.bool ee1, .slice ee2 ee3 ee4, .bool ee5, .slice ee6 ee7 ee8, .bool gg1, .slice gg2 gg3 gg4, .bool gg5, .slice gg6 gg7 gg8, .bool xd1, .slice xd2 xd3 xd4, .bool xd5, .slice xd6 xd7 xd8, .bool y16_1, .slice y16_2 y16_3 y16_4, .bool y16_5, .slice y16_6 y16_7 y16_8]))
    (Reg.inl [2, 7, 8, 9, 14, 15, 16, 18]) (Reg.gv [(2, IsFr), (7, IsFr), (8, IsFr), (9, IsFr), (14, IsFr), (15, IsFr), (16, IsFr)]) (gw [(2, GFr (pY)), (7, GFr (aX)), (8, GFr ((rb * aX))), (9, GFr ((pY - (rb * aX)))), (14, GFr (aY)), (15, GFr ((ra * aY))), (16, GFr (((pY - (rb * aX)) - (ra * aY))))]) (fun _ => Keeps) (fun _ _ => False) (Reg.pl [(8, [(7, some 93)]), (9, [(2, some 88), (8, some 94)]), (15, [(14, some 100)]), (16, [(9, some 95), (15, some 101)]), (18, [(16, some 102)]), (19, [(2, some 88), (7, some 93), (8, some 94), (9, some 95), (14, some 100), (15, some 101), (16, some 102)])]) (Reg.pl [(16, [18]), (4, [18]), (11, [18])])
    (by kernel_rfl) (by kernel_rfl) (by kernel_rfl) (Reg.gv_some _ (by intro p hp; simp only [List.mem_cons, List.not_mem_nil, or_false] at hp; rcases hp with rfl | rfl | rfl | rfl | rfl | rfl | rfl <;> first | exact ⟨_, rfl⟩ | exact ⟨_, 0, rfl⟩ | exact ⟨_, none, 0, 0, rfl⟩ | exact ⟨_, false, none, 0, 0, rfl⟩ | exact ⟨_, false, none, 0, 0, false, none, 0, 0, rfl⟩)) (fun N0 hN0 => ⟨fun v => ?_, fun D v v' W hv hj => ?_, fun D v k j W W' x _ _ _ _ hk hg => gw_keeps _ (by intro p hp; simp only [List.mem_cons, List.not_mem_nil, or_false] at hp; rcases hp with rfl | rfl | rfl | rfl | rfl | rfl | rfl <;> first | exact GFr.keeps | exact GFrE.keeps | exact GNu.keeps | exact GNuE.keeps | exact GLi.keeps) hk hg, fun _ _ _ _ h => h.elim, fun ops' Q' hops hQ => ?_⟩)
  · exact ⟨belowB, keepsB, by first | with_reducible exact Nat.le_of_eq hN0.out | (simp only [World.size_drew]; with_reducible exact Nat.le_of_eq hN0.out), ownK, ownK, ownK, ownK, ownK, fun q0 => ownK, fun q0 => Bool.noConfusion q0⟩
  · obtain ⟨j0, jk, jn, b_a, b_b, b_i, b_j, b_r, b_v14_0, b_v14_1⟩ := hj
    exact ⟨j0, jk, jn, b_a, b_b, b_i, b_j, b_r, fun q0 => (b_v14_0 q0), fun q0 => by obtain ⟨d_16, y16_1, y16_5, y16_2, y16_6, y16_3, y16_7, y16_4, y16_8, e_16, hb⟩ := b_v14_1 q0; exact ⟨d_16, _, _, _, _, _, _, _, _, (hv 16 d_16) ▸ e_16, hb⟩⟩
  have i_a : w.heap.size < N0 := by have e := hN0.out; (try simp only [World.size_alloc, World.size_setCell, World.size_drew, World.heap_drewN] at e); first | omega | (have h := oa.lt; omega)
  have i_b : w.heap.size + 1 < N0 := by have e := hN0.out; (try simp only [World.size_alloc, World.size_setCell, World.size_drew, World.heap_drewN] at e); first | omega | (have h := ob.lt; omega)
  have i_i : w.heap.size + 1 + 1 < N0 := by have e := hN0.out; (try simp only [World.size_alloc, World.size_setCell, World.size_drew, World.heap_drewN] at e); first | omega | (have h := oi.lt; omega)
  have i_j : w.heap.size + 1 + 1 + 1 < N0 := by have e := hN0.out; (try simp only [World.size_alloc, World.size_setCell, World.size_drew, World.heap_drewN] at e); first | omega | (have h := oj.lt; omega)
  have i_r : w.heap.size + 1 + 1 + 1 + 1 < N0 := by have e := hN0.out; (try simp only [World.size_alloc, World.size_setCell, World.size_drew, World.heap_drewN] at e); first | omega | (have h := or.lt; omega)
  have i_v14 : w1.heap.size < N0 := by have e := hN0.out; (try simp only [World.size_alloc, World.size_setCell, World.size_drew, World.heap_drewN] at e); first | omega | (have h := ov14.lt; omega)
  have iw : w.heap.size ≤ N0 := by have e := hN0.out; (try simp only [World.size_alloc, World.size_setCell, World.size_drew, World.heap_drewN] at e); first | omega | (have h := B.size; omega)
  clear ca0 ca1 la lb ci0 ci1 li lj lr cv140 cv141 cv142 cv143 cv144 cv145 cv146 cv147 cv148 cv149 cv1410 cv1411 cv1412 cv1413 cv1414 cv1415 lv14
  clear hN0
  apply Reg.RC_pure (hc := rfl) (hst := rfl) (hw := rfl) (t := 86) (hd := rfl) (ht := Nat.le_of_ble_eq_true rfl)
  · intro D v' W' hc hj hf K hK
    go_step
    exact hK.out
  · rfl
  apply Reg.RC_pure (hc := rfl) (hst := rfl) (hw := rfl) (t := 87) (hd := rfl) (ht := Nat.le_of_ble_eq_true rfl)
  · intro D v' W' hc hj hf K hK
    obtain ⟨j0, jk, jn, b_a, b_b, b_i, b_j, b_r, b_v14_0, b_v14_1⟩ := hj
    have c1 : W'.cell? ⟨w.heap.size + 1 + 1, 1, none⟩ = some (.int .i64 py) := b_i.c 1 rfl
    go_step
    exact hK.out
  · rfl
  refine Reg.RC_call rfl (by intro t ht; cases ht; exact Nat.le_of_ble_eq_true rfl) rfl (fun D v' W' hc hj hf K hK => ?_) ?_
  · obtain ⟨j0, jk, jn, b_a, b_b, b_i, b_j, b_r, b_v14_0, b_v14_1⟩ := hj
    clear hf
    go_step
    refine (of_py W').mono ?_
    rintro e W2 ⟨u, rfl, hu, hs⟩
    obtain ⟨kd1, kd2, kd3, kd4, kd5, kd6, kd7, kd8, rfl⟩ := hu.shape
    exact hK.out _ W2 (Keeps.steps hs) ⟨below_steps j0 (Nat.le_refl _) hs, jk.then_ hs, Nat.le_trans jn hs.size, b_a.steps hs, b_b.steps hs, b_i.steps hs, b_j.steps hs, b_r.steps hs, fun q0 => ((b_v14_0 q0)).steps hs, fun q0 => by obtain ⟨d_16, y16_1, y16_5, y16_2, y16_6, y16_3, y16_7, y16_4, y16_8, e_16, hb⟩ := b_v14_1 q0; exact ⟨d_16, _, _, _, _, _, _, _, _, e_16, (hb).steps hs⟩⟩ hu ⟨_, _, _, _, _, _, _, _, rfl⟩
  rintro _ ⟨kd1, kd2, kd3, kd4, kd5, kd6, kd7, kd8, rfl⟩
  refine Reg.RC_at (b := ⟨#[_,_,_,_,_,_,_,_,_,_,_,_,_,_,_,_,_,_,_,_,_,_,_,_,_,_,_,_,_,_,_,_,_,_,_,_,_,_,_,_,_,_,_,_,_,_,_,_,_,_,_,_,_,_,_,_,_,_,_,_,_,_,_,_,_,_,_,_,_,_,_,_,_,_,_,_,_,_,_,_,_,_,_,_,_,_,_,_,_,_,_,_,_,_,_,_,_,_,_,_,_,_,_,_,_], _⟩) rfl ?_
  apply Reg.RC_pure (hc := rfl) (hst := rfl) (hw := rfl) (t := 89) (hd := rfl) (ht := Nat.le_of_ble_eq_true rfl)
  · intro D v' W' hc hj hf K hK
    go_step
    exact hK.out
  · rfl
  apply Reg.RC_pure (hc := rfl) (hst := rfl) (hw := rfl) (t := 90) (hd := rfl) (ht := Nat.le_of_ble_eq_true rfl)
  · intro D v' W' hc hj hf K hK
    obtain ⟨j0, jk, jn, b_a, b_b, b_i, b_j, b_r, b_v14_0, b_v14_1⟩ := hj
    have b_v14 := b_v14_0 (hc.2 18 (by decide))
    have c4 : W'.cell? ⟨w1.heap.size, 4, none⟩ = some (.bool gg1) := b_v14.c 4 rfl
    have c5 : W'.cell? ⟨w1.heap.size, 5, none⟩ = some (.slice gg2 gg3 gg4) := b_v14.c 5 rfl
    have c6 : W'.cell? ⟨w1.heap.size, 6, none⟩ = some (.bool gg5) := b_v14.c 6 rfl
    have c7 : W'.cell? ⟨w1.heap.size, 7, none⟩ = some (.slice gg6 gg7 gg8) := b_v14.c 7 rfl
    go_step
    exact hK.out
  · rfl
  apply Reg.RC_pure (hc := rfl) (hst := rfl) (hw := rfl) (t := 91) (hd := rfl) (ht := Nat.le_of_ble_eq_true rfl)
  · intro D v' W' hc hj hf K hK
    go_step
    exact hK.out
  · rfl
  apply Reg.RC_pure (hc := rfl) (hst := rfl) (hw := rfl) (t := 92) (hd := rfl) (ht := Nat.le_of_ble_eq_true rfl)
  · intro D v' W' hc hj hf K hK
    obtain ⟨j0, jk, jn, b_a, b_b, b_i, b_j, b_r, b_v14_0, b_v14_1⟩ := hj
    have c0 : W'.cell? ⟨w.heap.size, 0, none⟩ = some (.int .i64 ax) := b_a.c 0 rfl
    go_step
    exact hK.out
  · rfl
  refine Reg.RC_call rfl (by intro t ht; cases ht; exact Nat.le_of_ble_eq_true rfl) rfl (fun D v' W' hc hj hf K hK => ?_) ?_
  · obtain ⟨j0, jk, jn, b_a, b_b, b_i, b_j, b_r, b_v14_0, b_v14_1⟩ := hj
    clear hf
    go_step
    refine (of_ax W').mono ?_
    rintro e W2 ⟨u, rfl, hu, hs⟩
    obtain ⟨ke1, ke2, ke3, ke4, ke5, ke6, ke7, ke8, rfl⟩ := hu.shape
    exact hK.out _ W2 (Keeps.steps hs) ⟨below_steps j0 (Nat.le_refl _) hs, jk.then_ hs, Nat.le_trans jn hs.size, b_a.steps hs, b_b.steps hs, b_i.steps hs, b_j.steps hs, b_r.steps hs, fun q0 => ((b_v14_0 q0)).steps hs, fun q0 => by obtain ⟨d_16, y16_1, y16_5, y16_2, y16_6, y16_3, y16_7, y16_4, y16_8, e_16, hb⟩ := b_v14_1 q0; exact ⟨d_16, _, _, _, _, _, _, _, _, e_16, (hb).steps hs⟩⟩ hu ⟨_, _, _, _, _, _, _, _, rfl⟩
  rintro _ ⟨ke1, ke2, ke3, ke4, ke5, ke6, ke7, ke8, rfl⟩
  refine Reg.RC_at (b := ⟨#[_,_,_,_,_,_,_,_,_,_,_,_,_,_,_,_,_,_,_,_,_,_,_,_,_,_,_,_,_,_,_,_,_,_,_,_,_,_,_,_,_,_,_,_,_,_,_,_,_,_,_,_,_,_,_,_,_,_,_,_,_,_,_,_,_,_,_,_,_,_,_,_,_,_,_,_,_,_,_,_,_,_,_,_,_,_,_,_,_,_,_,_,_,_,_,_,_,_,_,_,_,_,_,_,_], _⟩) rfl ?_
  refine Reg.RC_call rfl (by intro t ht; cases ht; exact Nat.le_of_ble_eq_true rfl) rfl (fun D v' W' hc hj hf K hK => ?_) ?_
  · obtain ⟨j0, jk, jn, b_a, b_b, b_i, b_j, b_r, b_v14_0, b_v14_1⟩ := hj
    have g7 : GFr (aX) _ W' := (hf (7, some 93) (.head _) rfl).2.2
    have g7 : FR W' _ (aX) := g7
    clear hf
    go_step
    refine (prmul W' (Fgg.out.keeps jk) g7 z1 sa1 (by omega)).mono ?_
    rintro e W2 ⟨u, rfl, hu, hs⟩
    obtain ⟨xe1, xe2, xe3, xe4, xe5, xe6, xe7, xe8, rfl⟩ := hu.shape
    exact hK.out _ W2 (Keeps.steps hs) ⟨below_steps j0 (Nat.le_refl _) hs, jk.then_ hs, Nat.le_trans jn hs.size, b_a.steps hs, b_b.steps hs, b_i.steps hs, b_j.steps hs, b_r.steps hs, fun q0 => ((b_v14_0 q0)).steps hs, fun q0 => by obtain ⟨d_16, y16_1, y16_5, y16_2, y16_6, y16_3, y16_7, y16_4, y16_8, e_16, hb⟩ := b_v14_1 q0; exact ⟨d_16, _, _, _, _, _, _, _, _, e_16, (hb).steps hs⟩⟩ hu ⟨_, _, _, _, _, _, _, _, rfl⟩
  rintro _ ⟨xe1, xe2, xe3, xe4, xe5, xe6, xe7, xe8, rfl⟩
  refine Reg.RC_at (b := ⟨#[_,_,_,_,_,_,_,_,_,_,_,_,_,_,_,_,_,_,_,_,_,_,_,_,_,_,_,_,_,_,_,_,_,_,_,_,_,_,_,_,_,_,_,_,_,_,_,_,_,_,_,_,_,_,_,_,_,_,_,_,_,_,_,_,_,_,_,_,_,_,_,_,_,_,_,_,_,_,_,_,_,_,_,_,_,_,_,_,_,_,_,_,_,_,_,_,_,_,_,_,_,_,_,_,_], _⟩) rfl ?_
  refine Reg.RC_call rfl (by intro t ht; cases ht; exact Nat.le_of_ble_eq_true rfl) rfl (fun D v' W' hc hj hf K hK => ?_) ?_
  · obtain ⟨j0, jk, jn, b_a, b_b, b_i, b_j, b_r, b_v14_0, b_v14_1⟩ := hj
    have g2 : GFr (pY) _ W' := (hf (2, some 88) (.head _) rfl).2.2
    have g2 : FR W' _ (pY) := g2
    have g8 : GFr ((rb * aX)) _ W' := (hf (8, some 94) (.tail _ (.head _)) rfl).2.2
    have g8 : FR W' _ ((rb * aX)) := g8
    clear hf
    go_step
    refine (prsub W' g2 g8 sp2 (z1.mul sa1) (by omega)).mono ?_
    rintro e W2 ⟨u, rfl, hu, hs⟩
    obtain ⟨xf1, xf2, xf3, xf4, xf5, xf6, xf7, xf8, rfl⟩ := hu.shape
    exact hK.out _ W2 (Keeps.steps hs) ⟨below_steps j0 (Nat.le_refl _) hs, jk.then_ hs, Nat.le_trans jn hs.size, b_a.steps hs, b_b.steps hs, b_i.steps hs, b_j.steps hs, b_r.steps hs, fun q0 => ((b_v14_0 q0)).steps hs, fun q0 => by obtain ⟨d_16, y16_1, y16_5, y16_2, y16_6, y16_3, y16_7, y16_4, y16_8, e_16, hb⟩ := b_v14_1 q0; exact ⟨d_16, _, _, _, _, _, _, _, _, e_16, (hb).steps hs⟩⟩ hu ⟨_, _, _, _, _, _, _, _, rfl⟩
  rintro _ ⟨xf1, xf2, xf3, xf4, xf5, xf6, xf7, xf8, rfl⟩
  refine Reg.RC_at (b := ⟨#[_,_,_,_,_,_,_,_,_,_,_,_,_,_,_,_,_,_,_,_,_,_,_,_,_,_,_,_,_,_,_,_,_,_,_,_,_,_,_,_,_,_,_,_,_,_,_,_,_,_,_,_,_,_,_,_,_,_,_,_,_,_,_,_,_,_,_,_,_,_,_,_,_,_,_,_,_,_,_,_,_,_,_,_,_,_,_,_,_,_,_,_,_,_,_,_,_,_,_,_,_,_,_,_,_], _⟩) rfl ?_
  apply Reg.RC_pure (hc := rfl) (hst := rfl) (hw := rfl) (t := 96) (hd := rfl) (ht := Nat.le_of_ble_eq_true rfl)
  · intro D v' W' hc hj hf K hK
    go_step
    exact hK.out
  · rfl
  apply Reg.RC_pure (hc := rfl) (hst := rfl) (hw := rfl) (t := 97) (hd := rfl) (ht := Nat.le_of_ble_eq_true rfl)
  · intro D v' W' hc hj hf K hK
    obtain ⟨j0, jk, jn, b_a, b_b, b_i, b_j, b_r, b_v14_0, b_v14_1⟩ := hj
    have b_v14 := b_v14_0 (hc.2 18 (by decide))
    have c0 : W'.cell? ⟨w1.heap.size, 0, none⟩ = some (.bool ee1) := b_v14.c 0 rfl
    have c1 : W'.cell? ⟨w1.heap.size, 1, none⟩ = some (.slice ee2 ee3 ee4) := b_v14.c 1 rfl
    have c2 : W'.cell? ⟨w1.heap.size, 2, none⟩ = some (.bool ee5) := b_v14.c 2 rfl
    have c3 : W'.cell? ⟨w1.heap.size, 3, none⟩ = some (.slice ee6 ee7 ee8) := b_v14.c 3 rfl
    go_step
    exact hK.out
  · rfl
  apply Reg.RC_pure (hc := rfl) (hst := rfl) (hw := rfl) (t := 98) (hd := rfl) (ht := Nat.le_of_ble_eq_true rfl)
  · intro D v' W' hc hj hf K hK
    go_step
    exact hK.out
  · rfl
  apply Reg.RC_pure (hc := rfl) (hst := rfl) (hw := rfl) (t := 99) (hd := rfl) (ht := Nat.le_of_ble_eq_true rfl)
  · intro D v' W' hc hj hf K hK
    obtain ⟨j0, jk, jn, b_a, b_b, b_i, b_j, b_r, b_v14_0, b_v14_1⟩ := hj
    have c1 : W'.cell? ⟨w.heap.size, 1, none⟩ = some (.int .i64 ay) := b_a.c 1 rfl
    go_step
    exact hK.out
  · rfl
  refine Reg.RC_call rfl (by intro t ht; cases ht; exact Nat.le_of_ble_eq_true rfl) rfl (fun D v' W' hc hj hf K hK => ?_) ?_
  · obtain ⟨j0, jk, jn, b_a, b_b, b_i, b_j, b_r, b_v14_0, b_v14_1⟩ := hj
    clear hf
    go_step
    refine (of_ay W').mono ?_
    rintro e W2 ⟨u, rfl, hu, hs⟩
    obtain ⟨kf1, kf2, kf3, kf4, kf5, kf6, kf7, kf8, rfl⟩ := hu.shape
    exact hK.out _ W2 (Keeps.steps hs) ⟨below_steps j0 (Nat.le_refl _) hs, jk.then_ hs, Nat.le_trans jn hs.size, b_a.steps hs, b_b.steps hs, b_i.steps hs, b_j.steps hs, b_r.steps hs, fun q0 => ((b_v14_0 q0)).steps hs, fun q0 => by obtain ⟨d_16, y16_1, y16_5, y16_2, y16_6, y16_3, y16_7, y16_4, y16_8, e_16, hb⟩ := b_v14_1 q0; exact ⟨d_16, _, _, _, _, _, _, _, _, e_16, (hb).steps hs⟩⟩ hu ⟨_, _, _, _, _, _, _, _, rfl⟩
  rintro _ ⟨kf1, kf2, kf3, kf4, kf5, kf6, kf7, kf8, rfl⟩
  refine Reg.RC_at (b := ⟨#[_,_,_,_,_,_,_,_,_,_,_,_,_,_,_,_,_,_,_,_,_,_,_,_,_,_,_,_,_,_,_,_,_,_,_,_,_,_,_,_,_,_,_,_,_,_,_,_,_,_,_,_,_,_,_,_,_,_,_,_,_,_,_,_,_,_,_,_,_,_,_,_,_,_,_,_,_,_,_,_,_,_,_,_,_,_,_,_,_,_,_,_,_,_,_,_,_,_,_,_,_,_,_,_,_], _⟩) rfl ?_
  refine Reg.RC_call rfl (by intro t ht; cases ht; exact Nat.le_of_ble_eq_true rfl) rfl (fun D v' W' hc hj hf K hK => ?_) ?_
  · obtain ⟨j0, jk, jn, b_a, b_b, b_i, b_j, b_r, b_v14_0, b_v14_1⟩ := hj
    have g14 : GFr (aY) _ W' := (hf (14, some 100) (.head _) rfl).2.2
    have g14 : FR W' _ (aY) := g14
    clear hf
    go_step
    refine (prmul W' (Fee.out.keeps jk) g14 z0 sa2 (by omega)).mono ?_
    rintro e W2 ⟨u, rfl, hu, hs⟩
    obtain ⟨xg1, xg2, xg3, xg4, xg5, xg6, xg7, xg8, rfl⟩ := hu.shape
    exact hK.out _ W2 (Keeps.steps hs) ⟨below_steps j0 (Nat.le_refl _) hs, jk.then_ hs, Nat.le_trans jn hs.size, b_a.steps hs, b_b.steps hs, b_i.steps hs, b_j.steps hs, b_r.steps hs, fun q0 => ((b_v14_0 q0)).steps hs, fun q0 => by obtain ⟨d_16, y16_1, y16_5, y16_2, y16_6, y16_3, y16_7, y16_4, y16_8, e_16, hb⟩ := b_v14_1 q0; exact ⟨d_16, _, _, _, _, _, _, _, _, e_16, (hb).steps hs⟩⟩ hu ⟨_, _, _, _, _, _, _, _, rfl⟩
  rintro _ ⟨xg1, xg2, xg3, xg4, xg5, xg6, xg7, xg8, rfl⟩
  refine Reg.RC_at (b := ⟨#[_,_,_,_,_,_,_,_,_,_,_,_,_,_,_,_,_,_,_,_,_,_,_,_,_,_,_,_,_,_,_,_,_,_,_,_,_,_,_,_,_,_,_,_,_,_,_,_,_,_,_,_,_,_,_,_,_,_,_,_,_,_,_,_,_,_,_,_,_,_,_,_,_,_,_,_,_,_,_,_,_,_,_,_,_,_,_,_,_,_,_,_,_,_,_,_,_,_,_,_,_,_,_,_,_], _⟩) rfl ?_
  refine Reg.RC_call rfl (by intro t ht; cases ht; exact Nat.le_of_ble_eq_true rfl) rfl (fun D v' W' hc hj hf K hK => ?_) ?_
  · obtain ⟨j0, jk, jn, b_a, b_b, b_i, b_j, b_r, b_v14_0, b_v14_1⟩ := hj
    have g9 : GFr ((pY - (rb * aX))) _ W' := (hf (9, some 95) (.head _) rfl).2.2
    have g9 : FR W' _ ((pY - (rb * aX))) := g9
    have g15 : GFr ((ra * aY)) _ W' := (hf (15, some 101) (.tail _ (.head _)) rfl).2.2
    have g15 : FR W' _ ((ra * aY)) := g15
    clear hf
    go_step
    refine (prsub W' g9 g15 (sp2.sub (z1.mul sa1)) (z0.mul sa2) (by omega)).mono ?_
    rintro e W2 ⟨u, rfl, hu, hs⟩
    obtain ⟨xh1, xh2, xh3, xh4, xh5, xh6, xh7, xh8, rfl⟩ := hu.shape
    exact hK.out _ W2 (Keeps.steps hs) ⟨below_steps j0 (Nat.le_refl _) hs, jk.then_ hs, Nat.le_trans jn hs.size, b_a.steps hs, b_b.steps hs, b_i.steps hs, b_j.steps hs, b_r.steps hs, fun q0 => ((b_v14_0 q0)).steps hs, fun q0 => Bool.noConfusion ((hc.2 18 (by decide)).symm.trans q0)⟩ hu ⟨_, _, _, _, _, _, _, _, rfl⟩
  rintro _ ⟨xh1, xh2, xh3, xh4, xh5, xh6, xh7, xh8, rfl⟩
  refine Reg.RC_at (b := ⟨#[_,_,_,_,_,_,_,_,_,_,_,_,_,_,_,_,_,_,_,_,_,_,_,_,_,_,_,_,_,_,_,_,_,_,_,_,_,_,_,_,_,_,_,_,_,_,_,_,_,_,_,_,_,_,_,_,_,_,_,_,_,_,_,_,_,_,_,_,_,_,_,_,_,_,_,_,_,_,_,_,_,_,_,_,_,_,_,_,_,_,_,_,_,_,_,_,_,_,_,_,_,_,_,_,_], _⟩) rfl ?_
  apply Reg.RC_pure (hc := rfl) (hst := rfl) (hw := rfl) (t := 103) (hd := rfl) (ht := Nat.le_of_ble_eq_true rfl)
  · intro D v' W' hc hj hf K hK
    go_step
    exact hK.out
  · rfl
  refine Reg.RC_call rfl (by intro t ht; cases ht) rfl (fun D v' W' hc hj hf K hK => ?_) (fun _ _ => Reg.RC_at (b := ⟨_, _⟩) rfl ?_)
  · obtain ⟨j0, jk, jn, b_a, b_b, b_i, b_j, b_r, b_v14_0, b_v14_1⟩ := hj
    have e2 : w.heap.size ≤ w1.heap.size := by omega
    have fc := hf (16, some 102) (.head _) rfl
    have ec : v' 16 = .agg #[.bool xh1, .slice xh2 xh3 xh4, .bool xh5, .slice xh6 xh7 xh8] := fc.2.1
    have cc0 : W'.cell? ⟨w1.heap.size, 12, none⟩ = some (.bool false) := (b_v14_0 hc.1).c 12 rfl
    have cc1 : W'.cell? ⟨w1.heap.size, 13, none⟩ = some (.slice none 0 0) := (b_v14_0 hc.1).c 13 rfl
    have cc2 : W'.cell? ⟨w1.heap.size, 14, none⟩ = some (.bool false) := (b_v14_0 hc.1).c 14 rfl
    have cc3 : W'.cell? ⟨w1.heap.size, 15, none⟩ = some (.slice none 0 0) := (b_v14_0 hc.1).c 15 rfl
    have ff : ∀ j, W'.frozen? ⟨w1.heap.size, j, none⟩ = false := (b_v14_0 hc.1).fr
    have kp : Keeps W' ((((W'.setCell ⟨w1.heap.size, 12, none⟩ (.bool xh1)).setCell ⟨w1.heap.size, 13, none⟩ (.slice xh2 xh3 xh4)).setCell ⟨w1.heap.size, 14, none⟩ (.bool xh5)).setCell ⟨w1.heap.size, 15, none⟩ (.slice xh6 xh7 xh8)) := (keeps4 (b_v14_0 hc.1) rfl)
    go_step
    exact hK.out undef _ kp ⟨(below4 j0 (by show w.heap.size ≤ w1.heap.size; omega)), jk.trans kp, by simpa using jn, (b_a).far4 (show w.heap.size ≠ w1.heap.size by omega), (b_b).far4 (show w.heap.size + 1 ≠ w1.heap.size by omega), (b_i).far4 (show w.heap.size + 1 + 1 ≠ w1.heap.size by omega), (b_j).far4 (show w.heap.size + 1 + 1 + 1 ≠ w1.heap.size by omega), (b_r).far4 (show w.heap.size + 1 + 1 + 1 + 1 ≠ w1.heap.size by omega), fun q0 => Bool.noConfusion q0, fun q0 => by have hb := b_v14_0 hc.1; exact ⟨fc.1, _, _, _, _, _, _, _, _, ec, (Blk.set2 (cs' := #[.bool ee1, .slice ee2 ee3 ee4, .bool ee5, .slice ee6 ee7 ee8, .bool gg1, .slice gg2 gg3 gg4, .bool gg5, .slice gg6 gg7 gg8, .bool xd1, .slice xd2 xd3 xd4, .bool xd5, .slice xd6 xd7 xd8, .bool xh1, .slice xh2 xh3 xh4, .bool xh5, .slice xh6 xh7 xh8]) (Blk.set2 (cs' := #[.bool ee1, .slice ee2 ee3 ee4, .bool ee5, .slice ee6 ee7 ee8, .bool gg1, .slice gg2 gg3 gg4, .bool gg5, .slice gg6 gg7 gg8, .bool xd1, .slice xd2 xd3 xd4, .bool xd5, .slice xd6 xd7 xd8, .bool xh1, .slice xh2 xh3 xh4, .bool xh5, .slice none 0 0]) (Blk.set2 (cs' := #[.bool ee1, .slice ee2 ee3 ee4, .bool ee5, .slice ee6 ee7 ee8, .bool gg1, .slice gg2 gg3 gg4, .bool gg5, .slice gg6 gg7 gg8, .bool xd1, .slice xd2 xd3 xd4, .bool xd5, .slice xd6 xd7 xd8, .bool xh1, .slice xh2 xh3 xh4, .bool false, .slice none 0 0]) (Blk.set2 (cs' := #[.bool ee1, .slice ee2 ee3 ee4, .bool ee5, .slice ee6 ee7 ee8, .bool gg1, .slice gg2 gg3 gg4, .bool gg5, .slice gg6 gg7 gg8, .bool xd1, .slice xd2 xd3 xd4, .bool xd5, .slice xd6 xd7 xd8, .bool xh1, .slice none 0 0, .bool false, .slice none 0 0]) hb (i := 12) rfl) (i := 13) rfl) (i := 14) rfl) (i := 15) rfl)⟩⟩ trivial trivial
  refine Reg.RC_end (fun Dn v' w5 hd hj hf => ?_)
  obtain ⟨j0, jk, jn, b_a, b_b, b_i, b_j, b_r, b_v14_0, b_v14_1⟩ := hj
  have B := j0
  have oa := b_a
  clear b_a
  have ob := b_b
  clear b_b
  have oi := b_i
  clear b_i
  have oj := b_j
  clear b_j
  have or := b_r
  clear b_r
  obtain ⟨dd_16, y16_1, y16_5, y16_2, y16_6, y16_3, y16_7, y16_4, y16_8, ee_16, ov14⟩ := b_v14_1 (hd 18 (Nat.le_of_ble_eq_true rfl))
  have ef : v' 16 = .agg #[.bool xh1, .slice xh2 xh3 xh4, .bool xh5, .slice xh6 xh7 xh8] := (hf (16, some 102) (.tail _ (.tail _ (.tail _ (.tail _ (.tail _ (.tail _ (.head _))))))) rfl).2.1
  have eq_ := ef.symm.trans ee_16
  simp only [Value.tuple.injEq, Value.agg.injEq, Array.mk.injEq, List.cons.injEq, Value.bool.injEq, Value.slice.injEq, and_true, true_and] at eq_
  obtain ⟨rfl, ⟨rfl, rfl, rfl⟩, rfl, ⟨rfl, rfl, rfl⟩⟩ := eq_
  clear ef ee_16 dd_16
  clear b_v14_0 b_v14_1
  have Fxh : Hid (FR w5 (.agg #[.bool xh1, .slice xh2 xh3 xh4, .bool xh5, .slice xh6 xh7 xh8]) (((pY - (rb * aX)) - (ra * aY)))) := (hf (16, some 102) (.tail _ (.tail _ (.tail _ (.tail _ (.tail _ (.tail _ (.head _))))))) rfl).2.2
  replace Fee := Hid.mk_ (Fee.out.keeps jk)
  replace Fgg := Hid.mk_ (Fgg.out.keeps jk)
  replace Fxd := Hid.mk_ (Fxd.out.keeps jk)
  clear hd hf jk j0
  refine hQ _ _ ?_
  clear hQ hops Q' ops'
  go_wp2_with (first
    | ((with_reducible show wpList _ _ _ (⟨some 104, _, _, _, _, _⟩ :: _) _ _)
       refine load_big rfl 30 (.tmp 14) rfl (w1.heap.size) rfl 30 #[.bool ee1, .slice ee2 ee3 ee4, .bool ee5, .slice ee6 ee7 ee8, .bool gg1, .slice gg2 gg3 gg4, .bool gg5, .slice gg6 gg7 gg8, .bool xd1, .slice xd2 xd3 xd4, .bool xd5, .slice xd6 xd7 xd8, .bool xh1, .slice xh2 xh3 xh4, .bool xh5, .slice xh6 xh7 xh8] _ ownK Tryz.underlying30 rfl (by kernel_rfl) ?_
       skip)
    | ((with_reducible show wpList _ _ _ (⟨none, .store _ _ _, _, _, _, _⟩ :: _) _ _)
       refine store_big rfl 30 (.tmp 8) (.tmp 104) rfl (w.heap.size + 1 + 1 + 1 + 1) #[.bool ee1, .slice ee2 ee3 ee4, .bool ee5, .slice ee6 ee7 ee8, .bool gg1, .slice gg2 gg3 gg4, .bool gg5, .slice gg6 gg7 gg8, .bool xd1, .slice xd2 xd3 xd4, .bool xd5, .slice xd6 xd7 xd8, .bool xh1, .slice xh2 xh3 xh4, .bool xh5, .slice xh6 xh7 xh8] rfl rfl 30 #[.bool false, .slice none 0 0, .bool false, .slice none 0 0, .bool false, .slice none 0 0, .bool false, .slice none 0 0, .bool false, .slice none 0 0, .bool false, .slice none 0 0, .bool false, .slice none 0 0, .bool false, .slice none 0 0] ownK (by kernel_rfl) rfl (by simp [Value.oneCell']) (fun w6 hrow => ?_)
       have Bn : Below w.heap.size w w6 := hrow.below belowB (by omega)
       have kp : Keeps w5 w6 := Keeps.trans keepsB (hrow.keeps rfl)
       have na : Blk w6 (w.heap.size) 23 #[.int .i64 ax, .int .i64 ay] := hrow.far ownK (show w.heap.size ≠ w.heap.size + 1 + 1 + 1 + 1 by omega)
       have nb : Blk w6 (w.heap.size + 1) 23 #[.int .i64 bx, .int .i64 b_y] := hrow.far ownK (show w.heap.size + 1 ≠ w.heap.size + 1 + 1 + 1 + 1 by omega)
       have ni : Blk w6 (w.heap.size + 1 + 1) 23 #[.int .i64 px, .int .i64 py] := hrow.far ownK (show w.heap.size + 1 + 1 ≠ w.heap.size + 1 + 1 + 1 + 1 by omega)
       have nj : Blk w6 (w.heap.size + 1 + 1 + 1) 23 #[.int .i64 qx, .int .i64 qy] := hrow.far ownK (show w.heap.size + 1 + 1 + 1 ≠ w.heap.size + 1 + 1 + 1 + 1 by omega)
       have nr : Blk w6 (w.heap.size + 1 + 1 + 1 + 1) 30 #[.bool ee1, .slice ee2 ee3 ee4, .bool ee5, .slice ee6 ee7 ee8, .bool gg1, .slice gg2 gg3 gg4, .bool gg5, .slice gg6 gg7 gg8, .bool xd1, .slice xd2 xd3 xd4, .bool xd5, .slice xd6 xd7 xd8, .bool xh1, .slice xh2 xh3 xh4, .bool xh5, .slice xh6 xh7 xh8] := hrow.blk
       have nv14 : Blk w6 (w1.heap.size) 30 #[.bool ee1, .slice ee2 ee3 ee4, .bool ee5, .slice ee6 ee7 ee8, .bool gg1, .slice gg2 gg3 gg4, .bool gg5, .slice gg6 gg7 gg8, .bool xd1, .slice xd2 xd3 xd4, .bool xd5, .slice xd6 xd7 xd8, .bool xh1, .slice xh2 xh3 xh4, .bool xh5, .slice xh6 xh7 xh8] := hrow.far ownK (show w1.heap.size ≠ w.heap.size + 1 + 1 + 1 + 1 by omega)
       replace B := Bn
       clear Bn hrow
       replace oa := na
       clear na
       replace ob := nb
       clear nb
       replace oi := ni
       clear ni
       replace oj := nj
       clear nj
       replace or := nr
       clear nr
       replace ov14 := nv14
       clear nv14
       replace Fee := Hid.mk_ (Fee.out.keeps kp)
       replace Fgg := Hid.mk_ (Fgg.out.keeps kp)
       replace Fxd := Hid.mk_ (Fxd.out.keeps kp)
       replace Fxh := Hid.mk_ (Fxh.out.keeps kp)
       clear kp
       skip)
    )
  skip
  refine bodyPost_ret (results_row1 rfl _ _ (w.heap.size + 1 + 1 + 1 + 1) rfl (cs := #[.bool ee1, .slice ee2 ee3 ee4, .bool ee5, .slice ee6 ee7 ee8, .bool gg1, .slice gg2 gg3 gg4, .bool gg5, .slice gg6 gg7 gg8, .bool xd1, .slice xd2 xd3 xd4, .bool xd5, .slice xd6 xd7 xd8, .bool xh1, .slice xh2 xh3 xh4, .bool xh5, .slice xh6 xh7 xh8]) ownK Tryz.underlying30 rfl (by kernel_rfl)) rfl ?_
  exact ⟨_, rfl, ⟨_, _, _, _, _, _, _, _, _, _, _, _, _, _, _, _, _, _, _, _, _, _, _, _, _, _, _, _, _, _, _, _, rfl, by rw [HT.out.1]; exact Fee.out.keeps keepsB, by rw [HT.out.2.1]; exact Fgg.out.keeps keepsB, by rw [HT.out.2.2.1]; exact Fxd.out.keeps keepsB, by rw [HT.out.2.2.2]; exact Fxh.out.keeps keepsB⟩, belowB⟩
end Go.Proofs.YtffmbepfbienaaaGreat
