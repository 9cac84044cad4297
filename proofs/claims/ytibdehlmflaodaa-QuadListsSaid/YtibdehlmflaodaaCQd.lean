import Derived.Test.YtibdehlmflaodaaCQc
import Derived.Test.YtibdehlmflaodaaCQm
import Derived.LoopN
namespace Go.Proofs.Ytibdehlmflaodaa
open Go.RowKit
structure At4 (w : World) (v : Value) (l : List (Int × Int)) (k0 k1 k2 k3 : Nat) (p0 p1 p2 p3 : Int × Int) : Prop where
  pts : Pts w v l
  lt : k0 < l.length ∧ k1 < l.length ∧ k2 < l.length ∧ k3 < l.length
  eq : l.getD k0 (0, 0) = p0 ∧ l.getD k1 (0, 0) = p1 ∧ l.getD k2 (0, 0) = p2 ∧ l.getD k3 (0, 0) = p3
def okp (x y : Int) : Prop := -1048576 ≤ x ∧ x ≤ 1048576 ∧ -1048576 ≤ y ∧ y ≤ 1048576
theorem okp_sm {x y z u : Int} (h : okp x y) (k : okp z u) : sm (x - z) (y - u) := by unfold okp at *; unfold sm; omega
theorem okp_sm0 {x y : Int} (h : okp x y) : sm x y := by unfold okp at *; unfold sm; omega
set_option maxHeartbeats 6400000 in
set_option maxRecDepth 1000000 in
theorem qarrange {v : Value} {l : List (Int × Int)} (k0 k1 k2 k3 : Nat) (x0 y0 x1 y1 x2 y2 x3 y3 : Int) (w : World) (h : At4 w v l k0 k1 k2 k3 (x0, y0) (x1, y1) (x2, y2) (x3, y3)) (p0 : okp x0 y0) (p1 : okp x1 y1) (p2 : okp x2 y2) (p3 : okp x3 y3) :
    Calls Try.prog 57 #[v, .agg #[.int .i64 k0, .int .i64 k1, .int .i64 k2, .int .i64 k3]] w fun e w' => e = .returned (.agg #[.int .i64 k0, .int .i64 k1, .int .i64 k2, .int .i64 k3,
      .int .i64 (cre (x1 - x0) (y1 - y0) (x2 - x0) (y2 - y0)), .int .i64 (cim (x1 - x0) (y1 - y0) (x2 - x0) (y2 - y0)), .int .i64 (cre (x1 - x0) (y1 - y0) (x3 - x0) (y3 - y0)), .int .i64 (cim (x1 - x0) (y1 - y0) (x3 - x0) (y3 - y0)), .int .i64 (csq (x1 - x0) (y1 - y0))]) ∧ Steps w w' := by
  obtain ⟨hp, ⟨h0, h1, h2, h3⟩, e0, e1, e2, e3⟩ := h
  obtain ⟨ao, cap, rfl⟩ := hp.shape
  obtain ⟨-, hc, hm⟩ := hp.cells
  obtain ⟨b, o, rfl, hb, hcell⟩ := hm (by omega)
  have c00 := (hcell k0 h0).1
  have c01 := (hcell k0 h0).2
  have c10 := (hcell k1 h1).1
  have c11 := (hcell k1 h1).2
  have c20 := (hcell k2 h2).1
  have c21 := (hcell k2 h2).2
  have c30 := (hcell k3 h3).1
  have c31 := (hcell k3 h3).2
  rw [e0] at c00 c01
  rw [e1] at c10 c11
  rw [e2] at c20 c21
  rw [e3] at c30 c31
  dsimp only at c00 c01 c10 c11 c20 c21 c30 c31
  obtain ⟨n, hn⟩ : ∃ n, l.length = n := ⟨_, rfl⟩
  rw [hn] at hc h0 h1 h2 h3 ⊢
  clear hp hm hcell e0 e1 e2 e3 hn
  have m1 := fun w' => qminus x1 y1 x0 y0 w' (okp_sm0 p1) (okp_sm0 p0)
  have m2 := fun w' => qminus x2 y2 x0 y0 w' (okp_sm0 p2) (okp_sm0 p0)
  have m3 := fun w' => qminus x3 y3 x0 y0 w' (okp_sm0 p3) (okp_sm0 p0)
  have s1 := okp_sm p1 p0
  have s2 := okp_sm p2 p0
  have s3 := okp_sm p3 p0
  obtain ⟨ux, hux⟩ : ∃ z, x1 - x0 = z := ⟨_, rfl⟩
  obtain ⟨uy, huy⟩ : ∃ z, y1 - y0 = z := ⟨_, rfl⟩
  obtain ⟨ax, hax⟩ : ∃ z, x2 - x0 = z := ⟨_, rfl⟩
  obtain ⟨ay, hay⟩ : ∃ z, y2 - y0 = z := ⟨_, rfl⟩
  obtain ⟨bx, hbx⟩ : ∃ z, x3 - x0 = z := ⟨_, rfl⟩
  obtain ⟨by_, hby⟩ : ∃ z, y3 - y0 = z := ⟨_, rfl⟩
  rw [hux, huy] at m1 s1
  rw [hax, hay] at m2 s2
  rw [hbx, hby] at m3 s3
  rw [hux, huy, hax, hay, hbx, hby]
  have j2 : ∀ w', Calls Try.prog 86 #[.agg #[.int .i64 ax, .int .i64 ay], .agg #[.int .i64 ux, .int .i64 uy]] w' fun e w2 => e = .returned (.agg #[.int .i64 (cre ux uy ax ay), .int .i64 (cim ux uy ax ay)]) ∧ Steps w' w2 := fun w' => qconj ax ay ux uy w' s2 s1
  have j3 : ∀ w', Calls Try.prog 86 #[.agg #[.int .i64 bx, .int .i64 by_], .agg #[.int .i64 ux, .int .i64 uy]] w' fun e w2 => e = .returned (.agg #[.int .i64 (cre ux uy bx by_), .int .i64 (cim ux uy bx by_)]) ∧ Steps w' w2 := fun w' => qconj bx by_ ux uy w' s3 s1
  have sq : ∀ w', Calls Try.prog 87 #[.agg #[.int .i64 ux, .int .i64 uy]] w' fun e w2 => e = .returned (.int .i64 (csq ux uy)) ∧ Steps w' w2 := fun w' => qsquare ux uy w' s1
  obtain ⟨A1, hA1⟩ : ∃ z, cre ux uy ax ay = z := ⟨_, rfl⟩
  obtain ⟨A2, hA2⟩ : ∃ z, cim ux uy ax ay = z := ⟨_, rfl⟩
  obtain ⟨B1, hB1⟩ : ∃ z, cre ux uy bx by_ = z := ⟨_, rfl⟩
  obtain ⟨B2, hB2⟩ : ∃ z, cim ux uy bx by_ = z := ⟨_, rfl⟩
  obtain ⟨N_, hN⟩ : ∃ z, csq ux uy = z := ⟨_, rfl⟩
  rw [hA1, hA2] at j2
  rw [hB1, hB2] at j3
  rw [hN] at sq
  rw [hA1, hA2, hB1, hB2, hN]
  clear hux huy hax hay hbx hby s1 s2 s3 hA1 hA2 hB1 hB2 hN p0 p1 p2 p3
  have ix0 : ∀ w' : World, (Instr.index 23 (.agg #[.int .i64 (k0 : Int), .int .i64 (k1 : Int), .int .i64 (k2 : Int), .int .i64 (k3 : Int)]) (.int .i64 0)).run Try.prog w' = .ok (.int .i64 (k0 : Int)) w' := fun w' => by kernel_rfl
  have ix1 : ∀ w' : World, (Instr.index 23 (.agg #[.int .i64 (k0 : Int), .int .i64 (k1 : Int), .int .i64 (k2 : Int), .int .i64 (k3 : Int)]) (.int .i64 1)).run Try.prog w' = .ok (.int .i64 (k1 : Int)) w' := fun w' => by kernel_rfl
  have ix2 : ∀ w' : World, (Instr.index 23 (.agg #[.int .i64 (k0 : Int), .int .i64 (k1 : Int), .int .i64 (k2 : Int), .int .i64 (k3 : Int)]) (.int .i64 2)).run Try.prog w' = .ok (.int .i64 (k2 : Int)) w' := fun w' => by kernel_rfl
  have ix3 : ∀ w' : World, (Instr.index 23 (.agg #[.int .i64 (k0 : Int), .int .i64 (k1 : Int), .int .i64 (k2 : Int), .int .i64 (k3 : Int)]) (.int .i64 3)).run Try.prog w' = .ok (.int .i64 (k3 : Int)) w' := fun w' => by kernel_rfl
  go_enter Try.func57, Try.ntmps57
  go_wp2_with fail
  refine wp_loop_rounds 5 ?_
  rw [rounds_succ]
  go_upto_region 5 with fail
  refine Reg.wp_chain_n (fun N0 D v W => Below w.heap.size w W ∧ Keeps w W ∧ N0 ≤ W.heap.size ∧ Blk W (w.heap.size) 23 #[.int .i64 k0, .int .i64 k1, .int .i64 k2, .int .i64 k3] ∧ Blk W (w.heap.size + 1) 71 #[.int .i64 0, .int .i64 0, .int .i64 0, .int .i64 0, .int .i64 0, .int .i64 0, .int .i64 0, .int .i64 0, .int .i64 0] ∧ ((D 13 = false → Blk W (w.heap.size + 1 + 1) 128 #[.int .i64 0, .int .i64 0, .int .i64 0, .int .i64 0, .int .i64 0, .int .i64 0, .int .i64 0, .int .i64 0]) ∧ (D 13 = true → Blk W (w.heap.size + 1 + 1) 128 #[.int .i64 x0, .int .i64 y0, .int .i64 0, .int .i64 0, .int .i64 0, .int .i64 0, .int .i64 0, .int .i64 0])))
    (Reg.inl [13]) (Reg.gv []) (gw []) (fun _ => Keeps) (fun _ _ => False) (Reg.pl [(14, [])]) (Reg.pl [])
    (by kernel_rfl) (by kernel_rfl) (by kernel_rfl) (Reg.gv_some _ (by intro p hp; cases hp)) (fun N0 hN0 => ⟨fun v => ?_, fun D v v' W hv hj => ?_, fun D v k j W W' x _ _ _ _ hk hg => gw_keeps _ (by intro p hp; cases hp) hk hg, fun _ _ _ _ h => h.elim, fun ops' Q' hops hQ => ?_⟩)
  · exact ⟨belowB, keepsB, Nat.le_of_eq hN0.out, ownK, ownK, ⟨fun _ => ownK, (fun h => Bool.noConfusion h)⟩⟩
  · obtain ⟨j0, jk, jn, b_a, b_r, b_z⟩ := hj
    exact ⟨j0, jk, jn, b_a, b_r, b_z⟩
  have i_a : w.heap.size < N0 := by have e := hN0.out; (try simp only [World.size_alloc, World.size_setCell, World.size_drew, World.heap_drewN] at e); first | omega | (have h := oa.lt; omega)
  have i_r : w.heap.size + 1 < N0 := by have e := hN0.out; (try simp only [World.size_alloc, World.size_setCell, World.size_drew, World.heap_drewN] at e); first | omega | (have h := or.lt; omega)
  have i_z : w.heap.size + 1 + 1 < N0 := by have e := hN0.out; (try simp only [World.size_alloc, World.size_setCell, World.size_drew, World.heap_drewN] at e); first | omega | (have h := oz.lt; omega)
  have iw : w.heap.size ≤ N0 := by have e := hN0.out; (try simp only [World.size_alloc, World.size_setCell, World.size_drew, World.heap_drewN] at e); first | omega | (have h := B.size; omega)
  clear hN0
  apply Reg.RC_pure (hc := rfl) (hst := rfl) (hw := rfl) (t := 16) (hd := rfl) (ht := Nat.le_of_ble_eq_true rfl)
  · intro D v' W' hc hj hf K hK
    go_step
    exact hK.out
  · rfl
  apply Reg.RC_pure (hc := rfl) (hst := rfl) (hw := rfl) (t := 17) (hd := rfl) (ht := Nat.le_of_ble_eq_true rfl)
  · intro D v' W' hc hj hf K hK
    go_step
    exact hK.out
  · rfl
  apply Reg.RC_pure (hc := rfl) (hst := rfl) (hw := rfl) (t := 18) (hd := rfl) (ht := Nat.le_of_ble_eq_true rfl)
  · intro D v' W' hc hj hf K hK
    go_step
    exact hK.out
  · rfl
  apply Reg.RC_pure (hc := rfl) (hst := rfl) (hw := rfl) (t := 19) (hd := rfl) (ht := Nat.le_of_ble_eq_true rfl)
  · intro D v' W' hc hj hf K hK
    go_step
    exact hK.out
  · rfl
  apply Reg.RC_pure (hc := rfl) (hst := rfl) (hw := rfl) (t := 20) (hd := rfl) (ht := Nat.le_of_ble_eq_true rfl)
  · intro D v' W' hc hj hf K hK
    go_step
    exact hK.out
  · rfl
  apply Reg.RC_pure (hc := rfl) (hst := rfl) (hw := rfl) (t := 21) (hd := rfl) (ht := Nat.le_of_ble_eq_true rfl)
  · intro D v' W' hc hj hf K hK
    obtain ⟨j0, jk, jn, b_a, b_r, b_z⟩ := hj
    have x0_ : W'.cell? ⟨b, o + k0 * 2, none⟩ = some (.int .i64 x0) := (j0.cell (p := ⟨b, o + k0 * 2, none⟩) hb).trans c00
    have x1_ : W'.cell? ⟨b, o + k0 * 2 + 1, none⟩ = some (.int .i64 y0) := (j0.cell (p := ⟨b, o + k0 * 2 + 1, none⟩) hb).trans c01
    have x2_ : W'.cell? ⟨b, o + k1 * 2, none⟩ = some (.int .i64 x1) := (j0.cell (p := ⟨b, o + k1 * 2, none⟩) hb).trans c10
    have x3_ : W'.cell? ⟨b, o + k1 * 2 + 1, none⟩ = some (.int .i64 y1) := (j0.cell (p := ⟨b, o + k1 * 2 + 1, none⟩) hb).trans c11
    have x4_ : W'.cell? ⟨b, o + k2 * 2, none⟩ = some (.int .i64 x2) := (j0.cell (p := ⟨b, o + k2 * 2, none⟩) hb).trans c20
    have x5_ : W'.cell? ⟨b, o + k2 * 2 + 1, none⟩ = some (.int .i64 y2) := (j0.cell (p := ⟨b, o + k2 * 2 + 1, none⟩) hb).trans c21
    have x6_ : W'.cell? ⟨b, o + k3 * 2, none⟩ = some (.int .i64 x3) := (j0.cell (p := ⟨b, o + k3 * 2, none⟩) hb).trans c30
    have x7_ : W'.cell? ⟨b, o + k3 * 2 + 1, none⟩ = some (.int .i64 y3) := (j0.cell (p := ⟨b, o + k3 * 2 + 1, none⟩) hb).trans c31
    go_step
    exact hK.out
  · rfl
  apply Reg.RC_pure (hc := rfl) (hst := rfl) (hw := rfl) (t := 22) (hd := rfl) (ht := Nat.le_of_ble_eq_true rfl)
  · intro D v' W' hc hj hf K hK
    go_step
    exact hK.out
  · rfl
  apply Reg.RC_pure (hc := rfl) (hst := rfl) (hw := rfl) (t := 23) (hd := rfl) (ht := Nat.le_of_ble_eq_true rfl)
  · intro D v' W' hc hj hf K hK
    go_step
    exact hK.out
  · rfl
  apply Reg.RC_pure (hc := rfl) (hst := rfl) (hw := rfl) (t := 24) (hd := rfl) (ht := Nat.le_of_ble_eq_true rfl)
  · intro D v' W' hc hj hf K hK
    go_step
    exact hK.out
  · rfl
  apply Reg.RC_pure (hc := rfl) (hst := rfl) (hw := rfl) (t := 25) (hd := rfl) (ht := Nat.le_of_ble_eq_true rfl)
  · intro D v' W' hc hj hf K hK
    go_step
    exact hK.out
  · rfl
  apply Reg.RC_pure (hc := rfl) (hst := rfl) (hw := rfl) (t := 26) (hd := rfl) (ht := Nat.le_of_ble_eq_true rfl)
  · intro D v' W' hc hj hf K hK
    obtain ⟨j0, jk, jn, b_a, b_r, b_z⟩ := hj
    have x0_ : W'.cell? ⟨b, o + k0 * 2, none⟩ = some (.int .i64 x0) := (j0.cell (p := ⟨b, o + k0 * 2, none⟩) hb).trans c00
    have x1_ : W'.cell? ⟨b, o + k0 * 2 + 1, none⟩ = some (.int .i64 y0) := (j0.cell (p := ⟨b, o + k0 * 2 + 1, none⟩) hb).trans c01
    have x2_ : W'.cell? ⟨b, o + k1 * 2, none⟩ = some (.int .i64 x1) := (j0.cell (p := ⟨b, o + k1 * 2, none⟩) hb).trans c10
    have x3_ : W'.cell? ⟨b, o + k1 * 2 + 1, none⟩ = some (.int .i64 y1) := (j0.cell (p := ⟨b, o + k1 * 2 + 1, none⟩) hb).trans c11
    have x4_ : W'.cell? ⟨b, o + k2 * 2, none⟩ = some (.int .i64 x2) := (j0.cell (p := ⟨b, o + k2 * 2, none⟩) hb).trans c20
    have x5_ : W'.cell? ⟨b, o + k2 * 2 + 1, none⟩ = some (.int .i64 y2) := (j0.cell (p := ⟨b, o + k2 * 2 + 1, none⟩) hb).trans c21
    have x6_ : W'.cell? ⟨b, o + k3 * 2, none⟩ = some (.int .i64 x3) := (j0.cell (p := ⟨b, o + k3 * 2, none⟩) hb).trans c30
    have x7_ : W'.cell? ⟨b, o + k3 * 2 + 1, none⟩ = some (.int .i64 y3) := (j0.cell (p := ⟨b, o + k3 * 2 + 1, none⟩) hb).trans c31
    go_step
    exact hK.out
  · rfl
  apply Reg.RC_pure (hc := rfl) (hst := rfl) (hw := rfl) (t := 27) (hd := rfl) (ht := Nat.le_of_ble_eq_true rfl)
  · intro D v' W' hc hj hf K hK
    go_step
    exact hK.out
  · rfl
  apply Reg.RC_pure (hc := rfl) (hst := rfl) (hw := rfl) (t := 28) (hd := rfl) (ht := Nat.le_of_ble_eq_true rfl)
  · intro D v' W' hc hj hf K hK
    go_step
    exact hK.out
  · rfl
  refine Reg.RC_call rfl (by intro t ht; cases ht) rfl (fun D v' W' hc hj hf K hK => ?_) (fun _ _ => Reg.RC_at (b := ⟨_, _⟩) rfl ?_)
  · obtain ⟨j0, jk, jn, b_a, b_r, b_z⟩ := hj
    have hb := b_z.1 hc.1
    have e2 : w.heap.size ≤ w.heap.size + 1 + 1 := by omega
    have ff := hb.fr
    have cc0 : W'.cell? ⟨w.heap.size + 1 + 1, 0, none⟩ = some (.int .i64 0) := hb.c 0 rfl
    have cc1 : W'.cell? ⟨w.heap.size + 1 + 1, 1, none⟩ = some (.int .i64 0) := hb.c 1 rfl
    go_step
    exact hK.out undef _ (Keeps.only hb rfl ((Only.refl _ _).set.set)) ⟨(Below.setCell (p := ⟨w.heap.size + 1 + 1, 1, none⟩) (Below.setCell (p := ⟨w.heap.size + 1 + 1, 0, none⟩) j0 (by show w.heap.size ≤ w.heap.size + 1 + 1; omega) _) (by show w.heap.size ≤ w.heap.size + 1 + 1; omega) _), jk.trans (Keeps.only hb rfl ((Only.refl _ _).set.set)), by simpa using jn, ((b_a).far' (show w.heap.size ≠ w.heap.size + 1 + 1 by omega)).far' (show w.heap.size ≠ w.heap.size + 1 + 1 by omega), ((b_r).far' (show w.heap.size + 1 ≠ w.heap.size + 1 + 1 by omega)).far' (show w.heap.size + 1 ≠ w.heap.size + 1 + 1 by omega), ⟨fun h => Bool.noConfusion h, fun _ => (Blk.set2 (cs' := #[.int .i64 x0, .int .i64 y0, .int .i64 0, .int .i64 0, .int .i64 0, .int .i64 0, .int .i64 0, .int .i64 0]) (Blk.set2 (cs' := #[.int .i64 x0, .int .i64 0, .int .i64 0, .int .i64 0, .int .i64 0, .int .i64 0, .int .i64 0, .int .i64 0]) hb (i := 0) rfl) (i := 1) rfl)⟩⟩ trivial trivial
  refine Reg.RC_end (fun Dn v' w1 hd hj hf => ?_)
  obtain ⟨j0, jk, jn, b_a, b_r, b_z⟩ := hj
  have B := j0
  have oa := b_a
  clear b_a
  have or := b_r
  clear b_r
  have oz := b_z.2 (hd 13 (Nat.le_of_ble_eq_true rfl))
  clear b_z
  clear hd hf jk j0
  refine hQ _ _ ?_
  clear hQ hops Q' ops'
  go_wp2_with fail
  rw [rounds_succ]
  have zz_1 : w.heap.size + 1 + 1 < w1.heap.size := oz.lt
  have zz1 := B.size
  go_upto_region 5 with fail
  refine Reg.wp_chain_n (fun N0 D v W => Below w.heap.size w W ∧ Keeps w1 W ∧ N0 ≤ W.heap.size ∧ Blk W (w.heap.size) 23 #[.int .i64 k0, .int .i64 k1, .int .i64 k2, .int .i64 k3] ∧ Blk W (w.heap.size + 1) 71 #[.int .i64 0, .int .i64 0, .int .i64 0, .int .i64 0, .int .i64 0, .int .i64 0, .int .i64 0, .int .i64 0, .int .i64 0] ∧ ((D 13 = false → Blk W (w.heap.size + 1 + 1) 128 #[.int .i64 x0, .int .i64 y0, .int .i64 0, .int .i64 0, .int .i64 0, .int .i64 0, .int .i64 0, .int .i64 0]) ∧ (D 13 = true → Blk W (w.heap.size + 1 + 1) 128 #[.int .i64 x0, .int .i64 y0, .int .i64 x1, .int .i64 y1, .int .i64 0, .int .i64 0, .int .i64 0, .int .i64 0])))
    (Reg.inl [13]) (Reg.gv []) (gw []) (fun _ => Keeps) (fun _ _ => False) (Reg.pl [(14, [])]) (Reg.pl [])
    (by kernel_rfl) (by kernel_rfl) (by kernel_rfl) (Reg.gv_some _ (by intro p hp; cases hp)) (fun N0 hN0 => ⟨fun v => ?_, fun D v v' W hv hj => ?_, fun D v k j W W' x _ _ _ _ hk hg => gw_keeps _ (by intro p hp; cases hp) hk hg, fun _ _ _ _ h => h.elim, fun ops' Q' hops hQ => ?_⟩)
  · exact ⟨belowB, keepsB, Nat.le_of_eq hN0.out, ownK, ownK, ⟨fun _ => ownK, (fun h => Bool.noConfusion h)⟩⟩
  · obtain ⟨j0, jk, jn, b_a, b_r, b_z⟩ := hj
    exact ⟨j0, jk, jn, b_a, b_r, b_z⟩
  have i_a : w.heap.size < N0 := by have e := hN0.out; (try simp only [World.size_alloc, World.size_setCell, World.size_drew, World.heap_drewN] at e); first | omega | (have h := oa.lt; omega)
  have i_r : w.heap.size + 1 < N0 := by have e := hN0.out; (try simp only [World.size_alloc, World.size_setCell, World.size_drew, World.heap_drewN] at e); first | omega | (have h := or.lt; omega)
  have i_z : w.heap.size + 1 + 1 < N0 := by have e := hN0.out; (try simp only [World.size_alloc, World.size_setCell, World.size_drew, World.heap_drewN] at e); first | omega | (have h := oz.lt; omega)
  have iw : w.heap.size ≤ N0 := by have e := hN0.out; (try simp only [World.size_alloc, World.size_setCell, World.size_drew, World.heap_drewN] at e); first | omega | (have h := B.size; omega)
  clear hN0
  apply Reg.RC_pure (hc := rfl) (hst := rfl) (hw := rfl) (t := 16) (hd := rfl) (ht := Nat.le_of_ble_eq_true rfl)
  · intro D v' W' hc hj hf K hK
    go_step
    exact hK.out
  · rfl
  apply Reg.RC_pure (hc := rfl) (hst := rfl) (hw := rfl) (t := 17) (hd := rfl) (ht := Nat.le_of_ble_eq_true rfl)
  · intro D v' W' hc hj hf K hK
    go_step
    exact hK.out
  · rfl
  apply Reg.RC_pure (hc := rfl) (hst := rfl) (hw := rfl) (t := 18) (hd := rfl) (ht := Nat.le_of_ble_eq_true rfl)
  · intro D v' W' hc hj hf K hK
    go_step
    exact hK.out
  · rfl
  apply Reg.RC_pure (hc := rfl) (hst := rfl) (hw := rfl) (t := 19) (hd := rfl) (ht := Nat.le_of_ble_eq_true rfl)
  · intro D v' W' hc hj hf K hK
    go_step
    exact hK.out
  · rfl
  apply Reg.RC_pure (hc := rfl) (hst := rfl) (hw := rfl) (t := 20) (hd := rfl) (ht := Nat.le_of_ble_eq_true rfl)
  · intro D v' W' hc hj hf K hK
    go_step
    exact hK.out
  · rfl
  apply Reg.RC_pure (hc := rfl) (hst := rfl) (hw := rfl) (t := 21) (hd := rfl) (ht := Nat.le_of_ble_eq_true rfl)
  · intro D v' W' hc hj hf K hK
    obtain ⟨j0, jk, jn, b_a, b_r, b_z⟩ := hj
    have x0_ : W'.cell? ⟨b, o + k0 * 2, none⟩ = some (.int .i64 x0) := (j0.cell (p := ⟨b, o + k0 * 2, none⟩) hb).trans c00
    have x1_ : W'.cell? ⟨b, o + k0 * 2 + 1, none⟩ = some (.int .i64 y0) := (j0.cell (p := ⟨b, o + k0 * 2 + 1, none⟩) hb).trans c01
    have x2_ : W'.cell? ⟨b, o + k1 * 2, none⟩ = some (.int .i64 x1) := (j0.cell (p := ⟨b, o + k1 * 2, none⟩) hb).trans c10
    have x3_ : W'.cell? ⟨b, o + k1 * 2 + 1, none⟩ = some (.int .i64 y1) := (j0.cell (p := ⟨b, o + k1 * 2 + 1, none⟩) hb).trans c11
    have x4_ : W'.cell? ⟨b, o + k2 * 2, none⟩ = some (.int .i64 x2) := (j0.cell (p := ⟨b, o + k2 * 2, none⟩) hb).trans c20
    have x5_ : W'.cell? ⟨b, o + k2 * 2 + 1, none⟩ = some (.int .i64 y2) := (j0.cell (p := ⟨b, o + k2 * 2 + 1, none⟩) hb).trans c21
    have x6_ : W'.cell? ⟨b, o + k3 * 2, none⟩ = some (.int .i64 x3) := (j0.cell (p := ⟨b, o + k3 * 2, none⟩) hb).trans c30
    have x7_ : W'.cell? ⟨b, o + k3 * 2 + 1, none⟩ = some (.int .i64 y3) := (j0.cell (p := ⟨b, o + k3 * 2 + 1, none⟩) hb).trans c31
    go_step
    exact hK.out
  · rfl
  apply Reg.RC_pure (hc := rfl) (hst := rfl) (hw := rfl) (t := 22) (hd := rfl) (ht := Nat.le_of_ble_eq_true rfl)
  · intro D v' W' hc hj hf K hK
    go_step
    exact hK.out
  · rfl
  apply Reg.RC_pure (hc := rfl) (hst := rfl) (hw := rfl) (t := 23) (hd := rfl) (ht := Nat.le_of_ble_eq_true rfl)
  · intro D v' W' hc hj hf K hK
    go_step
    exact hK.out
  · rfl
  apply Reg.RC_pure (hc := rfl) (hst := rfl) (hw := rfl) (t := 24) (hd := rfl) (ht := Nat.le_of_ble_eq_true rfl)
  · intro D v' W' hc hj hf K hK
    go_step
    exact hK.out
  · rfl
  apply Reg.RC_pure (hc := rfl) (hst := rfl) (hw := rfl) (t := 25) (hd := rfl) (ht := Nat.le_of_ble_eq_true rfl)
  · intro D v' W' hc hj hf K hK
    go_step
    exact hK.out
  · rfl
  apply Reg.RC_pure (hc := rfl) (hst := rfl) (hw := rfl) (t := 26) (hd := rfl) (ht := Nat.le_of_ble_eq_true rfl)
  · intro D v' W' hc hj hf K hK
    obtain ⟨j0, jk, jn, b_a, b_r, b_z⟩ := hj
    have x0_ : W'.cell? ⟨b, o + k0 * 2, none⟩ = some (.int .i64 x0) := (j0.cell (p := ⟨b, o + k0 * 2, none⟩) hb).trans c00
    have x1_ : W'.cell? ⟨b, o + k0 * 2 + 1, none⟩ = some (.int .i64 y0) := (j0.cell (p := ⟨b, o + k0 * 2 + 1, none⟩) hb).trans c01
    have x2_ : W'.cell? ⟨b, o + k1 * 2, none⟩ = some (.int .i64 x1) := (j0.cell (p := ⟨b, o + k1 * 2, none⟩) hb).trans c10
    have x3_ : W'.cell? ⟨b, o + k1 * 2 + 1, none⟩ = some (.int .i64 y1) := (j0.cell (p := ⟨b, o + k1 * 2 + 1, none⟩) hb).trans c11
    have x4_ : W'.cell? ⟨b, o + k2 * 2, none⟩ = some (.int .i64 x2) := (j0.cell (p := ⟨b, o + k2 * 2, none⟩) hb).trans c20
    have x5_ : W'.cell? ⟨b, o + k2 * 2 + 1, none⟩ = some (.int .i64 y2) := (j0.cell (p := ⟨b, o + k2 * 2 + 1, none⟩) hb).trans c21
    have x6_ : W'.cell? ⟨b, o + k3 * 2, none⟩ = some (.int .i64 x3) := (j0.cell (p := ⟨b, o + k3 * 2, none⟩) hb).trans c30
    have x7_ : W'.cell? ⟨b, o + k3 * 2 + 1, none⟩ = some (.int .i64 y3) := (j0.cell (p := ⟨b, o + k3 * 2 + 1, none⟩) hb).trans c31
    go_step
    exact hK.out
  · rfl
  apply Reg.RC_pure (hc := rfl) (hst := rfl) (hw := rfl) (t := 27) (hd := rfl) (ht := Nat.le_of_ble_eq_true rfl)
  · intro D v' W' hc hj hf K hK
    go_step
    exact hK.out
  · rfl
  apply Reg.RC_pure (hc := rfl) (hst := rfl) (hw := rfl) (t := 28) (hd := rfl) (ht := Nat.le_of_ble_eq_true rfl)
  · intro D v' W' hc hj hf K hK
    go_step
    exact hK.out
  · rfl
  refine Reg.RC_call rfl (by intro t ht; cases ht) rfl (fun D v' W' hc hj hf K hK => ?_) (fun _ _ => Reg.RC_at (b := ⟨_, _⟩) rfl ?_)
  · obtain ⟨j0, jk, jn, b_a, b_r, b_z⟩ := hj
    have hb := b_z.1 hc.1
    have e2 : w.heap.size ≤ w.heap.size + 1 + 1 := by omega
    have ff := hb.fr
    have cc0 : W'.cell? ⟨w.heap.size + 1 + 1, 2, none⟩ = some (.int .i64 0) := hb.c 2 rfl
    have cc1 : W'.cell? ⟨w.heap.size + 1 + 1, 3, none⟩ = some (.int .i64 0) := hb.c 3 rfl
    go_step
    exact hK.out undef _ (Keeps.only hb rfl ((Only.refl _ _).set.set)) ⟨(Below.setCell (p := ⟨w.heap.size + 1 + 1, 3, none⟩) (Below.setCell (p := ⟨w.heap.size + 1 + 1, 2, none⟩) j0 (by show w.heap.size ≤ w.heap.size + 1 + 1; omega) _) (by show w.heap.size ≤ w.heap.size + 1 + 1; omega) _), jk.trans (Keeps.only hb rfl ((Only.refl _ _).set.set)), by simpa using jn, ((b_a).far' (show w.heap.size ≠ w.heap.size + 1 + 1 by omega)).far' (show w.heap.size ≠ w.heap.size + 1 + 1 by omega), ((b_r).far' (show w.heap.size + 1 ≠ w.heap.size + 1 + 1 by omega)).far' (show w.heap.size + 1 ≠ w.heap.size + 1 + 1 by omega), ⟨fun h => Bool.noConfusion h, fun _ => (Blk.set2 (cs' := #[.int .i64 x0, .int .i64 y0, .int .i64 x1, .int .i64 y1, .int .i64 0, .int .i64 0, .int .i64 0, .int .i64 0]) (Blk.set2 (cs' := #[.int .i64 x0, .int .i64 y0, .int .i64 x1, .int .i64 0, .int .i64 0, .int .i64 0, .int .i64 0, .int .i64 0]) hb (i := 2) rfl) (i := 3) rfl)⟩⟩ trivial trivial
  refine Reg.RC_end (fun Dn v' w2 hd hj hf => ?_)
  obtain ⟨j0, jk, jn, b_a, b_r, b_z⟩ := hj
  have B := j0
  have oa := b_a
  clear b_a
  have or := b_r
  clear b_r
  have oz := b_z.2 (hd 13 (Nat.le_of_ble_eq_true rfl))
  clear b_z
  clear hd hf jk j0
  refine hQ _ _ ?_
  clear hQ hops Q' ops'
  go_wp2_with fail
  rw [rounds_succ]
  have zz_2 : w.heap.size + 1 + 1 < w2.heap.size := oz.lt
  have zz2 := B.size
  go_upto_region 5 with fail
  refine Reg.wp_chain_n (fun N0 D v W => Below w.heap.size w W ∧ Keeps w2 W ∧ N0 ≤ W.heap.size ∧ Blk W (w.heap.size) 23 #[.int .i64 k0, .int .i64 k1, .int .i64 k2, .int .i64 k3] ∧ Blk W (w.heap.size + 1) 71 #[.int .i64 0, .int .i64 0, .int .i64 0, .int .i64 0, .int .i64 0, .int .i64 0, .int .i64 0, .int .i64 0, .int .i64 0] ∧ ((D 13 = false → Blk W (w.heap.size + 1 + 1) 128 #[.int .i64 x0, .int .i64 y0, .int .i64 x1, .int .i64 y1, .int .i64 0, .int .i64 0, .int .i64 0, .int .i64 0]) ∧ (D 13 = true → Blk W (w.heap.size + 1 + 1) 128 #[.int .i64 x0, .int .i64 y0, .int .i64 x1, .int .i64 y1, .int .i64 x2, .int .i64 y2, .int .i64 0, .int .i64 0])))
    (Reg.inl [13]) (Reg.gv []) (gw []) (fun _ => Keeps) (fun _ _ => False) (Reg.pl [(14, [])]) (Reg.pl [])
    (by kernel_rfl) (by kernel_rfl) (by kernel_rfl) (Reg.gv_some _ (by intro p hp; cases hp)) (fun N0 hN0 => ⟨fun v => ?_, fun D v v' W hv hj => ?_, fun D v k j W W' x _ _ _ _ hk hg => gw_keeps _ (by intro p hp; cases hp) hk hg, fun _ _ _ _ h => h.elim, fun ops' Q' hops hQ => ?_⟩)
  · exact ⟨belowB, keepsB, Nat.le_of_eq hN0.out, ownK, ownK, ⟨fun _ => ownK, (fun h => Bool.noConfusion h)⟩⟩
  · obtain ⟨j0, jk, jn, b_a, b_r, b_z⟩ := hj
    exact ⟨j0, jk, jn, b_a, b_r, b_z⟩
  have i_a : w.heap.size < N0 := by have e := hN0.out; (try simp only [World.size_alloc, World.size_setCell, World.size_drew, World.heap_drewN] at e); first | omega | (have h := oa.lt; omega)
  have i_r : w.heap.size + 1 < N0 := by have e := hN0.out; (try simp only [World.size_alloc, World.size_setCell, World.size_drew, World.heap_drewN] at e); first | omega | (have h := or.lt; omega)
  have i_z : w.heap.size + 1 + 1 < N0 := by have e := hN0.out; (try simp only [World.size_alloc, World.size_setCell, World.size_drew, World.heap_drewN] at e); first | omega | (have h := oz.lt; omega)
  have iw : w.heap.size ≤ N0 := by have e := hN0.out; (try simp only [World.size_alloc, World.size_setCell, World.size_drew, World.heap_drewN] at e); first | omega | (have h := B.size; omega)
  clear hN0
  apply Reg.RC_pure (hc := rfl) (hst := rfl) (hw := rfl) (t := 16) (hd := rfl) (ht := Nat.le_of_ble_eq_true rfl)
  · intro D v' W' hc hj hf K hK
    go_step
    exact hK.out
  · rfl
  apply Reg.RC_pure (hc := rfl) (hst := rfl) (hw := rfl) (t := 17) (hd := rfl) (ht := Nat.le_of_ble_eq_true rfl)
  · intro D v' W' hc hj hf K hK
    go_step
    exact hK.out
  · rfl
  apply Reg.RC_pure (hc := rfl) (hst := rfl) (hw := rfl) (t := 18) (hd := rfl) (ht := Nat.le_of_ble_eq_true rfl)
  · intro D v' W' hc hj hf K hK
    go_step
    exact hK.out
  · rfl
  apply Reg.RC_pure (hc := rfl) (hst := rfl) (hw := rfl) (t := 19) (hd := rfl) (ht := Nat.le_of_ble_eq_true rfl)
  · intro D v' W' hc hj hf K hK
    go_step
    exact hK.out
  · rfl
  apply Reg.RC_pure (hc := rfl) (hst := rfl) (hw := rfl) (t := 20) (hd := rfl) (ht := Nat.le_of_ble_eq_true rfl)
  · intro D v' W' hc hj hf K hK
    go_step
    exact hK.out
  · rfl
  apply Reg.RC_pure (hc := rfl) (hst := rfl) (hw := rfl) (t := 21) (hd := rfl) (ht := Nat.le_of_ble_eq_true rfl)
  · intro D v' W' hc hj hf K hK
    obtain ⟨j0, jk, jn, b_a, b_r, b_z⟩ := hj
    have x0_ : W'.cell? ⟨b, o + k0 * 2, none⟩ = some (.int .i64 x0) := (j0.cell (p := ⟨b, o + k0 * 2, none⟩) hb).trans c00
    have x1_ : W'.cell? ⟨b, o + k0 * 2 + 1, none⟩ = some (.int .i64 y0) := (j0.cell (p := ⟨b, o + k0 * 2 + 1, none⟩) hb).trans c01
    have x2_ : W'.cell? ⟨b, o + k1 * 2, none⟩ = some (.int .i64 x1) := (j0.cell (p := ⟨b, o + k1 * 2, none⟩) hb).trans c10
    have x3_ : W'.cell? ⟨b, o + k1 * 2 + 1, none⟩ = some (.int .i64 y1) := (j0.cell (p := ⟨b, o + k1 * 2 + 1, none⟩) hb).trans c11
    have x4_ : W'.cell? ⟨b, o + k2 * 2, none⟩ = some (.int .i64 x2) := (j0.cell (p := ⟨b, o + k2 * 2, none⟩) hb).trans c20
    have x5_ : W'.cell? ⟨b, o + k2 * 2 + 1, none⟩ = some (.int .i64 y2) := (j0.cell (p := ⟨b, o + k2 * 2 + 1, none⟩) hb).trans c21
    have x6_ : W'.cell? ⟨b, o + k3 * 2, none⟩ = some (.int .i64 x3) := (j0.cell (p := ⟨b, o + k3 * 2, none⟩) hb).trans c30
    have x7_ : W'.cell? ⟨b, o + k3 * 2 + 1, none⟩ = some (.int .i64 y3) := (j0.cell (p := ⟨b, o + k3 * 2 + 1, none⟩) hb).trans c31
    go_step
    exact hK.out
  · rfl
  apply Reg.RC_pure (hc := rfl) (hst := rfl) (hw := rfl) (t := 22) (hd := rfl) (ht := Nat.le_of_ble_eq_true rfl)
  · intro D v' W' hc hj hf K hK
    go_step
    exact hK.out
  · rfl
  apply Reg.RC_pure (hc := rfl) (hst := rfl) (hw := rfl) (t := 23) (hd := rfl) (ht := Nat.le_of_ble_eq_true rfl)
  · intro D v' W' hc hj hf K hK
    go_step
    exact hK.out
  · rfl
  apply Reg.RC_pure (hc := rfl) (hst := rfl) (hw := rfl) (t := 24) (hd := rfl) (ht := Nat.le_of_ble_eq_true rfl)
  · intro D v' W' hc hj hf K hK
    go_step
    exact hK.out
  · rfl
  apply Reg.RC_pure (hc := rfl) (hst := rfl) (hw := rfl) (t := 25) (hd := rfl) (ht := Nat.le_of_ble_eq_true rfl)
  · intro D v' W' hc hj hf K hK
    go_step
    exact hK.out
  · rfl
  apply Reg.RC_pure (hc := rfl) (hst := rfl) (hw := rfl) (t := 26) (hd := rfl) (ht := Nat.le_of_ble_eq_true rfl)
  · intro D v' W' hc hj hf K hK
    obtain ⟨j0, jk, jn, b_a, b_r, b_z⟩ := hj
    have x0_ : W'.cell? ⟨b, o + k0 * 2, none⟩ = some (.int .i64 x0) := (j0.cell (p := ⟨b, o + k0 * 2, none⟩) hb).trans c00
    have x1_ : W'.cell? ⟨b, o + k0 * 2 + 1, none⟩ = some (.int .i64 y0) := (j0.cell (p := ⟨b, o + k0 * 2 + 1, none⟩) hb).trans c01
    have x2_ : W'.cell? ⟨b, o + k1 * 2, none⟩ = some (.int .i64 x1) := (j0.cell (p := ⟨b, o + k1 * 2, none⟩) hb).trans c10
    have x3_ : W'.cell? ⟨b, o + k1 * 2 + 1, none⟩ = some (.int .i64 y1) := (j0.cell (p := ⟨b, o + k1 * 2 + 1, none⟩) hb).trans c11
    have x4_ : W'.cell? ⟨b, o + k2 * 2, none⟩ = some (.int .i64 x2) := (j0.cell (p := ⟨b, o + k2 * 2, none⟩) hb).trans c20
    have x5_ : W'.cell? ⟨b, o + k2 * 2 + 1, none⟩ = some (.int .i64 y2) := (j0.cell (p := ⟨b, o + k2 * 2 + 1, none⟩) hb).trans c21
    have x6_ : W'.cell? ⟨b, o + k3 * 2, none⟩ = some (.int .i64 x3) := (j0.cell (p := ⟨b, o + k3 * 2, none⟩) hb).trans c30
    have x7_ : W'.cell? ⟨b, o + k3 * 2 + 1, none⟩ = some (.int .i64 y3) := (j0.cell (p := ⟨b, o + k3 * 2 + 1, none⟩) hb).trans c31
    go_step
    exact hK.out
  · rfl
  apply Reg.RC_pure (hc := rfl) (hst := rfl) (hw := rfl) (t := 27) (hd := rfl) (ht := Nat.le_of_ble_eq_true rfl)
  · intro D v' W' hc hj hf K hK
    go_step
    exact hK.out
  · rfl
  apply Reg.RC_pure (hc := rfl) (hst := rfl) (hw := rfl) (t := 28) (hd := rfl) (ht := Nat.le_of_ble_eq_true rfl)
  · intro D v' W' hc hj hf K hK
    go_step
    exact hK.out
  · rfl
  refine Reg.RC_call rfl (by intro t ht; cases ht) rfl (fun D v' W' hc hj hf K hK => ?_) (fun _ _ => Reg.RC_at (b := ⟨_, _⟩) rfl ?_)
  · obtain ⟨j0, jk, jn, b_a, b_r, b_z⟩ := hj
    have hb := b_z.1 hc.1
    have e2 : w.heap.size ≤ w.heap.size + 1 + 1 := by omega
    have ff := hb.fr
    have cc0 : W'.cell? ⟨w.heap.size + 1 + 1, 4, none⟩ = some (.int .i64 0) := hb.c 4 rfl
    have cc1 : W'.cell? ⟨w.heap.size + 1 + 1, 5, none⟩ = some (.int .i64 0) := hb.c 5 rfl
    go_step
    exact hK.out undef _ (Keeps.only hb rfl ((Only.refl _ _).set.set)) ⟨(Below.setCell (p := ⟨w.heap.size + 1 + 1, 5, none⟩) (Below.setCell (p := ⟨w.heap.size + 1 + 1, 4, none⟩) j0 (by show w.heap.size ≤ w.heap.size + 1 + 1; omega) _) (by show w.heap.size ≤ w.heap.size + 1 + 1; omega) _), jk.trans (Keeps.only hb rfl ((Only.refl _ _).set.set)), by simpa using jn, ((b_a).far' (show w.heap.size ≠ w.heap.size + 1 + 1 by omega)).far' (show w.heap.size ≠ w.heap.size + 1 + 1 by omega), ((b_r).far' (show w.heap.size + 1 ≠ w.heap.size + 1 + 1 by omega)).far' (show w.heap.size + 1 ≠ w.heap.size + 1 + 1 by omega), ⟨fun h => Bool.noConfusion h, fun _ => (Blk.set2 (cs' := #[.int .i64 x0, .int .i64 y0, .int .i64 x1, .int .i64 y1, .int .i64 x2, .int .i64 y2, .int .i64 0, .int .i64 0]) (Blk.set2 (cs' := #[.int .i64 x0, .int .i64 y0, .int .i64 x1, .int .i64 y1, .int .i64 x2, .int .i64 0, .int .i64 0, .int .i64 0]) hb (i := 4) rfl) (i := 5) rfl)⟩⟩ trivial trivial
  refine Reg.RC_end (fun Dn v' w3 hd hj hf => ?_)
  obtain ⟨j0, jk, jn, b_a, b_r, b_z⟩ := hj
  have B := j0
  have oa := b_a
  clear b_a
  have or := b_r
  clear b_r
  have oz := b_z.2 (hd 13 (Nat.le_of_ble_eq_true rfl))
  clear b_z
  clear hd hf jk j0
  refine hQ _ _ ?_
  clear hQ hops Q' ops'
  go_wp2_with fail
  rw [rounds_succ]
  have zz_3 : w.heap.size + 1 + 1 < w3.heap.size := oz.lt
  have zz3 := B.size
  go_upto_region 5 with fail
  refine Reg.wp_chain_n (fun N0 D v W => Below w.heap.size w W ∧ Keeps w3 W ∧ N0 ≤ W.heap.size ∧ Blk W (w.heap.size) 23 #[.int .i64 k0, .int .i64 k1, .int .i64 k2, .int .i64 k3] ∧ Blk W (w.heap.size + 1) 71 #[.int .i64 0, .int .i64 0, .int .i64 0, .int .i64 0, .int .i64 0, .int .i64 0, .int .i64 0, .int .i64 0, .int .i64 0] ∧ ((D 13 = false → Blk W (w.heap.size + 1 + 1) 128 #[.int .i64 x0, .int .i64 y0, .int .i64 x1, .int .i64 y1, .int .i64 x2, .int .i64 y2, .int .i64 0, .int .i64 0]) ∧ (D 13 = true → Blk W (w.heap.size + 1 + 1) 128 #[.int .i64 x0, .int .i64 y0, .int .i64 x1, .int .i64 y1, .int .i64 x2, .int .i64 y2, .int .i64 x3, .int .i64 y3])))
    (Reg.inl [13]) (Reg.gv []) (gw []) (fun _ => Keeps) (fun _ _ => False) (Reg.pl [(14, [])]) (Reg.pl [])
    (by kernel_rfl) (by kernel_rfl) (by kernel_rfl) (Reg.gv_some _ (by intro p hp; cases hp)) (fun N0 hN0 => ⟨fun v => ?_, fun D v v' W hv hj => ?_, fun D v k j W W' x _ _ _ _ hk hg => gw_keeps _ (by intro p hp; cases hp) hk hg, fun _ _ _ _ h => h.elim, fun ops' Q' hops hQ => ?_⟩)
  · exact ⟨belowB, keepsB, Nat.le_of_eq hN0.out, ownK, ownK, ⟨fun _ => ownK, (fun h => Bool.noConfusion h)⟩⟩
  · obtain ⟨j0, jk, jn, b_a, b_r, b_z⟩ := hj
    exact ⟨j0, jk, jn, b_a, b_r, b_z⟩
  have i_a : w.heap.size < N0 := by have e := hN0.out; (try simp only [World.size_alloc, World.size_setCell, World.size_drew, World.heap_drewN] at e); first | omega | (have h := oa.lt; omega)
  have i_r : w.heap.size + 1 < N0 := by have e := hN0.out; (try simp only [World.size_alloc, World.size_setCell, World.size_drew, World.heap_drewN] at e); first | omega | (have h := or.lt; omega)
  have i_z : w.heap.size + 1 + 1 < N0 := by have e := hN0.out; (try simp only [World.size_alloc, World.size_setCell, World.size_drew, World.heap_drewN] at e); first | omega | (have h := oz.lt; omega)
  have iw : w.heap.size ≤ N0 := by have e := hN0.out; (try simp only [World.size_alloc, World.size_setCell, World.size_drew, World.heap_drewN] at e); first | omega | (have h := B.size; omega)
  clear hN0
  apply Reg.RC_pure (hc := rfl) (hst := rfl) (hw := rfl) (t := 16) (hd := rfl) (ht := Nat.le_of_ble_eq_true rfl)
  · intro D v' W' hc hj hf K hK
    go_step
    exact hK.out
  · rfl
  apply Reg.RC_pure (hc := rfl) (hst := rfl) (hw := rfl) (t := 17) (hd := rfl) (ht := Nat.le_of_ble_eq_true rfl)
  · intro D v' W' hc hj hf K hK
    go_step
    exact hK.out
  · rfl
  apply Reg.RC_pure (hc := rfl) (hst := rfl) (hw := rfl) (t := 18) (hd := rfl) (ht := Nat.le_of_ble_eq_true rfl)
  · intro D v' W' hc hj hf K hK
    go_step
    exact hK.out
  · rfl
  apply Reg.RC_pure (hc := rfl) (hst := rfl) (hw := rfl) (t := 19) (hd := rfl) (ht := Nat.le_of_ble_eq_true rfl)
  · intro D v' W' hc hj hf K hK
    go_step
    exact hK.out
  · rfl
  apply Reg.RC_pure (hc := rfl) (hst := rfl) (hw := rfl) (t := 20) (hd := rfl) (ht := Nat.le_of_ble_eq_true rfl)
  · intro D v' W' hc hj hf K hK
    go_step
    exact hK.out
  · rfl
  apply Reg.RC_pure (hc := rfl) (hst := rfl) (hw := rfl) (t := 21) (hd := rfl) (ht := Nat.le_of_ble_eq_true rfl)
  · intro D v' W' hc hj hf K hK
    obtain ⟨j0, jk, jn, b_a, b_r, b_z⟩ := hj
    have x0_ : W'.cell? ⟨b, o + k0 * 2, none⟩ = some (.int .i64 x0) := (j0.cell (p := ⟨b, o + k0 * 2, none⟩) hb).trans c00
    have x1_ : W'.cell? ⟨b, o + k0 * 2 + 1, none⟩ = some (.int .i64 y0) := (j0.cell (p := ⟨b, o + k0 * 2 + 1, none⟩) hb).trans c01
    have x2_ : W'.cell? ⟨b, o + k1 * 2, none⟩ = some (.int .i64 x1) := (j0.cell (p := ⟨b, o + k1 * 2, none⟩) hb).trans c10
    have x3_ : W'.cell? ⟨b, o + k1 * 2 + 1, none⟩ = some (.int .i64 y1) := (j0.cell (p := ⟨b, o + k1 * 2 + 1, none⟩) hb).trans c11
    have x4_ : W'.cell? ⟨b, o + k2 * 2, none⟩ = some (.int .i64 x2) := (j0.cell (p := ⟨b, o + k2 * 2, none⟩) hb).trans c20
    have x5_ : W'.cell? ⟨b, o + k2 * 2 + 1, none⟩ = some (.int .i64 y2) := (j0.cell (p := ⟨b, o + k2 * 2 + 1, none⟩) hb).trans c21
    have x6_ : W'.cell? ⟨b, o + k3 * 2, none⟩ = some (.int .i64 x3) := (j0.cell (p := ⟨b, o + k3 * 2, none⟩) hb).trans c30
    have x7_ : W'.cell? ⟨b, o + k3 * 2 + 1, none⟩ = some (.int .i64 y3) := (j0.cell (p := ⟨b, o + k3 * 2 + 1, none⟩) hb).trans c31
    go_step
    exact hK.out
  · rfl
  apply Reg.RC_pure (hc := rfl) (hst := rfl) (hw := rfl) (t := 22) (hd := rfl) (ht := Nat.le_of_ble_eq_true rfl)
  · intro D v' W' hc hj hf K hK
    go_step
    exact hK.out
  · rfl
  apply Reg.RC_pure (hc := rfl) (hst := rfl) (hw := rfl) (t := 23) (hd := rfl) (ht := Nat.le_of_ble_eq_true rfl)
  · intro D v' W' hc hj hf K hK
    go_step
    exact hK.out
  · rfl
  apply Reg.RC_pure (hc := rfl) (hst := rfl) (hw := rfl) (t := 24) (hd := rfl) (ht := Nat.le_of_ble_eq_true rfl)
  · intro D v' W' hc hj hf K hK
    go_step
    exact hK.out
  · rfl
  apply Reg.RC_pure (hc := rfl) (hst := rfl) (hw := rfl) (t := 25) (hd := rfl) (ht := Nat.le_of_ble_eq_true rfl)
  · intro D v' W' hc hj hf K hK
    go_step
    exact hK.out
  · rfl
  apply Reg.RC_pure (hc := rfl) (hst := rfl) (hw := rfl) (t := 26) (hd := rfl) (ht := Nat.le_of_ble_eq_true rfl)
  · intro D v' W' hc hj hf K hK
    obtain ⟨j0, jk, jn, b_a, b_r, b_z⟩ := hj
    have x0_ : W'.cell? ⟨b, o + k0 * 2, none⟩ = some (.int .i64 x0) := (j0.cell (p := ⟨b, o + k0 * 2, none⟩) hb).trans c00
    have x1_ : W'.cell? ⟨b, o + k0 * 2 + 1, none⟩ = some (.int .i64 y0) := (j0.cell (p := ⟨b, o + k0 * 2 + 1, none⟩) hb).trans c01
    have x2_ : W'.cell? ⟨b, o + k1 * 2, none⟩ = some (.int .i64 x1) := (j0.cell (p := ⟨b, o + k1 * 2, none⟩) hb).trans c10
    have x3_ : W'.cell? ⟨b, o + k1 * 2 + 1, none⟩ = some (.int .i64 y1) := (j0.cell (p := ⟨b, o + k1 * 2 + 1, none⟩) hb).trans c11
    have x4_ : W'.cell? ⟨b, o + k2 * 2, none⟩ = some (.int .i64 x2) := (j0.cell (p := ⟨b, o + k2 * 2, none⟩) hb).trans c20
    have x5_ : W'.cell? ⟨b, o + k2 * 2 + 1, none⟩ = some (.int .i64 y2) := (j0.cell (p := ⟨b, o + k2 * 2 + 1, none⟩) hb).trans c21
    have x6_ : W'.cell? ⟨b, o + k3 * 2, none⟩ = some (.int .i64 x3) := (j0.cell (p := ⟨b, o + k3 * 2, none⟩) hb).trans c30
    have x7_ : W'.cell? ⟨b, o + k3 * 2 + 1, none⟩ = some (.int .i64 y3) := (j0.cell (p := ⟨b, o + k3 * 2 + 1, none⟩) hb).trans c31
    go_step
    exact hK.out
  · rfl
  apply Reg.RC_pure (hc := rfl) (hst := rfl) (hw := rfl) (t := 27) (hd := rfl) (ht := Nat.le_of_ble_eq_true rfl)
  · intro D v' W' hc hj hf K hK
    go_step
    exact hK.out
  · rfl
  apply Reg.RC_pure (hc := rfl) (hst := rfl) (hw := rfl) (t := 28) (hd := rfl) (ht := Nat.le_of_ble_eq_true rfl)
  · intro D v' W' hc hj hf K hK
    go_step
    exact hK.out
  · rfl
  refine Reg.RC_call rfl (by intro t ht; cases ht) rfl (fun D v' W' hc hj hf K hK => ?_) (fun _ _ => Reg.RC_at (b := ⟨_, _⟩) rfl ?_)
  · obtain ⟨j0, jk, jn, b_a, b_r, b_z⟩ := hj
    have hb := b_z.1 hc.1
    have e2 : w.heap.size ≤ w.heap.size + 1 + 1 := by omega
    have ff := hb.fr
    have cc0 : W'.cell? ⟨w.heap.size + 1 + 1, 6, none⟩ = some (.int .i64 0) := hb.c 6 rfl
    have cc1 : W'.cell? ⟨w.heap.size + 1 + 1, 7, none⟩ = some (.int .i64 0) := hb.c 7 rfl
    go_step
    exact hK.out undef _ (Keeps.only hb rfl ((Only.refl _ _).set.set)) ⟨(Below.setCell (p := ⟨w.heap.size + 1 + 1, 7, none⟩) (Below.setCell (p := ⟨w.heap.size + 1 + 1, 6, none⟩) j0 (by show w.heap.size ≤ w.heap.size + 1 + 1; omega) _) (by show w.heap.size ≤ w.heap.size + 1 + 1; omega) _), jk.trans (Keeps.only hb rfl ((Only.refl _ _).set.set)), by simpa using jn, ((b_a).far' (show w.heap.size ≠ w.heap.size + 1 + 1 by omega)).far' (show w.heap.size ≠ w.heap.size + 1 + 1 by omega), ((b_r).far' (show w.heap.size + 1 ≠ w.heap.size + 1 + 1 by omega)).far' (show w.heap.size + 1 ≠ w.heap.size + 1 + 1 by omega), ⟨fun h => Bool.noConfusion h, fun _ => (Blk.set2 (cs' := #[.int .i64 x0, .int .i64 y0, .int .i64 x1, .int .i64 y1, .int .i64 x2, .int .i64 y2, .int .i64 x3, .int .i64 y3]) (Blk.set2 (cs' := #[.int .i64 x0, .int .i64 y0, .int .i64 x1, .int .i64 y1, .int .i64 x2, .int .i64 y2, .int .i64 x3, .int .i64 0]) hb (i := 6) rfl) (i := 7) rfl)⟩⟩ trivial trivial
  refine Reg.RC_end (fun Dn v' w4 hd hj hf => ?_)
  obtain ⟨j0, jk, jn, b_a, b_r, b_z⟩ := hj
  have B := j0
  have oa := b_a
  clear b_a
  have or := b_r
  clear b_r
  have oz := b_z.2 (hd 13 (Nat.le_of_ble_eq_true rfl))
  clear b_z
  clear hd hf jk j0
  refine hQ _ _ ?_
  clear hQ hops Q' ops'
  have la := oa.lt
  have lr := or.lt
  have cz0 := oz.q0
  have cz1 := oz.q1
  have cz2 := oz.q2
  have cz3 := oz.q3
  have cz4 := oz.q4
  have cz5 := oz.q5
  have cz6 := oz.q6
  have cz7 := oz.q7
  have lz := oz.lt
  go_wp2_with fail
  rw [rounds_succ]
  go_wp2_with fail
  refine (m1 _).mono ?_
  rintro e w5 ⟨rfl, hb5⟩
  have st : Steps _ w5 := hb5
  have sk : Below w4.heap.size w4 w5 := belowA st
  replace B := below_steps B (Nat.le_refl _) sk
  replace oa := oa.steps sk
  replace or := or.steps sk
  replace oz := oz.steps sk
  clear st sk la lr cz0 cz1 cz2 cz3 cz4 cz5 cz6 cz7 lz
  have la := oa.lt
  have lr := or.lt
  have cz0 := oz.q0
  have cz1 := oz.q1
  have cz2 := oz.q2
  have cz3 := oz.q3
  have cz4 := oz.q4
  have cz5 := oz.q5
  have cz6 := oz.q6
  have cz7 := oz.q7
  have lz := oz.lt
  have zz_5 : w.heap.size + 1 + 1 < w5.heap.size := oz.lt
  have zz5 := B.size
  go_upto_region 8 with fail
  refine Reg.wp_chain_n (fun N0 D v W => Below w.heap.size w W ∧ Keeps w5 W ∧ N0 ≤ W.heap.size ∧ Blk W (w.heap.size) 23 #[.int .i64 k0, .int .i64 k1, .int .i64 k2, .int .i64 k3] ∧ Blk W (w.heap.size + 1) 71 #[.int .i64 0, .int .i64 0, .int .i64 0, .int .i64 0, .int .i64 0, .int .i64 0, .int .i64 0, .int .i64 0, .int .i64 0] ∧ Blk W (w.heap.size + 1 + 1) 128 #[.int .i64 x0, .int .i64 y0, .int .i64 x1, .int .i64 y1, .int .i64 x2, .int .i64 y2, .int .i64 x3, .int .i64 y3] ∧ Blk W (w5.heap.size) 127 #[.int .i64 ux, .int .i64 uy] ∧ (D 14 = true → ∃ g : Nat, v 14 = .pointer (some ⟨g, 0, none⟩) ∧ N0 ≤ g ∧ g < W.heap.size ∧ (D 16 = false → Blk W g 127 #[.int .i64 0, .int .i64 0]) ∧ (D 16 = true → D 6 = true ∧ ∃ cs, v 6 = .agg cs ∧ Blk W g 127 cs)) ∧ (D 15 = true → ∃ g : Nat, v 15 = .pointer (some ⟨g, 0, none⟩) ∧ N0 ≤ g ∧ g < W.heap.size ∧ (D 17 = false → Blk W g 127 #[.int .i64 0, .int .i64 0]) ∧ (D 17 = true → D 13 = true ∧ ∃ cs, v 13 = .agg cs ∧ Blk W g 127 cs)) ∧ (D 14 = true → D 15 = true → v 14 ≠ v 15))
    (Reg.inl [4, 6, 11, 13, 14, 15, 16, 17]) (Reg.gv [(4, fun z_ => z_ = .agg #[.int .i64 ax, .int .i64 ay]), (6, fun z_ => z_ = .agg #[.int .i64 A1, .int .i64 A2]), (11, fun z_ => z_ = .agg #[.int .i64 bx, .int .i64 by_]), (13, fun z_ => z_ = .agg #[.int .i64 B1, .int .i64 B2]), (14, IsPtr), (15, IsPtr)]) (gw []) (fun _ => Keeps) (fun _ _ => False) (Reg.pl [(6, [(4, some 39)]), (13, [(11, some 46)]), (16, [(6, some 41), (14, some 9)]), (17, [(13, some 48), (15, some 10)]), (18, [(4, some 39), (6, some 41), (11, some 46), (13, some 48), (14, some 9), (15, some 10)])]) (Reg.pl [(14, [16]), (6, [16]), (15, [17]), (13, [17])])
    (by kernel_rfl) (by kernel_rfl) (by kernel_rfl) (Reg.gv_some _ (by intro p hp; simp only [List.mem_cons, List.not_mem_nil, or_false] at hp; rcases hp with rfl | rfl | rfl | rfl | rfl | rfl <;> first | exact ⟨_, rfl⟩ | exact ⟨_, 0, rfl⟩ | exact ⟨_, none, 0, 0, rfl⟩ | exact ⟨_, false, none, 0, 0, rfl⟩ | exact ⟨_, false, none, 0, 0, false, none, 0, 0, rfl⟩)) (fun N0 hN0 => ⟨fun v => ?_, fun D v v' W hv hj => ?_, fun D v k j W W' x _ _ _ _ hk hg => gw_keeps _ (by intro p hp; cases hp) hk hg, fun _ _ _ _ h => h.elim, fun ops' Q' hops hQ => ?_⟩)
  · exact ⟨belowB, keepsB, Nat.le_of_eq hN0.out, ownK, ownK, ownK, ownK, (fun h => Bool.noConfusion h), (fun h => Bool.noConfusion h), (fun h => Bool.noConfusion h)⟩
  · obtain ⟨j0, jk, jn, b_a, b_r, b_z, b_u, a_14, a_15, q_14_15⟩ := hj
    exact ⟨j0, jk, jn, b_a, b_r, b_z, b_u, fun h => by obtain ⟨g, e1, e2, e3, e4, e5⟩ := a_14 h; exact ⟨g, (hv 14 h) ▸ e1, e2, e3, e4, fun h => by obtain ⟨d, cs, e, hb⟩ := e5 h; exact ⟨d, cs, (hv 6 d) ▸ e, hb⟩⟩, fun h => by obtain ⟨g, e1, e2, e3, e4, e5⟩ := a_15 h; exact ⟨g, (hv 15 h) ▸ e1, e2, e3, e4, fun h => by obtain ⟨d, cs, e, hb⟩ := e5 h; exact ⟨d, cs, (hv 13 d) ▸ e, hb⟩⟩, fun h h' => (hv 14 h) ▸ (hv 15 h') ▸ q_14_15 h h'⟩
  have i_a : w.heap.size < N0 := by have e := hN0.out; (try simp only [World.size_alloc, World.size_setCell, World.size_drew, World.heap_drewN] at e); first | omega | (have h := oa.lt; omega)
  have i_r : w.heap.size + 1 < N0 := by have e := hN0.out; (try simp only [World.size_alloc, World.size_setCell, World.size_drew, World.heap_drewN] at e); first | omega | (have h := or.lt; omega)
  have i_z : w.heap.size + 1 + 1 < N0 := by have e := hN0.out; (try simp only [World.size_alloc, World.size_setCell, World.size_drew, World.heap_drewN] at e); first | omega | (have h := oz.lt; omega)
  have i_u : w5.heap.size < N0 := by have e := hN0.out; (try simp only [World.size_alloc, World.size_setCell, World.size_drew, World.heap_drewN] at e); first | omega | (have h := ou.lt; omega)
  have iw : w.heap.size ≤ N0 := by have e := hN0.out; (try simp only [World.size_alloc, World.size_setCell, World.size_drew, World.heap_drewN] at e); first | omega | (have h := B.size; omega)
  clear la lr cz0 cz1 cz2 cz3 cz4 cz5 cz6 cz7 lz
  clear hN0
  apply Reg.RC_pure (hc := rfl) (hst := rfl) (hw := rfl) (t := 35) (hd := rfl) (ht := Nat.le_of_ble_eq_true rfl)
  · intro D v' W' hc hj hf K hK
    go_step
    exact hK.out
  · rfl
  apply Reg.RC_pure (hc := rfl) (hst := rfl) (hw := rfl) (t := 36) (hd := rfl) (ht := Nat.le_of_ble_eq_true rfl)
  · intro D v' W' hc hj hf K hK
    obtain ⟨j0, jk, jn, b_a, b_r, b_z, b_u, a_14, a_15, q_14_15⟩ := hj
    have c0 : W'.cell? ⟨w.heap.size + 1 + 1, 0, none⟩ = some (.int .i64 x0) := b_z.c 0 rfl
    have c1 : W'.cell? ⟨w.heap.size + 1 + 1, 1, none⟩ = some (.int .i64 y0) := b_z.c 1 rfl
    have c2 : W'.cell? ⟨w.heap.size + 1 + 1, 2, none⟩ = some (.int .i64 x1) := b_z.c 2 rfl
    have c3 : W'.cell? ⟨w.heap.size + 1 + 1, 3, none⟩ = some (.int .i64 y1) := b_z.c 3 rfl
    have c4 : W'.cell? ⟨w.heap.size + 1 + 1, 4, none⟩ = some (.int .i64 x2) := b_z.c 4 rfl
    have c5 : W'.cell? ⟨w.heap.size + 1 + 1, 5, none⟩ = some (.int .i64 y2) := b_z.c 5 rfl
    have c6 : W'.cell? ⟨w.heap.size + 1 + 1, 6, none⟩ = some (.int .i64 x3) := b_z.c 6 rfl
    have c7 : W'.cell? ⟨w.heap.size + 1 + 1, 7, none⟩ = some (.int .i64 y3) := b_z.c 7 rfl
    go_step
    exact hK.out
  · rfl
  apply Reg.RC_pure (hc := rfl) (hst := rfl) (hw := rfl) (t := 37) (hd := rfl) (ht := Nat.le_of_ble_eq_true rfl)
  · intro D v' W' hc hj hf K hK
    go_step
    exact hK.out
  · rfl
  apply Reg.RC_pure (hc := rfl) (hst := rfl) (hw := rfl) (t := 38) (hd := rfl) (ht := Nat.le_of_ble_eq_true rfl)
  · intro D v' W' hc hj hf K hK
    obtain ⟨j0, jk, jn, b_a, b_r, b_z, b_u, a_14, a_15, q_14_15⟩ := hj
    have c0 : W'.cell? ⟨w.heap.size + 1 + 1, 0, none⟩ = some (.int .i64 x0) := b_z.c 0 rfl
    have c1 : W'.cell? ⟨w.heap.size + 1 + 1, 1, none⟩ = some (.int .i64 y0) := b_z.c 1 rfl
    have c2 : W'.cell? ⟨w.heap.size + 1 + 1, 2, none⟩ = some (.int .i64 x1) := b_z.c 2 rfl
    have c3 : W'.cell? ⟨w.heap.size + 1 + 1, 3, none⟩ = some (.int .i64 y1) := b_z.c 3 rfl
    have c4 : W'.cell? ⟨w.heap.size + 1 + 1, 4, none⟩ = some (.int .i64 x2) := b_z.c 4 rfl
    have c5 : W'.cell? ⟨w.heap.size + 1 + 1, 5, none⟩ = some (.int .i64 y2) := b_z.c 5 rfl
    have c6 : W'.cell? ⟨w.heap.size + 1 + 1, 6, none⟩ = some (.int .i64 x3) := b_z.c 6 rfl
    have c7 : W'.cell? ⟨w.heap.size + 1 + 1, 7, none⟩ = some (.int .i64 y3) := b_z.c 7 rfl
    go_step
    exact hK.out
  · rfl
  refine Reg.RC_call rfl (by intro t ht; cases ht; exact Nat.le_of_ble_eq_true rfl) rfl (fun D v' W' hc hj hf K hK => ?_) ?_
  · obtain ⟨j0, jk, jn, b_a, b_r, b_z, b_u, a_14, a_15, q_14_15⟩ := hj
    clear hf
    go_step
    refine (m2 W').mono ?_
    rintro e W2 ⟨rfl, hs⟩
    exact hK.out _ W2 (Keeps.steps hs) ⟨below_steps j0 (Nat.le_refl _) hs, jk.then_ hs, Nat.le_trans jn hs.size, b_a.steps hs, b_r.steps hs, b_z.steps hs, b_u.steps hs, fun h => by obtain ⟨g, e1, e2, e3, e4, e5⟩ := a_14 h; exact ⟨g, e1, e2, Nat.lt_of_lt_of_le e3 (hs).size, fun h => (e4 h).steps hs, fun h => by obtain ⟨d, cs, e, hb⟩ := e5 h; exact ⟨d, cs, e, hb.steps hs⟩⟩, fun h => by obtain ⟨g, e1, e2, e3, e4, e5⟩ := a_15 h; exact ⟨g, e1, e2, Nat.lt_of_lt_of_le e3 (hs).size, fun h => (e4 h).steps hs, fun h => by obtain ⟨d, cs, e, hb⟩ := e5 h; exact ⟨d, cs, e, hb.steps hs⟩⟩, q_14_15⟩ trivial rfl
  rintro _ rfl
  refine Reg.RC_at (b := ⟨#[_,_,_,_,_,_,_,_,_,_,_,_,_,_,_,_,_,_,_,_,_,_,_,_,_,_,_,_,_,_,_,_,_,_,_,_,_,_,_,_,_,_,_,_,_,_,_,_,_,_,_,_,_,_,_,_,_,_,_,_,_,_], _⟩) rfl ?_
  apply Reg.RC_pure (hc := rfl) (hst := rfl) (hw := rfl) (t := 40) (hd := rfl) (ht := Nat.le_of_ble_eq_true rfl)
  · intro D v' W' hc hj hf K hK
    obtain ⟨j0, jk, jn, b_a, b_r, b_z, b_u, a_14, a_15, q_14_15⟩ := hj
    have c0 : W'.cell? ⟨w5.heap.size, 0, none⟩ = some (.int .i64 ux) := b_u.c 0 rfl
    have c1 : W'.cell? ⟨w5.heap.size, 1, none⟩ = some (.int .i64 uy) := b_u.c 1 rfl
    go_step
    exact hK.out
  · rfl
  refine Reg.RC_call rfl (by intro t ht; cases ht; exact Nat.le_of_ble_eq_true rfl) rfl (fun D v' W' hc hj hf K hK => ?_) ?_
  · obtain ⟨j0, jk, jn, b_a, b_r, b_z, b_u, a_14, a_15, q_14_15⟩ := hj
    clear hf
    go_step
    refine (j2 W').mono ?_
    rintro e W2 ⟨rfl, hs⟩
    exact hK.out _ W2 (Keeps.steps hs) ⟨below_steps j0 (Nat.le_refl _) hs, jk.then_ hs, Nat.le_trans jn hs.size, b_a.steps hs, b_r.steps hs, b_z.steps hs, b_u.steps hs, fun h => by obtain ⟨g, e1, e2, e3, e4, e5⟩ := a_14 h; exact ⟨g, e1, e2, Nat.lt_of_lt_of_le e3 (hs).size, fun h => (e4 h).steps hs, fun h => Bool.noConfusion ((hc.2 16 (by decide)).symm.trans h)⟩, fun h => by obtain ⟨g, e1, e2, e3, e4, e5⟩ := a_15 h; exact ⟨g, e1, e2, Nat.lt_of_lt_of_le e3 (hs).size, fun h => (e4 h).steps hs, fun h => by obtain ⟨d, cs, e, hb⟩ := e5 h; exact ⟨d, cs, e, hb.steps hs⟩⟩, q_14_15⟩ trivial rfl
  rintro _ rfl
  refine Reg.RC_at (b := ⟨#[_,_,_,_,_,_,_,_,_,_,_,_,_,_,_,_,_,_,_,_,_,_,_,_,_,_,_,_,_,_,_,_,_,_,_,_,_,_,_,_,_,_,_,_,_,_,_,_,_,_,_,_,_,_,_,_,_,_,_,_,_,_], _⟩) rfl ?_
  apply Reg.RC_pure (hc := rfl) (hst := rfl) (hw := rfl) (t := 42) (hd := rfl) (ht := Nat.le_of_ble_eq_true rfl)
  · intro D v' W' hc hj hf K hK
    go_step
    exact hK.out
  · rfl
  apply Reg.RC_pure (hc := rfl) (hst := rfl) (hw := rfl) (t := 43) (hd := rfl) (ht := Nat.le_of_ble_eq_true rfl)
  · intro D v' W' hc hj hf K hK
    obtain ⟨j0, jk, jn, b_a, b_r, b_z, b_u, a_14, a_15, q_14_15⟩ := hj
    have c0 : W'.cell? ⟨w.heap.size + 1 + 1, 0, none⟩ = some (.int .i64 x0) := b_z.c 0 rfl
    have c1 : W'.cell? ⟨w.heap.size + 1 + 1, 1, none⟩ = some (.int .i64 y0) := b_z.c 1 rfl
    have c2 : W'.cell? ⟨w.heap.size + 1 + 1, 2, none⟩ = some (.int .i64 x1) := b_z.c 2 rfl
    have c3 : W'.cell? ⟨w.heap.size + 1 + 1, 3, none⟩ = some (.int .i64 y1) := b_z.c 3 rfl
    have c4 : W'.cell? ⟨w.heap.size + 1 + 1, 4, none⟩ = some (.int .i64 x2) := b_z.c 4 rfl
    have c5 : W'.cell? ⟨w.heap.size + 1 + 1, 5, none⟩ = some (.int .i64 y2) := b_z.c 5 rfl
    have c6 : W'.cell? ⟨w.heap.size + 1 + 1, 6, none⟩ = some (.int .i64 x3) := b_z.c 6 rfl
    have c7 : W'.cell? ⟨w.heap.size + 1 + 1, 7, none⟩ = some (.int .i64 y3) := b_z.c 7 rfl
    go_step
    exact hK.out
  · rfl
  apply Reg.RC_pure (hc := rfl) (hst := rfl) (hw := rfl) (t := 44) (hd := rfl) (ht := Nat.le_of_ble_eq_true rfl)
  · intro D v' W' hc hj hf K hK
    go_step
    exact hK.out
  · rfl
  apply Reg.RC_pure (hc := rfl) (hst := rfl) (hw := rfl) (t := 45) (hd := rfl) (ht := Nat.le_of_ble_eq_true rfl)
  · intro D v' W' hc hj hf K hK
    obtain ⟨j0, jk, jn, b_a, b_r, b_z, b_u, a_14, a_15, q_14_15⟩ := hj
    have c0 : W'.cell? ⟨w.heap.size + 1 + 1, 0, none⟩ = some (.int .i64 x0) := b_z.c 0 rfl
    have c1 : W'.cell? ⟨w.heap.size + 1 + 1, 1, none⟩ = some (.int .i64 y0) := b_z.c 1 rfl
    have c2 : W'.cell? ⟨w.heap.size + 1 + 1, 2, none⟩ = some (.int .i64 x1) := b_z.c 2 rfl
    have c3 : W'.cell? ⟨w.heap.size + 1 + 1, 3, none⟩ = some (.int .i64 y1) := b_z.c 3 rfl
    have c4 : W'.cell? ⟨w.heap.size + 1 + 1, 4, none⟩ = some (.int .i64 x2) := b_z.c 4 rfl
    have c5 : W'.cell? ⟨w.heap.size + 1 + 1, 5, none⟩ = some (.int .i64 y2) := b_z.c 5 rfl
    have c6 : W'.cell? ⟨w.heap.size + 1 + 1, 6, none⟩ = some (.int .i64 x3) := b_z.c 6 rfl
    have c7 : W'.cell? ⟨w.heap.size + 1 + 1, 7, none⟩ = some (.int .i64 y3) := b_z.c 7 rfl
    go_step
    exact hK.out
  · rfl
  refine Reg.RC_call rfl (by intro t ht; cases ht; exact Nat.le_of_ble_eq_true rfl) rfl (fun D v' W' hc hj hf K hK => ?_) ?_
  · obtain ⟨j0, jk, jn, b_a, b_r, b_z, b_u, a_14, a_15, q_14_15⟩ := hj
    clear hf
    go_step
    refine (m3 W').mono ?_
    rintro e W2 ⟨rfl, hs⟩
    exact hK.out _ W2 (Keeps.steps hs) ⟨below_steps j0 (Nat.le_refl _) hs, jk.then_ hs, Nat.le_trans jn hs.size, b_a.steps hs, b_r.steps hs, b_z.steps hs, b_u.steps hs, fun h => by obtain ⟨g, e1, e2, e3, e4, e5⟩ := a_14 h; exact ⟨g, e1, e2, Nat.lt_of_lt_of_le e3 (hs).size, fun h => (e4 h).steps hs, fun h => by obtain ⟨d, cs, e, hb⟩ := e5 h; exact ⟨d, cs, e, hb.steps hs⟩⟩, fun h => by obtain ⟨g, e1, e2, e3, e4, e5⟩ := a_15 h; exact ⟨g, e1, e2, Nat.lt_of_lt_of_le e3 (hs).size, fun h => (e4 h).steps hs, fun h => by obtain ⟨d, cs, e, hb⟩ := e5 h; exact ⟨d, cs, e, hb.steps hs⟩⟩, q_14_15⟩ trivial rfl
  rintro _ rfl
  refine Reg.RC_at (b := ⟨#[_,_,_,_,_,_,_,_,_,_,_,_,_,_,_,_,_,_,_,_,_,_,_,_,_,_,_,_,_,_,_,_,_,_,_,_,_,_,_,_,_,_,_,_,_,_,_,_,_,_,_,_,_,_,_,_,_,_,_,_,_,_], _⟩) rfl ?_
  apply Reg.RC_pure (hc := rfl) (hst := rfl) (hw := rfl) (t := 47) (hd := rfl) (ht := Nat.le_of_ble_eq_true rfl)
  · intro D v' W' hc hj hf K hK
    obtain ⟨j0, jk, jn, b_a, b_r, b_z, b_u, a_14, a_15, q_14_15⟩ := hj
    have c0 : W'.cell? ⟨w5.heap.size, 0, none⟩ = some (.int .i64 ux) := b_u.c 0 rfl
    have c1 : W'.cell? ⟨w5.heap.size, 1, none⟩ = some (.int .i64 uy) := b_u.c 1 rfl
    go_step
    exact hK.out
  · rfl
  refine Reg.RC_call rfl (by intro t ht; cases ht; exact Nat.le_of_ble_eq_true rfl) rfl (fun D v' W' hc hj hf K hK => ?_) ?_
  · obtain ⟨j0, jk, jn, b_a, b_r, b_z, b_u, a_14, a_15, q_14_15⟩ := hj
    clear hf
    go_step
    refine (j3 W').mono ?_
    rintro e W2 ⟨rfl, hs⟩
    exact hK.out _ W2 (Keeps.steps hs) ⟨below_steps j0 (Nat.le_refl _) hs, jk.then_ hs, Nat.le_trans jn hs.size, b_a.steps hs, b_r.steps hs, b_z.steps hs, b_u.steps hs, fun h => by obtain ⟨g, e1, e2, e3, e4, e5⟩ := a_14 h; exact ⟨g, e1, e2, Nat.lt_of_lt_of_le e3 (hs).size, fun h => (e4 h).steps hs, fun h => by obtain ⟨d, cs, e, hb⟩ := e5 h; exact ⟨d, cs, e, hb.steps hs⟩⟩, fun h => by obtain ⟨g, e1, e2, e3, e4, e5⟩ := a_15 h; exact ⟨g, e1, e2, Nat.lt_of_lt_of_le e3 (hs).size, fun h => (e4 h).steps hs, fun h => Bool.noConfusion ((hc.2 17 (by decide)).symm.trans h)⟩, q_14_15⟩ trivial rfl
  rintro _ rfl
  refine Reg.RC_at (b := ⟨#[_,_,_,_,_,_,_,_,_,_,_,_,_,_,_,_,_,_,_,_,_,_,_,_,_,_,_,_,_,_,_,_,_,_,_,_,_,_,_,_,_,_,_,_,_,_,_,_,_,_,_,_,_,_,_,_,_,_,_,_,_,_], _⟩) rfl ?_
  refine Reg.RC_call rfl (by intro t ht; cases ht; exact Nat.le_of_ble_eq_true rfl) rfl (fun D v' W' hc hj hf K hK => ?_) ?_
  · obtain ⟨j0, jk, jn, b_a, b_r, b_z, b_u, a_14, a_15, q_14_15⟩ := hj
    go_step
    have hs : ∀ o : Obj, Steps W' (W'.alloc o) := fun o => (Below.refl _ _).alloc (Nat.le_refl _) o
    exact hK.out _ _ (Keeps.steps (hs _)) ⟨below_steps j0 (Nat.le_refl _) (hs _), jk.then_ (hs _), Nat.le_trans jn (hs _).size, b_a.steps (hs _), b_r.steps (hs _), b_z.steps (hs _), b_u.steps (hs _), fun _ => ⟨W'.heap.size, rfl, jn, by rw [World.size_alloc]; omega, fun _ => Blk.new _ _ _, fun h => Bool.noConfusion ((hc.2 16 (by decide)).symm.trans h)⟩, fun h => by obtain ⟨g, e1, e2, e3, e4, e5⟩ := a_15 h; exact ⟨g, e1, e2, Nat.lt_of_lt_of_le e3 ((hs _)).size, fun h => (e4 h).steps (hs _), fun h => by obtain ⟨d, cs, e, hb⟩ := e5 h; exact ⟨d, cs, e, hb.steps (hs _)⟩⟩, fun _ h' => by obtain ⟨g, e1, e2, e3, e4, e5⟩ := a_15 h'; exact fun e => Reg.ptr_ne e3 (e.trans e1)⟩ trivial ⟨_, rfl⟩
  rintro _ ⟨p9, rfl⟩
  refine Reg.RC_at (b := ⟨#[_,_,_,_,_,_,_,_,_,_,_,_,_,_,_,_,_,_,_,_,_,_,_,_,_,_,_,_,_,_,_,_,_,_,_,_,_,_,_,_,_,_,_,_,_,_,_,_,_,_,_,_,_,_,_,_,_,_,_,_,_,_], _⟩) rfl ?_
  refine Reg.RC_call rfl (by intro t ht; cases ht; exact Nat.le_of_ble_eq_true rfl) rfl (fun D v' W' hc hj hf K hK => ?_) ?_
  · obtain ⟨j0, jk, jn, b_a, b_r, b_z, b_u, a_14, a_15, q_14_15⟩ := hj
    go_step
    have hs : ∀ o : Obj, Steps W' (W'.alloc o) := fun o => (Below.refl _ _).alloc (Nat.le_refl _) o
    exact hK.out _ _ (Keeps.steps (hs _)) ⟨below_steps j0 (Nat.le_refl _) (hs _), jk.then_ (hs _), Nat.le_trans jn (hs _).size, b_a.steps (hs _), b_r.steps (hs _), b_z.steps (hs _), b_u.steps (hs _), fun h => by obtain ⟨g, e1, e2, e3, e4, e5⟩ := a_14 h; exact ⟨g, e1, e2, Nat.lt_of_lt_of_le e3 ((hs _)).size, fun h => (e4 h).steps (hs _), fun h => by obtain ⟨d, cs, e, hb⟩ := e5 h; exact ⟨d, cs, e, hb.steps (hs _)⟩⟩, fun _ => ⟨W'.heap.size, rfl, jn, by rw [World.size_alloc]; omega, fun _ => Blk.new _ _ _, fun h => Bool.noConfusion ((hc.2 17 (by decide)).symm.trans h)⟩, fun h _ => by obtain ⟨g, e1, e2, e3, e4, e5⟩ := a_14 h; exact fun e => Reg.ptr_ne e3 (e.symm.trans e1)⟩ trivial ⟨_, rfl⟩
  rintro _ ⟨p10, rfl⟩
  refine Reg.RC_at (b := ⟨#[_,_,_,_,_,_,_,_,_,_,_,_,_,_,_,_,_,_,_,_,_,_,_,_,_,_,_,_,_,_,_,_,_,_,_,_,_,_,_,_,_,_,_,_,_,_,_,_,_,_,_,_,_,_,_,_,_,_,_,_,_,_], _⟩) rfl ?_
  refine Reg.RC_call rfl (by intro t ht; cases ht) rfl (fun D v' W' hc hj hf K hK => ?_) (fun _ _ => Reg.RC_at (b := ⟨_, _⟩) rfl ?_)
  · obtain ⟨j0, jk, jn, b_a, b_r, b_z, b_u, a_14, a_15, q_14_15⟩ := hj
    have f := hf (14, some 9) (.tail _ (.head _)) rfl
    have e6 : v' 14 = .pointer (some ⟨p9, 0, none⟩) := f.2.1
    obtain ⟨g, e1, e2, e3, e4, e5⟩ := a_14 f.1
    obtain rfl : p9 = g := Reg.ptr_eq (e6.symm.trans e1)
    have hb := e4 hc.1
    clear e4 e5
    have fc := hf (6, some 41) (.head _) rfl
    have ec : v' 6 = .agg #[.int .i64 A1, .int .i64 A2] := fc.2.1
    have ff := hb.fr
    have cc0 : W'.cell? ⟨p9, 0, none⟩ = some (.int .i64 0) := hb.c 0 rfl
    have cc1 : W'.cell? ⟨p9, 1, none⟩ = some (.int .i64 0) := hb.c 1 rfl
    go_step
    exact hK.out undef _ (Keeps.only hb rfl ((Only.refl _ _).set.set)) ⟨(Below.setCell (p := ⟨p9, 1, none⟩) (Below.setCell (p := ⟨p9, 0, none⟩) j0 (by show w.heap.size ≤ p9; omega) _) (by show w.heap.size ≤ p9; omega) _), jk.trans (Keeps.only hb rfl ((Only.refl _ _).set.set)), by simpa using jn, ((b_a).far' (show w.heap.size ≠ p9 by omega)).far' (show w.heap.size ≠ p9 by omega), ((b_r).far' (show w.heap.size + 1 ≠ p9 by omega)).far' (show w.heap.size + 1 ≠ p9 by omega), ((b_z).far' (show w.heap.size + 1 + 1 ≠ p9 by omega)).far' (show w.heap.size + 1 + 1 ≠ p9 by omega), ((b_u).far' (show w5.heap.size ≠ p9 by omega)).far' (show w5.heap.size ≠ p9 by omega), fun _ => ⟨p9, e1, e2, by simpa using e3, fun h => Bool.noConfusion h, fun _ => ⟨fc.1, _, ec, (Blk.set2 (cs' := #[.int .i64 A1, .int .i64 A2]) (Blk.set2 (cs' := #[.int .i64 A1, .int .i64 0]) hb (i := 0) rfl) (i := 1) rfl)⟩⟩, fun h => by obtain ⟨g, k1, k2, k3, k4, k5⟩ := a_15 h; have hne : g ≠ p9 := fun e => (q_14_15 f.1 h) (by rw [e6, k1, e]); exact ⟨g, k1, k2, by simpa using k3, fun h => ((k4 h).far' hne).far' hne, fun h => by obtain ⟨d, cs, e, hb2⟩ := k5 h; exact ⟨d, cs, e, ((hb2).far' hne).far' hne⟩⟩, q_14_15⟩ trivial trivial
  refine Reg.RC_call rfl (by intro t ht; cases ht) rfl (fun D v' W' hc hj hf K hK => ?_) (fun _ _ => Reg.RC_at (b := ⟨_, _⟩) rfl ?_)
  · obtain ⟨j0, jk, jn, b_a, b_r, b_z, b_u, a_14, a_15, q_14_15⟩ := hj
    have f := hf (15, some 10) (.tail _ (.head _)) rfl
    have e6 : v' 15 = .pointer (some ⟨p10, 0, none⟩) := f.2.1
    obtain ⟨g, e1, e2, e3, e4, e5⟩ := a_15 f.1
    obtain rfl : p10 = g := Reg.ptr_eq (e6.symm.trans e1)
    have hb := e4 hc.1
    clear e4 e5
    have fc := hf (13, some 48) (.head _) rfl
    have ec : v' 13 = .agg #[.int .i64 B1, .int .i64 B2] := fc.2.1
    have ff := hb.fr
    have cc0 : W'.cell? ⟨p10, 0, none⟩ = some (.int .i64 0) := hb.c 0 rfl
    have cc1 : W'.cell? ⟨p10, 1, none⟩ = some (.int .i64 0) := hb.c 1 rfl
    go_step
    exact hK.out undef _ (Keeps.only hb rfl ((Only.refl _ _).set.set)) ⟨(Below.setCell (p := ⟨p10, 1, none⟩) (Below.setCell (p := ⟨p10, 0, none⟩) j0 (by show w.heap.size ≤ p10; omega) _) (by show w.heap.size ≤ p10; omega) _), jk.trans (Keeps.only hb rfl ((Only.refl _ _).set.set)), by simpa using jn, ((b_a).far' (show w.heap.size ≠ p10 by omega)).far' (show w.heap.size ≠ p10 by omega), ((b_r).far' (show w.heap.size + 1 ≠ p10 by omega)).far' (show w.heap.size + 1 ≠ p10 by omega), ((b_z).far' (show w.heap.size + 1 + 1 ≠ p10 by omega)).far' (show w.heap.size + 1 + 1 ≠ p10 by omega), ((b_u).far' (show w5.heap.size ≠ p10 by omega)).far' (show w5.heap.size ≠ p10 by omega), fun h => by obtain ⟨g, k1, k2, k3, k4, k5⟩ := a_14 h; have hne : g ≠ p10 := fun e => (q_14_15 h f.1) (by rw [e6, k1, e]); exact ⟨g, k1, k2, by simpa using k3, fun h => ((k4 h).far' hne).far' hne, fun h => by obtain ⟨d, cs, e, hb2⟩ := k5 h; exact ⟨d, cs, e, ((hb2).far' hne).far' hne⟩⟩, fun _ => ⟨p10, e1, e2, by simpa using e3, fun h => Bool.noConfusion h, fun _ => ⟨fc.1, _, ec, (Blk.set2 (cs' := #[.int .i64 B1, .int .i64 B2]) (Blk.set2 (cs' := #[.int .i64 B1, .int .i64 0]) hb (i := 0) rfl) (i := 1) rfl)⟩⟩, q_14_15⟩ trivial trivial
  refine Reg.RC_end (fun Dn v' w6 hd hj hf => ?_)
  obtain ⟨j0, jk, jn, b_a, b_r, b_z, b_u, a_14, a_15, q_14_15⟩ := hj
  have B := j0
  have oa := b_a
  clear b_a
  have or := b_r
  clear b_r
  have oz := b_z
  clear b_z
  have ou := b_u
  clear b_u
  have f := hf (14, some 9) (.tail _ (.tail _ (.tail _ (.tail _ (.head _))))) rfl
  have e6_ : v' 14 = .pointer (some ⟨p9, 0, none⟩) := f.2.1
  obtain ⟨g, e1_, zc, -, -, e5_⟩ := a_14 f.1
  obtain rfl : p9 = g := Reg.ptr_eq (e6_.symm.trans e1_)
  obtain ⟨-, cs_, ee, oc⟩ := e5_ (hd 16 (Nat.le_of_ble_eq_true rfl))
  have ef : v' 6 = .agg #[.int .i64 A1, .int .i64 A2] := (hf (6, some 41) (.tail _ (.head _)) rfl).2.1
  obtain rfl : #[.int .i64 A1, .int .i64 A2] = cs_ := by have := ef.symm.trans ee; simpa only [Value.tuple.injEq, Value.agg.injEq, Array.mk.injEq, List.cons.injEq, and_true, true_and] using this
  clear ee ef f e5_ e1_ e6_
  have f := hf (15, some 10) (.tail _ (.tail _ (.tail _ (.tail _ (.tail _ (.head _)))))) rfl
  have e6_ : v' 15 = .pointer (some ⟨p10, 0, none⟩) := f.2.1
  obtain ⟨g, e1_, zd, -, -, e5_⟩ := a_15 f.1
  obtain rfl : p10 = g := Reg.ptr_eq (e6_.symm.trans e1_)
  obtain ⟨-, cs_, ee, od⟩ := e5_ (hd 17 (Nat.le_of_ble_eq_true rfl))
  have ef : v' 13 = .agg #[.int .i64 B1, .int .i64 B2] := (hf (13, some 48) (.tail _ (.tail _ (.tail _ (.head _)))) rfl).2.1
  obtain rfl : #[.int .i64 B1, .int .i64 B2] = cs_ := by have := ef.symm.trans ee; simpa only [Value.tuple.injEq, Value.agg.injEq, Array.mk.injEq, List.cons.injEq, and_true, true_and] using this
  clear ee ef f e5_ e1_ e6_
  have y_14_15 : p9 ≠ p10 := fun e => q_14_15 (hf (14, some 9) (.tail _ (.tail _ (.tail _ (.tail _ (.head _))))) rfl).1 (hf (15, some 10) (.tail _ (.tail _ (.tail _ (.tail _ (.tail _ (.head _)))))) rfl).1 (by have h1 := (hf (14, some 9) (.tail _ (.tail _ (.tail _ (.tail _ (.head _))))) rfl).2.1; have h2 := (hf (15, some 10) (.tail _ (.tail _ (.tail _ (.tail _ (.tail _ (.head _)))))) rfl).2.1; rw [h1, h2]; show Value.pointer _ = .pointer _; rw [e])
  clear hd hf jk j0 q_14_15
  refine hQ _ _ ?_
  clear hQ hops Q' ops'
  have ca0 := oa.q0
  have ca1 := oa.q1
  have ca2 := oa.q2
  have ca3 := oa.q3
  have la := oa.lt
  have lr := or.lt
  have lz := oz.lt
  have cu0 := ou.q0
  have cu1 := ou.q1
  have lu := ou.lt
  have cc0 := oc.q0
  have cc1 := oc.q1
  have lc := oc.lt
  have cd0 := od.q0
  have cd1 := od.q1
  have ld := od.lt
  have zd_6 : p10 < w6.heap.size := od.lt
  have zz6 := B.size
  go_upto_region 9 with fail
  refine Reg.wp_chain_n (fun N0 D v W => Below w.heap.size w W ∧ Keeps w6 W ∧ N0 ≤ W.heap.size ∧ Blk W (w.heap.size) 23 #[.int .i64 k0, .int .i64 k1, .int .i64 k2, .int .i64 k3] ∧ ((D 13 = false → Blk W (w.heap.size + 1) 71 #[.int .i64 0, .int .i64 0, .int .i64 0, .int .i64 0, .int .i64 0, .int .i64 0, .int .i64 0, .int .i64 0, .int .i64 0]) ∧ (D 13 = true → Blk W (w.heap.size + 1) 71 #[.int .i64 k0, .int .i64 k1, .int .i64 k2, .int .i64 k3, .int .i64 A1, .int .i64 A2, .int .i64 B1, .int .i64 B2, .int .i64 N_])) ∧ Blk W (w.heap.size + 1 + 1) 128 #[.int .i64 x0, .int .i64 y0, .int .i64 x1, .int .i64 y1, .int .i64 x2, .int .i64 y2, .int .i64 x3, .int .i64 y3] ∧ Blk W (w5.heap.size) 127 #[.int .i64 ux, .int .i64 uy] ∧ Blk W (p9) 127 #[.int .i64 A1, .int .i64 A2] ∧ Blk W (p10) 127 #[.int .i64 B1, .int .i64 B2])
    (Reg.inl [11, 13]) (Reg.gv [(11, fun z_ => z_ = .int .i64 N_)]) (gw []) (fun _ => Keeps) (fun _ _ => False) (Reg.pl [(13, [(11, some 60)]), (14, [(11, some 60)])]) (Reg.pl [])
    (by kernel_rfl) (by kernel_rfl) (by kernel_rfl) (Reg.gv_some _ (by intro p hp; simp only [List.mem_cons, List.not_mem_nil, or_false] at hp; rcases hp with rfl <;> first | exact ⟨_, rfl⟩ | exact ⟨_, 0, rfl⟩ | exact ⟨_, none, 0, 0, rfl⟩ | exact ⟨_, false, none, 0, 0, rfl⟩ | exact ⟨_, false, none, 0, 0, false, none, 0, 0, rfl⟩)) (fun N0 hN0 => ⟨fun v => ?_, fun D v v' W hv hj => ?_, fun D v k j W W' x _ _ _ _ hk hg => gw_keeps _ (by intro p hp; cases hp) hk hg, fun _ _ _ _ h => h.elim, fun ops' Q' hops hQ => ?_⟩)
  · exact ⟨belowB, keepsB, Nat.le_of_eq hN0.out, ownK, ⟨fun _ => ownK, (fun h => Bool.noConfusion h)⟩, ownK, ownK, ownK, ownK⟩
  · obtain ⟨j0, jk, jn, b_a, b_r, b_z, b_u, b_c, b_d⟩ := hj
    exact ⟨j0, jk, jn, b_a, b_r, b_z, b_u, b_c, b_d⟩
  have i_a : w.heap.size < N0 := by have e := hN0.out; (try simp only [World.size_alloc, World.size_setCell, World.size_drew, World.heap_drewN] at e); first | omega | (have h := oa.lt; omega)
  have i_r : w.heap.size + 1 < N0 := by have e := hN0.out; (try simp only [World.size_alloc, World.size_setCell, World.size_drew, World.heap_drewN] at e); first | omega | (have h := or.lt; omega)
  have i_z : w.heap.size + 1 + 1 < N0 := by have e := hN0.out; (try simp only [World.size_alloc, World.size_setCell, World.size_drew, World.heap_drewN] at e); first | omega | (have h := oz.lt; omega)
  have i_u : w5.heap.size < N0 := by have e := hN0.out; (try simp only [World.size_alloc, World.size_setCell, World.size_drew, World.heap_drewN] at e); first | omega | (have h := ou.lt; omega)
  have i_c : p9 < N0 := by have e := hN0.out; (try simp only [World.size_alloc, World.size_setCell, World.size_drew, World.heap_drewN] at e); first | omega | (have h := oc.lt; omega)
  have i_d : p10 < N0 := by have e := hN0.out; (try simp only [World.size_alloc, World.size_setCell, World.size_drew, World.heap_drewN] at e); first | omega | (have h := od.lt; omega)
  have iw : w.heap.size ≤ N0 := by have e := hN0.out; (try simp only [World.size_alloc, World.size_setCell, World.size_drew, World.heap_drewN] at e); first | omega | (have h := B.size; omega)
  clear ca0 ca1 ca2 ca3 la lr lz cu0 cu1 lu cc0 cc1 lc cd0 cd1 ld
  clear hN0
  apply Reg.RC_pure (hc := rfl) (hst := rfl) (hw := rfl) (t := 49) (hd := rfl) (ht := Nat.le_of_ble_eq_true rfl)
  · intro D v' W' hc hj hf K hK
    obtain ⟨j0, jk, jn, b_a, b_r, b_z, b_u, b_c, b_d⟩ := hj
    have c0 : W'.cell? ⟨w.heap.size, 0, none⟩ = some (.int .i64 k0) := b_a.c 0 rfl
    have c1 : W'.cell? ⟨w.heap.size, 1, none⟩ = some (.int .i64 k1) := b_a.c 1 rfl
    have c2 : W'.cell? ⟨w.heap.size, 2, none⟩ = some (.int .i64 k2) := b_a.c 2 rfl
    have c3 : W'.cell? ⟨w.heap.size, 3, none⟩ = some (.int .i64 k3) := b_a.c 3 rfl
    go_step
    exact hK.out
  · rfl
  apply Reg.RC_pure (hc := rfl) (hst := rfl) (hw := rfl) (t := 50) (hd := rfl) (ht := Nat.le_of_ble_eq_true rfl)
  · intro D v' W' hc hj hf K hK
    go_step
    exact hK.out
  · rfl
  apply Reg.RC_pure (hc := rfl) (hst := rfl) (hw := rfl) (t := 51) (hd := rfl) (ht := Nat.le_of_ble_eq_true rfl)
  · intro D v' W' hc hj hf K hK
    obtain ⟨j0, jk, jn, b_a, b_r, b_z, b_u, b_c, b_d⟩ := hj
    have c0 : W'.cell? ⟨p9, 0, none⟩ = some (.int .i64 A1) := b_c.c 0 rfl
    have c1 : W'.cell? ⟨p9, 1, none⟩ = some (.int .i64 A2) := b_c.c 1 rfl
    go_step
    exact hK.out
  · rfl
  apply Reg.RC_pure (hc := rfl) (hst := rfl) (hw := rfl) (t := 52) (hd := rfl) (ht := Nat.le_of_ble_eq_true rfl)
  · intro D v' W' hc hj hf K hK
    go_step
    exact hK.out
  · rfl
  apply Reg.RC_pure (hc := rfl) (hst := rfl) (hw := rfl) (t := 53) (hd := rfl) (ht := Nat.le_of_ble_eq_true rfl)
  · intro D v' W' hc hj hf K hK
    obtain ⟨j0, jk, jn, b_a, b_r, b_z, b_u, b_c, b_d⟩ := hj
    have c0 : W'.cell? ⟨p9, 0, none⟩ = some (.int .i64 A1) := b_c.c 0 rfl
    have c1 : W'.cell? ⟨p9, 1, none⟩ = some (.int .i64 A2) := b_c.c 1 rfl
    go_step
    exact hK.out
  · rfl
  apply Reg.RC_pure (hc := rfl) (hst := rfl) (hw := rfl) (t := 54) (hd := rfl) (ht := Nat.le_of_ble_eq_true rfl)
  · intro D v' W' hc hj hf K hK
    go_step
    exact hK.out
  · rfl
  apply Reg.RC_pure (hc := rfl) (hst := rfl) (hw := rfl) (t := 55) (hd := rfl) (ht := Nat.le_of_ble_eq_true rfl)
  · intro D v' W' hc hj hf K hK
    obtain ⟨j0, jk, jn, b_a, b_r, b_z, b_u, b_c, b_d⟩ := hj
    have c0 : W'.cell? ⟨p10, 0, none⟩ = some (.int .i64 B1) := b_d.c 0 rfl
    have c1 : W'.cell? ⟨p10, 1, none⟩ = some (.int .i64 B2) := b_d.c 1 rfl
    go_step
    exact hK.out
  · rfl
  apply Reg.RC_pure (hc := rfl) (hst := rfl) (hw := rfl) (t := 56) (hd := rfl) (ht := Nat.le_of_ble_eq_true rfl)
  · intro D v' W' hc hj hf K hK
    go_step
    exact hK.out
  · rfl
  apply Reg.RC_pure (hc := rfl) (hst := rfl) (hw := rfl) (t := 57) (hd := rfl) (ht := Nat.le_of_ble_eq_true rfl)
  · intro D v' W' hc hj hf K hK
    obtain ⟨j0, jk, jn, b_a, b_r, b_z, b_u, b_c, b_d⟩ := hj
    have c0 : W'.cell? ⟨p10, 0, none⟩ = some (.int .i64 B1) := b_d.c 0 rfl
    have c1 : W'.cell? ⟨p10, 1, none⟩ = some (.int .i64 B2) := b_d.c 1 rfl
    go_step
    exact hK.out
  · rfl
  apply Reg.RC_pure (hc := rfl) (hst := rfl) (hw := rfl) (t := 58) (hd := rfl) (ht := Nat.le_of_ble_eq_true rfl)
  · intro D v' W' hc hj hf K hK
    go_step
    exact hK.out
  · rfl
  apply Reg.RC_pure (hc := rfl) (hst := rfl) (hw := rfl) (t := 59) (hd := rfl) (ht := Nat.le_of_ble_eq_true rfl)
  · intro D v' W' hc hj hf K hK
    obtain ⟨j0, jk, jn, b_a, b_r, b_z, b_u, b_c, b_d⟩ := hj
    have c0 : W'.cell? ⟨w5.heap.size, 0, none⟩ = some (.int .i64 ux) := b_u.c 0 rfl
    have c1 : W'.cell? ⟨w5.heap.size, 1, none⟩ = some (.int .i64 uy) := b_u.c 1 rfl
    go_step
    exact hK.out
  · rfl
  refine Reg.RC_call rfl (by intro t ht; cases ht; exact Nat.le_of_ble_eq_true rfl) rfl (fun D v' W' hc hj hf K hK => ?_) ?_
  · obtain ⟨j0, jk, jn, b_a, b_r, b_z, b_u, b_c, b_d⟩ := hj
    clear hf
    go_step
    refine (sq W').mono ?_
    rintro e W2 ⟨rfl, hs⟩
    exact hK.out _ W2 (Keeps.steps hs) ⟨below_steps j0 (Nat.le_refl _) hs, jk.then_ hs, Nat.le_trans jn hs.size, b_a.steps hs, ⟨fun h => (b_r.1 h).steps hs, fun h => (b_r.2 h).steps hs⟩, b_z.steps hs, b_u.steps hs, b_c.steps hs, b_d.steps hs⟩ trivial rfl
  rintro _ rfl
  refine Reg.RC_at (b := ⟨#[_,_,_,_,_,_,_,_,_,_,_,_,_,_,_,_,_,_,_,_,_,_,_,_,_,_,_,_,_,_,_,_,_,_,_,_,_,_,_,_,_,_,_,_,_,_,_,_,_,_,_,_,_,_,_,_,_,_,_,_,_,_], _⟩) rfl ?_
  apply Reg.RC_pure (hc := rfl) (hst := rfl) (hw := rfl) (t := 61) (hd := rfl) (ht := Nat.le_of_ble_eq_true rfl)
  · intro D v' W' hc hj hf K hK
    go_step
    exact hK.out
  · rfl
  refine Reg.RC_call rfl (by intro t ht; cases ht) rfl (fun D v' W' hc hj hf K hK => ?_) (fun _ _ => Reg.RC_at (b := ⟨_, _⟩) rfl ?_)
  · obtain ⟨j0, jk, jn, b_a, b_r, b_z, b_u, b_c, b_d⟩ := hj
    have hb := b_r.1 hc.1
    have e2 : w.heap.size ≤ w.heap.size + 1 := by omega
    have ff := hb.fr
    have cc0 : W'.cell? ⟨w.heap.size + 1, 0, none⟩ = some (.int .i64 0) := hb.c 0 rfl
    have cc1 : W'.cell? ⟨w.heap.size + 1, 1, none⟩ = some (.int .i64 0) := hb.c 1 rfl
    have cc2 : W'.cell? ⟨w.heap.size + 1, 2, none⟩ = some (.int .i64 0) := hb.c 2 rfl
    have cc3 : W'.cell? ⟨w.heap.size + 1, 3, none⟩ = some (.int .i64 0) := hb.c 3 rfl
    have cc4 : W'.cell? ⟨w.heap.size + 1, 4, none⟩ = some (.int .i64 0) := hb.c 4 rfl
    have cc5 : W'.cell? ⟨w.heap.size + 1, 5, none⟩ = some (.int .i64 0) := hb.c 5 rfl
    have cc6 : W'.cell? ⟨w.heap.size + 1, 6, none⟩ = some (.int .i64 0) := hb.c 6 rfl
    have cc7 : W'.cell? ⟨w.heap.size + 1, 7, none⟩ = some (.int .i64 0) := hb.c 7 rfl
    have cc8 : W'.cell? ⟨w.heap.size + 1, 8, none⟩ = some (.int .i64 0) := hb.c 8 rfl
    go_step
    exact hK.out undef _ (Keeps.only hb rfl ((Only.refl _ _).set.set.set.set.set.set.set.set.set)) ⟨(Below.setCell (p := ⟨w.heap.size + 1, 8, none⟩) (Below.setCell (p := ⟨w.heap.size + 1, 7, none⟩) (Below.setCell (p := ⟨w.heap.size + 1, 6, none⟩) (Below.setCell (p := ⟨w.heap.size + 1, 5, none⟩) (Below.setCell (p := ⟨w.heap.size + 1, 4, none⟩) (Below.setCell (p := ⟨w.heap.size + 1, 3, none⟩) (Below.setCell (p := ⟨w.heap.size + 1, 2, none⟩) (Below.setCell (p := ⟨w.heap.size + 1, 1, none⟩) (Below.setCell (p := ⟨w.heap.size + 1, 0, none⟩) j0 (by show w.heap.size ≤ w.heap.size + 1; omega) _) (by show w.heap.size ≤ w.heap.size + 1; omega) _) (by show w.heap.size ≤ w.heap.size + 1; omega) _) (by show w.heap.size ≤ w.heap.size + 1; omega) _) (by show w.heap.size ≤ w.heap.size + 1; omega) _) (by show w.heap.size ≤ w.heap.size + 1; omega) _) (by show w.heap.size ≤ w.heap.size + 1; omega) _) (by show w.heap.size ≤ w.heap.size + 1; omega) _) (by show w.heap.size ≤ w.heap.size + 1; omega) _), jk.trans (Keeps.only hb rfl ((Only.refl _ _).set.set.set.set.set.set.set.set.set)), by simpa using jn, (((((((((b_a).far' (show w.heap.size ≠ w.heap.size + 1 by omega)).far' (show w.heap.size ≠ w.heap.size + 1 by omega)).far' (show w.heap.size ≠ w.heap.size + 1 by omega)).far' (show w.heap.size ≠ w.heap.size + 1 by omega)).far' (show w.heap.size ≠ w.heap.size + 1 by omega)).far' (show w.heap.size ≠ w.heap.size + 1 by omega)).far' (show w.heap.size ≠ w.heap.size + 1 by omega)).far' (show w.heap.size ≠ w.heap.size + 1 by omega)).far' (show w.heap.size ≠ w.heap.size + 1 by omega), ⟨fun h => Bool.noConfusion h, fun _ => (Blk.set2 (cs' := #[.int .i64 k0, .int .i64 k1, .int .i64 k2, .int .i64 k3, .int .i64 A1, .int .i64 A2, .int .i64 B1, .int .i64 B2, .int .i64 N_]) (Blk.set2 (cs' := #[.int .i64 k0, .int .i64 k1, .int .i64 k2, .int .i64 k3, .int .i64 A1, .int .i64 A2, .int .i64 B1, .int .i64 B2, .int .i64 0]) (Blk.set2 (cs' := #[.int .i64 k0, .int .i64 k1, .int .i64 k2, .int .i64 k3, .int .i64 A1, .int .i64 A2, .int .i64 B1, .int .i64 0, .int .i64 0]) (Blk.set2 (cs' := #[.int .i64 k0, .int .i64 k1, .int .i64 k2, .int .i64 k3, .int .i64 A1, .int .i64 A2, .int .i64 0, .int .i64 0, .int .i64 0]) (Blk.set2 (cs' := #[.int .i64 k0, .int .i64 k1, .int .i64 k2, .int .i64 k3, .int .i64 A1, .int .i64 0, .int .i64 0, .int .i64 0, .int .i64 0]) (Blk.set2 (cs' := #[.int .i64 k0, .int .i64 k1, .int .i64 k2, .int .i64 k3, .int .i64 0, .int .i64 0, .int .i64 0, .int .i64 0, .int .i64 0]) (Blk.set2 (cs' := #[.int .i64 k0, .int .i64 k1, .int .i64 k2, .int .i64 0, .int .i64 0, .int .i64 0, .int .i64 0, .int .i64 0, .int .i64 0]) (Blk.set2 (cs' := #[.int .i64 k0, .int .i64 k1, .int .i64 0, .int .i64 0, .int .i64 0, .int .i64 0, .int .i64 0, .int .i64 0, .int .i64 0]) (Blk.set2 (cs' := #[.int .i64 k0, .int .i64 0, .int .i64 0, .int .i64 0, .int .i64 0, .int .i64 0, .int .i64 0, .int .i64 0, .int .i64 0]) hb (i := 0) rfl) (i := 1) rfl) (i := 2) rfl) (i := 3) rfl) (i := 4) rfl) (i := 5) rfl) (i := 6) rfl) (i := 7) rfl) (i := 8) rfl)⟩, (((((((((b_z).far' (show w.heap.size + 1 + 1 ≠ w.heap.size + 1 by omega)).far' (show w.heap.size + 1 + 1 ≠ w.heap.size + 1 by omega)).far' (show w.heap.size + 1 + 1 ≠ w.heap.size + 1 by omega)).far' (show w.heap.size + 1 + 1 ≠ w.heap.size + 1 by omega)).far' (show w.heap.size + 1 + 1 ≠ w.heap.size + 1 by omega)).far' (show w.heap.size + 1 + 1 ≠ w.heap.size + 1 by omega)).far' (show w.heap.size + 1 + 1 ≠ w.heap.size + 1 by omega)).far' (show w.heap.size + 1 + 1 ≠ w.heap.size + 1 by omega)).far' (show w.heap.size + 1 + 1 ≠ w.heap.size + 1 by omega), (((((((((b_u).far' (show w5.heap.size ≠ w.heap.size + 1 by omega)).far' (show w5.heap.size ≠ w.heap.size + 1 by omega)).far' (show w5.heap.size ≠ w.heap.size + 1 by omega)).far' (show w5.heap.size ≠ w.heap.size + 1 by omega)).far' (show w5.heap.size ≠ w.heap.size + 1 by omega)).far' (show w5.heap.size ≠ w.heap.size + 1 by omega)).far' (show w5.heap.size ≠ w.heap.size + 1 by omega)).far' (show w5.heap.size ≠ w.heap.size + 1 by omega)).far' (show w5.heap.size ≠ w.heap.size + 1 by omega), (((((((((b_c).far' (show p9 ≠ w.heap.size + 1 by omega)).far' (show p9 ≠ w.heap.size + 1 by omega)).far' (show p9 ≠ w.heap.size + 1 by omega)).far' (show p9 ≠ w.heap.size + 1 by omega)).far' (show p9 ≠ w.heap.size + 1 by omega)).far' (show p9 ≠ w.heap.size + 1 by omega)).far' (show p9 ≠ w.heap.size + 1 by omega)).far' (show p9 ≠ w.heap.size + 1 by omega)).far' (show p9 ≠ w.heap.size + 1 by omega), (((((((((b_d).far' (show p10 ≠ w.heap.size + 1 by omega)).far' (show p10 ≠ w.heap.size + 1 by omega)).far' (show p10 ≠ w.heap.size + 1 by omega)).far' (show p10 ≠ w.heap.size + 1 by omega)).far' (show p10 ≠ w.heap.size + 1 by omega)).far' (show p10 ≠ w.heap.size + 1 by omega)).far' (show p10 ≠ w.heap.size + 1 by omega)).far' (show p10 ≠ w.heap.size + 1 by omega)).far' (show p10 ≠ w.heap.size + 1 by omega)⟩ trivial trivial
  refine Reg.RC_end (fun Dn v' w7 hd hj hf => ?_)
  obtain ⟨j0, jk, jn, b_a, b_r, b_z, b_u, b_c, b_d⟩ := hj
  have B := j0
  have oa := b_a
  clear b_a
  have or := b_r.2 (hd 13 (Nat.le_of_ble_eq_true rfl))
  clear b_r
  have oz := b_z
  clear b_z
  have ou := b_u
  clear b_u
  have oc := b_c
  clear b_c
  have od := b_d
  clear b_d
  clear hd hf jk j0
  refine hQ _ _ ?_
  clear hQ hops Q' ops'
  have la := oa.lt
  have cr0 := or.q0
  have cr1 := or.q1
  have cr2 := or.q2
  have cr3 := or.q3
  have cr4 := or.q4
  have cr5 := or.q5
  have cr6 := or.q6
  have cr7 := or.q7
  have cr8 := or.q8
  have lr := or.lt
  have lz := oz.lt
  go_wp2_with fail
  refine bodyPost_ret (by simp [results, Try.results57, go_sem, la, cr0, cr1, cr2, cr3, cr4, cr5, cr6, cr7, cr8, lr, lz]; rfl) rfl ?_
  exact ⟨rfl, belowB⟩
end Go.Proofs.Ytibdehlmflaodaa
