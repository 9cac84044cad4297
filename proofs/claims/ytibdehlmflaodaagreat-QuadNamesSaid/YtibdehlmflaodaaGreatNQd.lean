import Derived.Test.YtibdehlmflaodaaGreatNQc
import Derived.Test.YtibdehlmflaodaaGreatNTz
import Derived.LoopN
set_option linter.unusedVariables false
set_option linter.unusedSimpArgs false
set_option maxHeartbeats 6400000
set_option maxRecDepth 1000000
namespace Go.Proofs.YtibdehlmflaodaaGreat
open Go.RowKit
structure At4 (w : World) (v : Value) (l : List (Int × Int)) (k0 k1 k2 k3 : Nat) (p0 p1 p2 p3 : Int × Int) : Prop where
 pts : Pts w v l
 lt : k0 < l.length ∧ k1 < l.length ∧ k2 < l.length ∧ k3 < l.length
 eq : l.getD k0 (0, 0) = p0 ∧ l.getD k1 (0, 0) = p1 ∧ l.getD k2 (0, 0) = p2 ∧ l.getD k3 (0, 0) = p3
def okp (x y : Int) : Prop := -1048576 ≤ x ∧ x ≤ 1048576 ∧ -1048576 ≤ y ∧ y ≤ 1048576
theorem okp_sm {x y z u : Int} (h : okp x y) (k : okp z u) : sm (x - z) (y - u) := by unfold okp at *; unfold sm; omega
theorem okp_sm0 {x y : Int} (h : okp x y) : sm x y := by unfold okp at *; unfold sm; omega
theorem qarrange {v : Value} {l : List (Int × Int)} (k0 k1 k2 k3 : Nat) (x0 y0 x1 y1 x2 y2 x3 y3 : Int) (w : World) (h : At4 w v l k0 k1 k2 k3 (x0, y0) (x1, y1) (x2, y2) (x3, y3)) (p0 : okp x0 y0) (p1 : okp x1 y1) (p2 : okp x2 y2) (p3 : okp x3 y3) :
  Calls Tryz.prog 37 #[v, .agg #[.int .i64 k0, .int .i64 k1, .int .i64 k2, .int .i64 k3]] w fun e w' => e = .returned (.agg #[.int .i64 k0, .int .i64 k1, .int .i64 k2, .int .i64 k3,
   .int .i64 (cre (x1 - x0) (y1 - y0) (x2 - x0) (y2 - y0)), .int .i64 (cim (x1 - x0) (y1 - y0) (x2 - x0) (y2 - y0)), .int .i64 (cre (x1 - x0) (y1 - y0) (x3 - x0) (y3 - y0)), .int .i64 (cim (x1 - x0) (y1 - y0) (x3 - x0) (y3 - y0)), .int .i64 (csq (x1 - x0) (y1 - y0))]) ∧ Steps w w' := by
 obtain ⟨hp, ⟨h0, h1, h2, h3⟩, e0, e1, e2, e3⟩ := h
 obtain ⟨ao, cap, rfl⟩ := hp.shape
 obtain ⟨-, hc, hm⟩ := hp.cells
 obtain ⟨b, o, rfl, hb, hcell⟩ := hm (by omega)
 have c00 := (hcell k0 h0).1
 have c01 := (hcell k0 h0).2
 have c10 := (hcell k1 h1).1
 have c11 := (hcell k1 h1).2
 have c20 := (hcell k2 h2).1
 have c21 := (hcell k2 h2).2
 have c30 := (hcell k3 h3).1
 have c31 := (hcell k3 h3).2
 rw [e0] at c00 c01
 rw [e1] at c10 c11
 rw [e2] at c20 c21
 rw [e3] at c30 c31
 dsimp only at c00 c01 c10 c11 c20 c21 c30 c31
 obtain ⟨n, hn⟩ : ∃ n, l.length = n := ⟨_, rfl⟩
 rw [hn] at hc h0 h1 h2 h3 ⊢
 clear hp hm hcell e0 e1 e2 e3 hn
 have m1 := fun w' => qminus x1 y1 x0 y0 w' (okp_sm0 p1) (okp_sm0 p0)
 have m2 := fun w' => qminus x2 y2 x0 y0 w' (okp_sm0 p2) (okp_sm0 p0)
 have m3 := fun w' => qminus x3 y3 x0 y0 w' (okp_sm0 p3) (okp_sm0 p0)
 have s1 := okp_sm p1 p0
 have s2 := okp_sm p2 p0
 have s3 := okp_sm p3 p0
 obtain ⟨ux, hux⟩ : ∃ z, x1 - x0 = z := ⟨_, rfl⟩
 obtain ⟨uy, huy⟩ : ∃ z, y1 - y0 = z := ⟨_, rfl⟩
 obtain ⟨ax, hax⟩ : ∃ z, x2 - x0 = z := ⟨_, rfl⟩
 obtain ⟨ay, hay⟩ : ∃ z, y2 - y0 = z := ⟨_, rfl⟩
 obtain ⟨bx, hbx⟩ : ∃ z, x3 - x0 = z := ⟨_, rfl⟩
 obtain ⟨by_, hby⟩ : ∃ z, y3 - y0 = z := ⟨_, rfl⟩
 rw [hux, huy] at m1 s1
 rw [hax, hay] at m2 s2
 rw [hbx, hby] at m3 s3
 rw [hux, huy, hax, hay, hbx, hby]
 have j2 : ∀ w', Calls Tryz.prog 63 #[.agg #[.int .i64 ax, .int .i64 ay], .agg #[.int .i64 ux, .int .i64 uy]] w' fun e w2 => e = .returned (.agg #[.int .i64 (cre ux uy ax ay), .int .i64 (cim ux uy ax ay)]) ∧ Steps w' w2 := fun w' => qconj ax ay ux uy w' s2 s1
 have j3 : ∀ w', Calls Tryz.prog 63 #[.agg #[.int .i64 bx, .int .i64 by_], .agg #[.int .i64 ux, .int .i64 uy]] w' fun e w2 => e = .returned (.agg #[.int .i64 (cre ux uy bx by_), .int .i64 (cim ux uy bx by_)]) ∧ Steps w' w2 := fun w' => qconj bx by_ ux uy w' s3 s1
 have sq : ∀ w', Calls Tryz.prog 64 #[.agg #[.int .i64 ux, .int .i64 uy]] w' fun e w2 => e = .returned (.int .i64 (csq ux uy)) ∧ Steps w' w2 := fun w' => qsquare ux uy w' s1
 obtain ⟨A1, hA1⟩ : ∃ z, cre ux uy ax ay = z := ⟨_, rfl⟩
 obtain ⟨A2, hA2⟩ : ∃ z, cim ux uy ax ay = z := ⟨_, rfl⟩
 obtain ⟨B1, hB1⟩ : ∃ z, cre ux uy bx by_ = z := ⟨_, rfl⟩
 obtain ⟨B2, hB2⟩ : ∃ z, cim ux uy bx by_ = z := ⟨_, rfl⟩
 obtain ⟨N_, hN⟩ : ∃ z, csq ux uy = z := ⟨_, rfl⟩
 rw [hA1, hA2] at j2
 rw [hB1, hB2] at j3
 rw [hN] at sq
 rw [hA1, hA2, hB1, hB2, hN]
 clear hux huy hax hay hbx hby s1 s2 s3 hA1 hA2 hB1 hB2 hN p0 p1 p2 p3
 have ix0 : ∀ w' : World, (Instr.index 25 (.agg #[.int .i64 (k0 : Int), .int .i64 (k1 : Int), .int .i64 (k2 : Int), .int .i64 (k3 : Int)]) (.int .i64 0)).run Tryz.prog w' = .ok (.int .i64 (k0 : Int)) w' := fun w' => by kernel_rfl
 have ix1 : ∀ w' : World, (Instr.index 25 (.agg #[.int .i64 (k0 : Int), .int .i64 (k1 : Int), .int .i64 (k2 : Int), .int .i64 (k3 : Int)]) (.int .i64 1)).run Tryz.prog w' = .ok (.int .i64 (k1 : Int)) w' := fun w' => by kernel_rfl
 have ix2 : ∀ w' : World, (Instr.index 25 (.agg #[.int .i64 (k0 : Int), .int .i64 (k1 : Int), .int .i64 (k2 : Int), .int .i64 (k3 : Int)]) (.int .i64 2)).run Tryz.prog w' = .ok (.int .i64 (k2 : Int)) w' := fun w' => by kernel_rfl
 have ix3 : ∀ w' : World, (Instr.index 25 (.agg #[.int .i64 (k0 : Int), .int .i64 (k1 : Int), .int .i64 (k2 : Int), .int .i64 (k3 : Int)]) (.int .i64 3)).run Tryz.prog w' = .ok (.int .i64 (k3 : Int)) w' := fun w' => by kernel_rfl
 go_enter Tryz.func37, Tryz.ntmps37
 go_wp2_with fail
 refine wp_loop_rounds 5 ?_
 rw [rounds_succ]
 go_upto_region 5 with fail
 refine Reg.wp_chain_n (fun N0 D v W => Below w.heap.size w W ∧ Keeps w W ∧ N0 ≤ W.heap.size ∧ Blk W (w.heap.size) 25 #[.int .i64 k0, .int .i64 k1, .int .i64 k2, .int .i64 k3] ∧ Blk W (w.heap.size + 1) 57 #[.int .i64 0, .int .i64 0, .int .i64 0, .int .i64 0, .int .i64 0, .int .i64 0, .int .i64 0, .int .i64 0, .int .i64 0] ∧ ((D 13 = false → Blk W (w.heap.size + 1 + 1) 108 #[.int .i64 0, .int .i64 0, .int .i64 0, .int .i64 0, .int .i64 0, .int .i64 0, .int .i64 0, .int .i64 0]) ∧ (D 13 = true → Blk W (w.heap.size + 1 + 1) 108 #[.int .i64 x0, .int .i64 y0, .int .i64 0, .int .i64 0, .int .i64 0, .int .i64 0, .int .i64 0, .int .i64 0])))
  (Reg.inl [13]) (Reg.gv []) (gw []) (fun _ => Keeps) (fun _ _ => False) (Reg.pl [(14, [])]) (Reg.pl [])
  (by kernel_rfl) (by kernel_rfl) (by kernel_rfl) (Reg.gv_some _ (by intro p hp; cases hp)) (fun N0 hN0 => ⟨fun v => ?_, fun D v v' W hv hj => ?_, fun D v k j W W' x _ _ _ _ hk hg => gw_keeps _ (by intro p hp; cases hp) hk hg, fun _ _ _ _ h => h.elim, fun ops' Q' hops hQ => ?_⟩)
 · exact ⟨belowB, keepsB, Nat.le_of_eq hN0.out, ownK, ownK, ⟨fun _ => ownK, (fun h => Bool.noConfusion h)⟩⟩
 ·
  obtain ⟨j0, jk, jn, b_a, b_r, b_z⟩ := hj
  exact ⟨j0, jk, jn, b_a, b_r, b_z⟩
 have eN := hN0.out
 try simp only [World.size_alloc, World.size_setCell, World.size_drew, World.heap_drewN] at eN
 have i_a : w.heap.size < N0 := by first | omega | (have h := oa.lt; omega)
 have i_r : w.heap.size + 1 < N0 := by first | omega | (have h := or.lt; omega)
 have i_z : w.heap.size + 1 + 1 < N0 := by first | omega | (have h := oz.lt; omega)
 have iw : w.heap.size ≤ N0 := by first | omega | (have h := B.size; omega)
 clear hN0 eN
 refine Reg.RP0 16 ?_
 refine Reg.RP0 17 ?_
 refine Reg.RP0 18 ?_
 refine Reg.RP0 19 ?_
 refine Reg.RP0 20 ?_
 apply Reg.RP rfl rfl rfl 21 rfl rfl
 ·
  intro D v' W' hc hj hf K hK
  obtain ⟨j0, jk, jn, b_a, b_r, b_z⟩ := hj
  have x0_ : W'.cell? ⟨b, o + k0 * 2, none⟩ = some (.int .i64 x0) := (j0.cell (p := ⟨b, o + k0 * 2, none⟩) hb).trans c00
  have x1_ : W'.cell? ⟨b, o + k0 * 2 + 1, none⟩ = some (.int .i64 y0) := (j0.cell (p := ⟨b, o + k0 * 2 + 1, none⟩) hb).trans c01
  have x2_ : W'.cell? ⟨b, o + k1 * 2, none⟩ = some (.int .i64 x1) := (j0.cell (p := ⟨b, o + k1 * 2, none⟩) hb).trans c10
  have x3_ : W'.cell? ⟨b, o + k1 * 2 + 1, none⟩ = some (.int .i64 y1) := (j0.cell (p := ⟨b, o + k1 * 2 + 1, none⟩) hb).trans c11
  have x4_ : W'.cell? ⟨b, o + k2 * 2, none⟩ = some (.int .i64 x2) := (j0.cell (p := ⟨b, o + k2 * 2, none⟩) hb).trans c20
  have x5_ : W'.cell? ⟨b, o + k2 * 2 + 1, none⟩ = some (.int .i64 y2) := (j0.cell (p := ⟨b, o + k2 * 2 + 1, none⟩) hb).trans c21
  have x6_ : W'.cell? ⟨b, o + k3 * 2, none⟩ = some (.int .i64 x3) := (j0.cell (p := ⟨b, o + k3 * 2, none⟩) hb).trans c30
  have x7_ : W'.cell? ⟨b, o + k3 * 2 + 1, none⟩ = some (.int .i64 y3) := (j0.cell (p := ⟨b, o + k3 * 2 + 1, none⟩) hb).trans c31
  go_step
  exact hK.out
 · rfl
 refine Reg.RP0 22 ?_
 refine Reg.RP0 23 ?_
 refine Reg.RP0 24 ?_
 refine Reg.RP0 25 ?_
 apply Reg.RP rfl rfl rfl 26 rfl rfl
 ·
  intro D v' W' hc hj hf K hK
  obtain ⟨j0, jk, jn, b_a, b_r, b_z⟩ := hj
  have x0_ : W'.cell? ⟨b, o + k0 * 2, none⟩ = some (.int .i64 x0) := (j0.cell (p := ⟨b, o + k0 * 2, none⟩) hb).trans c00
  have x1_ : W'.cell? ⟨b, o + k0 * 2 + 1, none⟩ = some (.int .i64 y0) := (j0.cell (p := ⟨b, o + k0 * 2 + 1, none⟩) hb).trans c01
  have x2_ : W'.cell? ⟨b, o + k1 * 2, none⟩ = some (.int .i64 x1) := (j0.cell (p := ⟨b, o + k1 * 2, none⟩) hb).trans c10
  have x3_ : W'.cell? ⟨b, o + k1 * 2 + 1, none⟩ = some (.int .i64 y1) := (j0.cell (p := ⟨b, o + k1 * 2 + 1, none⟩) hb).trans c11
  have x4_ : W'.cell? ⟨b, o + k2 * 2, none⟩ = some (.int .i64 x2) := (j0.cell (p := ⟨b, o + k2 * 2, none⟩) hb).trans c20
  have x5_ : W'.cell? ⟨b, o + k2 * 2 + 1, none⟩ = some (.int .i64 y2) := (j0.cell (p := ⟨b, o + k2 * 2 + 1, none⟩) hb).trans c21
  have x6_ : W'.cell? ⟨b, o + k3 * 2, none⟩ = some (.int .i64 x3) := (j0.cell (p := ⟨b, o + k3 * 2, none⟩) hb).trans c30
  have x7_ : W'.cell? ⟨b, o + k3 * 2 + 1, none⟩ = some (.int .i64 y3) := (j0.cell (p := ⟨b, o + k3 * 2 + 1, none⟩) hb).trans c31
  go_step
  exact hK.out
 · rfl
 refine Reg.RP0 27 ?_
 refine Reg.RP0 28 ?_
 refine Reg.RC_call rfl (by intro t ht; cases ht) rfl (fun D v' W' hc hj hf K hK => ?_) (fun _ _ => Reg.RC_at (b := ⟨_, _⟩) rfl ?_)
 ·
  obtain ⟨j0, jk, jn, b_a, b_r, b_z⟩ := hj
  have hb := b_z.1 hc.1
  have e2 : w.heap.size ≤ w.heap.size + 1 + 1 := by omega
  have ff := hb.fr
  obtain ⟨cc0, cc1⟩ := hb.r1
  go_step
  exact hK.out undef _ (Keeps.only hb rfl ((Only.refl _ _).set.set)) ⟨(Below.setCell (p := ⟨w.heap.size + 1 + 1, 1, none⟩) (Below.setCell (p := ⟨w.heap.size + 1 + 1, 0, none⟩) j0 (by show w.heap.size ≤ w.heap.size + 1 + 1; omega) _) (by show w.heap.size ≤ w.heap.size + 1 + 1; omega) _), jk.trans (Keeps.only hb rfl ((Only.refl _ _).set.set)), by simpa using jn, ((b_a).far' (show w.heap.size ≠ w.heap.size + 1 + 1 by omega)).far' (show w.heap.size ≠ w.heap.size + 1 + 1 by omega), ((b_r).far' (show w.heap.size + 1 ≠ w.heap.size + 1 + 1 by omega)).far' (show w.heap.size + 1 ≠ w.heap.size + 1 + 1 by omega), ⟨fun h => Bool.noConfusion h, fun _ => (Blk.set2 (cs' := #[.int .i64 x0, .int .i64 y0, .int .i64 0, .int .i64 0, .int .i64 0, .int .i64 0, .int .i64 0, .int .i64 0]) (Blk.set2 (cs' := #[.int .i64 x0, .int .i64 0, .int .i64 0, .int .i64 0, .int .i64 0, .int .i64 0, .int .i64 0, .int .i64 0]) hb (i := 0) rfl) (i := 1) rfl)⟩⟩ trivial trivial
 refine Reg.RC_end (fun Dn v' w1 hd hj hf => ?_)
 obtain ⟨j0, jk, jn, b_a, b_r, b_z⟩ := hj
 have B := j0
 have oa := b_a
 clear b_a
 have or := b_r
 clear b_r
 have oz := b_z.2 (hd 13 (Nat.le_of_ble_eq_true rfl))
 clear b_z
 clear hd hf jk j0
 refine hQ _ _ ?_
 clear hQ hops Q' ops'
 go_wp2_with fail
 rw [rounds_succ]
 have zz_1 : w.heap.size + 1 + 1 < w1.heap.size := oz.lt
 have zz1 := B.size
 go_upto_region 5 with fail
 refine Reg.wp_chain_n (fun N0 D v W => Below w.heap.size w W ∧ Keeps w1 W ∧ N0 ≤ W.heap.size ∧ Blk W (w.heap.size) 25 #[.int .i64 k0, .int .i64 k1, .int .i64 k2, .int .i64 k3] ∧ Blk W (w.heap.size + 1) 57 #[.int .i64 0, .int .i64 0, .int .i64 0, .int .i64 0, .int .i64 0, .int .i64 0, .int .i64 0, .int .i64 0, .int .i64 0] ∧ ((D 13 = false → Blk W (w.heap.size + 1 + 1) 108 #[.int .i64 x0, .int .i64 y0, .int .i64 0, .int .i64 0, .int .i64 0, .int .i64 0, .int .i64 0, .int .i64 0]) ∧ (D 13 = true → Blk W (w.heap.size + 1 + 1) 108 #[.int .i64 x0, .int .i64 y0, .int .i64 x1, .int .i64 y1, .int .i64 0, .int .i64 0, .int .i64 0, .int .i64 0])))
  (Reg.inl [13]) (Reg.gv []) (gw []) (fun _ => Keeps) (fun _ _ => False) (Reg.pl [(14, [])]) (Reg.pl [])
  (by kernel_rfl) (by kernel_rfl) (by kernel_rfl) (Reg.gv_some _ (by intro p hp; cases hp)) (fun N0 hN0 => ⟨fun v => ?_, fun D v v' W hv hj => ?_, fun D v k j W W' x _ _ _ _ hk hg => gw_keeps _ (by intro p hp; cases hp) hk hg, fun _ _ _ _ h => h.elim, fun ops' Q' hops hQ => ?_⟩)
 · exact ⟨belowB, keepsB, Nat.le_of_eq hN0.out, ownK, ownK, ⟨fun _ => ownK, (fun h => Bool.noConfusion h)⟩⟩
 ·
  obtain ⟨j0, jk, jn, b_a, b_r, b_z⟩ := hj
  exact ⟨j0, jk, jn, b_a, b_r, b_z⟩
 have eN := hN0.out
 try simp only [World.size_alloc, World.size_setCell, World.size_drew, World.heap_drewN] at eN
 have i_a : w.heap.size < N0 := by first | omega | (have h := oa.lt; omega)
 have i_r : w.heap.size + 1 < N0 := by first | omega | (have h := or.lt; omega)
 have i_z : w.heap.size + 1 + 1 < N0 := by first | omega | (have h := oz.lt; omega)
 have iw : w.heap.size ≤ N0 := by first | omega | (have h := B.size; omega)
 clear hN0 eN
 refine Reg.RP0 16 ?_
 refine Reg.RP0 17 ?_
 refine Reg.RP0 18 ?_
 refine Reg.RP0 19 ?_
 refine Reg.RP0 20 ?_
 apply Reg.RP rfl rfl rfl 21 rfl rfl
 ·
  intro D v' W' hc hj hf K hK
  obtain ⟨j0, jk, jn, b_a, b_r, b_z⟩ := hj
  have x0_ : W'.cell? ⟨b, o + k0 * 2, none⟩ = some (.int .i64 x0) := (j0.cell (p := ⟨b, o + k0 * 2, none⟩) hb).trans c00
  have x1_ : W'.cell? ⟨b, o + k0 * 2 + 1, none⟩ = some (.int .i64 y0) := (j0.cell (p := ⟨b, o + k0 * 2 + 1, none⟩) hb).trans c01
  have x2_ : W'.cell? ⟨b, o + k1 * 2, none⟩ = some (.int .i64 x1) := (j0.cell (p := ⟨b, o + k1 * 2, none⟩) hb).trans c10
  have x3_ : W'.cell? ⟨b, o + k1 * 2 + 1, none⟩ = some (.int .i64 y1) := (j0.cell (p := ⟨b, o + k1 * 2 + 1, none⟩) hb).trans c11
  have x4_ : W'.cell? ⟨b, o + k2 * 2, none⟩ = some (.int .i64 x2) := (j0.cell (p := ⟨b, o + k2 * 2, none⟩) hb).trans c20
  have x5_ : W'.cell? ⟨b, o + k2 * 2 + 1, none⟩ = some (.int .i64 y2) := (j0.cell (p := ⟨b, o + k2 * 2 + 1, none⟩) hb).trans c21
  have x6_ : W'.cell? ⟨b, o + k3 * 2, none⟩ = some (.int .i64 x3) := (j0.cell (p := ⟨b, o + k3 * 2, none⟩) hb).trans c30
  have x7_ : W'.cell? ⟨b, o + k3 * 2 + 1, none⟩ = some (.int .i64 y3) := (j0.cell (p := ⟨b, o + k3 * 2 + 1, none⟩) hb).trans c31
  go_step
  exact hK.out
 · rfl
 refine Reg.RP0 22 ?_
 refine Reg.RP0 23 ?_
 refine Reg.RP0 24 ?_
 refine Reg.RP0 25 ?_
 apply Reg.RP rfl rfl rfl 26 rfl rfl
 ·
  intro D v' W' hc hj hf K hK
  obtain ⟨j0, jk, jn, b_a, b_r, b_z⟩ := hj
  have x0_ : W'.cell? ⟨b, o + k0 * 2, none⟩ = some (.int .i64 x0) := (j0.cell (p := ⟨b, o + k0 * 2, none⟩) hb).trans c00
  have x1_ : W'.cell? ⟨b, o + k0 * 2 + 1, none⟩ = some (.int .i64 y0) := (j0.cell (p := ⟨b, o + k0 * 2 + 1, none⟩) hb).trans c01
  have x2_ : W'.cell? ⟨b, o + k1 * 2, none⟩ = some (.int .i64 x1) := (j0.cell (p := ⟨b, o + k1 * 2, none⟩) hb).trans c10
  have x3_ : W'.cell? ⟨b, o + k1 * 2 + 1, none⟩ = some (.int .i64 y1) := (j0.cell (p := ⟨b, o + k1 * 2 + 1, none⟩) hb).trans c11
  have x4_ : W'.cell? ⟨b, o + k2 * 2, none⟩ = some (.int .i64 x2) := (j0.cell (p := ⟨b, o + k2 * 2, none⟩) hb).trans c20
  have x5_ : W'.cell? ⟨b, o + k2 * 2 + 1, none⟩ = some (.int .i64 y2) := (j0.cell (p := ⟨b, o + k2 * 2 + 1, none⟩) hb).trans c21
  have x6_ : W'.cell? ⟨b, o + k3 * 2, none⟩ = some (.int .i64 x3) := (j0.cell (p := ⟨b, o + k3 * 2, none⟩) hb).trans c30
  have x7_ : W'.cell? ⟨b, o + k3 * 2 + 1, none⟩ = some (.int .i64 y3) := (j0.cell (p := ⟨b, o + k3 * 2 + 1, none⟩) hb).trans c31
  go_step
  exact hK.out
 · rfl
 refine Reg.RP0 27 ?_
 refine Reg.RP0 28 ?_
 refine Reg.RC_call rfl (by intro t ht; cases ht) rfl (fun D v' W' hc hj hf K hK => ?_) (fun _ _ => Reg.RC_at (b := ⟨_, _⟩) rfl ?_)
 ·
  obtain ⟨j0, jk, jn, b_a, b_r, b_z⟩ := hj
  have hb := b_z.1 hc.1
  have e2 : w.heap.size ≤ w.heap.size + 1 + 1 := by omega
  have ff := hb.fr
  have cc0 := hb.q2
  have cc1 := hb.q3
  go_step
  exact hK.out undef _ (Keeps.only hb rfl ((Only.refl _ _).set.set)) ⟨(Below.setCell (p := ⟨w.heap.size + 1 + 1, 3, none⟩) (Below.setCell (p := ⟨w.heap.size + 1 + 1, 2, none⟩) j0 (by show w.heap.size ≤ w.heap.size + 1 + 1; omega) _) (by show w.heap.size ≤ w.heap.size + 1 + 1; omega) _), jk.trans (Keeps.only hb rfl ((Only.refl _ _).set.set)), by simpa using jn, ((b_a).far' (show w.heap.size ≠ w.heap.size + 1 + 1 by omega)).far' (show w.heap.size ≠ w.heap.size + 1 + 1 by omega), ((b_r).far' (show w.heap.size + 1 ≠ w.heap.size + 1 + 1 by omega)).far' (show w.heap.size + 1 ≠ w.heap.size + 1 + 1 by omega), ⟨fun h => Bool.noConfusion h, fun _ => (Blk.set2 (cs' := #[.int .i64 x0, .int .i64 y0, .int .i64 x1, .int .i64 y1, .int .i64 0, .int .i64 0, .int .i64 0, .int .i64 0]) (Blk.set2 (cs' := #[.int .i64 x0, .int .i64 y0, .int .i64 x1, .int .i64 0, .int .i64 0, .int .i64 0, .int .i64 0, .int .i64 0]) hb (i := 2) rfl) (i := 3) rfl)⟩⟩ trivial trivial
 refine Reg.RC_end (fun Dn v' w2 hd hj hf => ?_)
 obtain ⟨j0, jk, jn, b_a, b_r, b_z⟩ := hj
 have B := j0
 have oa := b_a
 clear b_a
 have or := b_r
 clear b_r
 have oz := b_z.2 (hd 13 (Nat.le_of_ble_eq_true rfl))
 clear b_z
 clear hd hf jk j0
 refine hQ _ _ ?_
 clear hQ hops Q' ops'
 go_wp2_with fail
 rw [rounds_succ]
 have zz_2 : w.heap.size + 1 + 1 < w2.heap.size := oz.lt
 have zz2 := B.size
 go_upto_region 5 with fail
 refine Reg.wp_chain_n (fun N0 D v W => Below w.heap.size w W ∧ Keeps w2 W ∧ N0 ≤ W.heap.size ∧ Blk W (w.heap.size) 25 #[.int .i64 k0, .int .i64 k1, .int .i64 k2, .int .i64 k3] ∧ Blk W (w.heap.size + 1) 57 #[.int .i64 0, .int .i64 0, .int .i64 0, .int .i64 0, .int .i64 0, .int .i64 0, .int .i64 0, .int .i64 0, .int .i64 0] ∧ ((D 13 = false → Blk W (w.heap.size + 1 + 1) 108 #[.int .i64 x0, .int .i64 y0, .int .i64 x1, .int .i64 y1, .int .i64 0, .int .i64 0, .int .i64 0, .int .i64 0]) ∧ (D 13 = true → Blk W (w.heap.size + 1 + 1) 108 #[.int .i64 x0, .int .i64 y0, .int .i64 x1, .int .i64 y1, .int .i64 x2, .int .i64 y2, .int .i64 0, .int .i64 0])))
  (Reg.inl [13]) (Reg.gv []) (gw []) (fun _ => Keeps) (fun _ _ => False) (Reg.pl [(14, [])]) (Reg.pl [])
  (by kernel_rfl) (by kernel_rfl) (by kernel_rfl) (Reg.gv_some _ (by intro p hp; cases hp)) (fun N0 hN0 => ⟨fun v => ?_, fun D v v' W hv hj => ?_, fun D v k j W W' x _ _ _ _ hk hg => gw_keeps _ (by intro p hp; cases hp) hk hg, fun _ _ _ _ h => h.elim, fun ops' Q' hops hQ => ?_⟩)
 · exact ⟨belowB, keepsB, Nat.le_of_eq hN0.out, ownK, ownK, ⟨fun _ => ownK, (fun h => Bool.noConfusion h)⟩⟩
 ·
  obtain ⟨j0, jk, jn, b_a, b_r, b_z⟩ := hj
  exact ⟨j0, jk, jn, b_a, b_r, b_z⟩
 have eN := hN0.out
 try simp only [World.size_alloc, World.size_setCell, World.size_drew, World.heap_drewN] at eN
 have i_a : w.heap.size < N0 := by first | omega | (have h := oa.lt; omega)
 have i_r : w.heap.size + 1 < N0 := by first | omega | (have h := or.lt; omega)
 have i_z : w.heap.size + 1 + 1 < N0 := by first | omega | (have h := oz.lt; omega)
 have iw : w.heap.size ≤ N0 := by first | omega | (have h := B.size; omega)
 clear hN0 eN
 refine Reg.RP0 16 ?_
 refine Reg.RP0 17 ?_
 refine Reg.RP0 18 ?_
 refine Reg.RP0 19 ?_
 refine Reg.RP0 20 ?_
 apply Reg.RP rfl rfl rfl 21 rfl rfl
 ·
  intro D v' W' hc hj hf K hK
  obtain ⟨j0, jk, jn, b_a, b_r, b_z⟩ := hj
  have x0_ : W'.cell? ⟨b, o + k0 * 2, none⟩ = some (.int .i64 x0) := (j0.cell (p := ⟨b, o + k0 * 2, none⟩) hb).trans c00
  have x1_ : W'.cell? ⟨b, o + k0 * 2 + 1, none⟩ = some (.int .i64 y0) := (j0.cell (p := ⟨b, o + k0 * 2 + 1, none⟩) hb).trans c01
  have x2_ : W'.cell? ⟨b, o + k1 * 2, none⟩ = some (.int .i64 x1) := (j0.cell (p := ⟨b, o + k1 * 2, none⟩) hb).trans c10
  have x3_ : W'.cell? ⟨b, o + k1 * 2 + 1, none⟩ = some (.int .i64 y1) := (j0.cell (p := ⟨b, o + k1 * 2 + 1, none⟩) hb).trans c11
  have x4_ : W'.cell? ⟨b, o + k2 * 2, none⟩ = some (.int .i64 x2) := (j0.cell (p := ⟨b, o + k2 * 2, none⟩) hb).trans c20
  have x5_ : W'.cell? ⟨b, o + k2 * 2 + 1, none⟩ = some (.int .i64 y2) := (j0.cell (p := ⟨b, o + k2 * 2 + 1, none⟩) hb).trans c21
  have x6_ : W'.cell? ⟨b, o + k3 * 2, none⟩ = some (.int .i64 x3) := (j0.cell (p := ⟨b, o + k3 * 2, none⟩) hb).trans c30
  have x7_ : W'.cell? ⟨b, o + k3 * 2 + 1, none⟩ = some (.int .i64 y3) := (j0.cell (p := ⟨b, o + k3 * 2 + 1, none⟩) hb).trans c31
  go_step
  exact hK.out
 · rfl
 refine Reg.RP0 22 ?_
 refine Reg.RP0 23 ?_
 refine Reg.RP0 24 ?_
 refine Reg.RP0 25 ?_
 apply Reg.RP rfl rfl rfl 26 rfl rfl
 ·
  intro D v' W' hc hj hf K hK
  obtain ⟨j0, jk, jn, b_a, b_r, b_z⟩ := hj
  have x0_ : W'.cell? ⟨b, o + k0 * 2, none⟩ = some (.int .i64 x0) := (j0.cell (p := ⟨b, o + k0 * 2, none⟩) hb).trans c00
  have x1_ : W'.cell? ⟨b, o + k0 * 2 + 1, none⟩ = some (.int .i64 y0) := (j0.cell (p := ⟨b, o + k0 * 2 + 1, none⟩) hb).trans c01
  have x2_ : W'.cell? ⟨b, o + k1 * 2, none⟩ = some (.int .i64 x1) := (j0.cell (p := ⟨b, o + k1 * 2, none⟩) hb).trans c10
  have x3_ : W'.cell? ⟨b, o + k1 * 2 + 1, none⟩ = some (.int .i64 y1) := (j0.cell (p := ⟨b, o + k1 * 2 + 1, none⟩) hb).trans c11
  have x4_ : W'.cell? ⟨b, o + k2 * 2, none⟩ = some (.int .i64 x2) := (j0.cell (p := ⟨b, o + k2 * 2, none⟩) hb).trans c20
  have x5_ : W'.cell? ⟨b, o + k2 * 2 + 1, none⟩ = some (.int .i64 y2) := (j0.cell (p := ⟨b, o + k2 * 2 + 1, none⟩) hb).trans c21
  have x6_ : W'.cell? ⟨b, o + k3 * 2, none⟩ = some (.int .i64 x3) := (j0.cell (p := ⟨b, o + k3 * 2, none⟩) hb).trans c30
  have x7_ : W'.cell? ⟨b, o + k3 * 2 + 1, none⟩ = some (.int .i64 y3) := (j0.cell (p := ⟨b, o + k3 * 2 + 1, none⟩) hb).trans c31
  go_step
  exact hK.out
 · rfl
 refine Reg.RP0 27 ?_
 refine Reg.RP0 28 ?_
 refine Reg.RC_call rfl (by intro t ht; cases ht) rfl (fun D v' W' hc hj hf K hK => ?_) (fun _ _ => Reg.RC_at (b := ⟨_, _⟩) rfl ?_)
 ·
  obtain ⟨j0, jk, jn, b_a, b_r, b_z⟩ := hj
  have hb := b_z.1 hc.1
  have e2 : w.heap.size ≤ w.heap.size + 1 + 1 := by omega
  have ff := hb.fr
  have cc0 := hb.q4
  have cc1 := hb.q5
  go_step
  exact hK.out undef _ (Keeps.only hb rfl ((Only.refl _ _).set.set)) ⟨(Below.setCell (p := ⟨w.heap.size + 1 + 1, 5, none⟩) (Below.setCell (p := ⟨w.heap.size + 1 + 1, 4, none⟩) j0 (by show w.heap.size ≤ w.heap.size + 1 + 1; omega) _) (by show w.heap.size ≤ w.heap.size + 1 + 1; omega) _), jk.trans (Keeps.only hb rfl ((Only.refl _ _).set.set)), by simpa using jn, ((b_a).far' (show w.heap.size ≠ w.heap.size + 1 + 1 by omega)).far' (show w.heap.size ≠ w.heap.size + 1 + 1 by omega), ((b_r).far' (show w.heap.size + 1 ≠ w.heap.size + 1 + 1 by omega)).far' (show w.heap.size + 1 ≠ w.heap.size + 1 + 1 by omega), ⟨fun h => Bool.noConfusion h, fun _ => (Blk.set2 (cs' := #[.int .i64 x0, .int .i64 y0, .int .i64 x1, .int .i64 y1, .int .i64 x2, .int .i64 y2, .int .i64 0, .int .i64 0]) (Blk.set2 (cs' := #[.int .i64 x0, .int .i64 y0, .int .i64 x1, .int .i64 y1, .int .i64 x2, .int .i64 0, .int .i64 0, .int .i64 0]) hb (i := 4) rfl) (i := 5) rfl)⟩⟩ trivial trivial
 refine Reg.RC_end (fun Dn v' w3 hd hj hf => ?_)
 obtain ⟨j0, jk, jn, b_a, b_r, b_z⟩ := hj
 have B := j0
 have oa := b_a
 clear b_a
 have or := b_r
 clear b_r
 have oz := b_z.2 (hd 13 (Nat.le_of_ble_eq_true rfl))
 clear b_z
 clear hd hf jk j0
 refine hQ _ _ ?_
 clear hQ hops Q' ops'
 go_wp2_with fail
 rw [rounds_succ]
 have zz_3 : w.heap.size + 1 + 1 < w3.heap.size := oz.lt
 have zz3 := B.size
 go_upto_region 5 with fail
 refine Reg.wp_chain_n (fun N0 D v W => Below w.heap.size w W ∧ Keeps w3 W ∧ N0 ≤ W.heap.size ∧ Blk W (w.heap.size) 25 #[.int .i64 k0, .int .i64 k1, .int .i64 k2, .int .i64 k3] ∧ Blk W (w.heap.size + 1) 57 #[.int .i64 0, .int .i64 0, .int .i64 0, .int .i64 0, .int .i64 0, .int .i64 0, .int .i64 0, .int .i64 0, .int .i64 0] ∧ ((D 13 = false → Blk W (w.heap.size + 1 + 1) 108 #[.int .i64 x0, .int .i64 y0, .int .i64 x1, .int .i64 y1, .int .i64 x2, .int .i64 y2, .int .i64 0, .int .i64 0]) ∧ (D 13 = true → Blk W (w.heap.size + 1 + 1) 108 #[.int .i64 x0, .int .i64 y0, .int .i64 x1, .int .i64 y1, .int .i64 x2, .int .i64 y2, .int .i64 x3, .int .i64 y3])))
  (Reg.inl [13]) (Reg.gv []) (gw []) (fun _ => Keeps) (fun _ _ => False) (Reg.pl [(14, [])]) (Reg.pl [])
  (by kernel_rfl) (by kernel_rfl) (by kernel_rfl) (Reg.gv_some _ (by intro p hp; cases hp)) (fun N0 hN0 => ⟨fun v => ?_, fun D v v' W hv hj => ?_, fun D v k j W W' x _ _ _ _ hk hg => gw_keeps _ (by intro p hp; cases hp) hk hg, fun _ _ _ _ h => h.elim, fun ops' Q' hops hQ => ?_⟩)
 · exact ⟨belowB, keepsB, Nat.le_of_eq hN0.out, ownK, ownK, ⟨fun _ => ownK, (fun h => Bool.noConfusion h)⟩⟩
 ·
  obtain ⟨j0, jk, jn, b_a, b_r, b_z⟩ := hj
  exact ⟨j0, jk, jn, b_a, b_r, b_z⟩
 have eN := hN0.out
 try simp only [World.size_alloc, World.size_setCell, World.size_drew, World.heap_drewN] at eN
 have i_a : w.heap.size < N0 := by first | omega | (have h := oa.lt; omega)
 have i_r : w.heap.size + 1 < N0 := by first | omega | (have h := or.lt; omega)
 have i_z : w.heap.size + 1 + 1 < N0 := by first | omega | (have h := oz.lt; omega)
 have iw : w.heap.size ≤ N0 := by first | omega | (have h := B.size; omega)
 clear hN0 eN
 refine Reg.RP0 16 ?_
 refine Reg.RP0 17 ?_
 refine Reg.RP0 18 ?_
 refine Reg.RP0 19 ?_
 refine Reg.RP0 20 ?_
 apply Reg.RP rfl rfl rfl 21 rfl rfl
 ·
  intro D v' W' hc hj hf K hK
  obtain ⟨j0, jk, jn, b_a, b_r, b_z⟩ := hj
  have x0_ : W'.cell? ⟨b, o + k0 * 2, none⟩ = some (.int .i64 x0) := (j0.cell (p := ⟨b, o + k0 * 2, none⟩) hb).trans c00
  have x1_ : W'.cell? ⟨b, o + k0 * 2 + 1, none⟩ = some (.int .i64 y0) := (j0.cell (p := ⟨b, o + k0 * 2 + 1, none⟩) hb).trans c01
  have x2_ : W'.cell? ⟨b, o + k1 * 2, none⟩ = some (.int .i64 x1) := (j0.cell (p := ⟨b, o + k1 * 2, none⟩) hb).trans c10
  have x3_ : W'.cell? ⟨b, o + k1 * 2 + 1, none⟩ = some (.int .i64 y1) := (j0.cell (p := ⟨b, o + k1 * 2 + 1, none⟩) hb).trans c11
  have x4_ : W'.cell? ⟨b, o + k2 * 2, none⟩ = some (.int .i64 x2) := (j0.cell (p := ⟨b, o + k2 * 2, none⟩) hb).trans c20
  have x5_ : W'.cell? ⟨b, o + k2 * 2 + 1, none⟩ = some (.int .i64 y2) := (j0.cell (p := ⟨b, o + k2 * 2 + 1, none⟩) hb).trans c21
  have x6_ : W'.cell? ⟨b, o + k3 * 2, none⟩ = some (.int .i64 x3) := (j0.cell (p := ⟨b, o + k3 * 2, none⟩) hb).trans c30
  have x7_ : W'.cell? ⟨b, o + k3 * 2 + 1, none⟩ = some (.int .i64 y3) := (j0.cell (p := ⟨b, o + k3 * 2 + 1, none⟩) hb).trans c31
  go_step
  exact hK.out
 · rfl
 refine Reg.RP0 22 ?_
 refine Reg.RP0 23 ?_
 refine Reg.RP0 24 ?_
 refine Reg.RP0 25 ?_
 apply Reg.RP rfl rfl rfl 26 rfl rfl
 ·
  intro D v' W' hc hj hf K hK
  obtain ⟨j0, jk, jn, b_a, b_r, b_z⟩ := hj
  have x0_ : W'.cell? ⟨b, o + k0 * 2, none⟩ = some (.int .i64 x0) := (j0.cell (p := ⟨b, o + k0 * 2, none⟩) hb).trans c00
  have x1_ : W'.cell? ⟨b, o + k0 * 2 + 1, none⟩ = some (.int .i64 y0) := (j0.cell (p := ⟨b, o + k0 * 2 + 1, none⟩) hb).trans c01
  have x2_ : W'.cell? ⟨b, o + k1 * 2, none⟩ = some (.int .i64 x1) := (j0.cell (p := ⟨b, o + k1 * 2, none⟩) hb).trans c10
  have x3_ : W'.cell? ⟨b, o + k1 * 2 + 1, none⟩ = some (.int .i64 y1) := (j0.cell (p := ⟨b, o + k1 * 2 + 1, none⟩) hb).trans c11
  have x4_ : W'.cell? ⟨b, o + k2 * 2, none⟩ = some (.int .i64 x2) := (j0.cell (p := ⟨b, o + k2 * 2, none⟩) hb).trans c20
  have x5_ : W'.cell? ⟨b, o + k2 * 2 + 1, none⟩ = some (.int .i64 y2) := (j0.cell (p := ⟨b, o + k2 * 2 + 1, none⟩) hb).trans c21
  have x6_ : W'.cell? ⟨b, o + k3 * 2, none⟩ = some (.int .i64 x3) := (j0.cell (p := ⟨b, o + k3 * 2, none⟩) hb).trans c30
  have x7_ : W'.cell? ⟨b, o + k3 * 2 + 1, none⟩ = some (.int .i64 y3) := (j0.cell (p := ⟨b, o + k3 * 2 + 1, none⟩) hb).trans c31
  go_step
  exact hK.out
 · rfl
 refine Reg.RP0 27 ?_
 refine Reg.RP0 28 ?_
 refine Reg.RC_call rfl (by intro t ht; cases ht) rfl (fun D v' W' hc hj hf K hK => ?_) (fun _ _ => Reg.RC_at (b := ⟨_, _⟩) rfl ?_)
 ·
  obtain ⟨j0, jk, jn, b_a, b_r, b_z⟩ := hj
  have hb := b_z.1 hc.1
  have e2 : w.heap.size ≤ w.heap.size + 1 + 1 := by omega
  have ff := hb.fr
  have cc0 := hb.q6
  have cc1 := hb.q7
  go_step
  exact hK.out undef _ (Keeps.only hb rfl ((Only.refl _ _).set.set)) ⟨(Below.setCell (p := ⟨w.heap.size + 1 + 1, 7, none⟩) (Below.setCell (p := ⟨w.heap.size + 1 + 1, 6, none⟩) j0 (by show w.heap.size ≤ w.heap.size + 1 + 1; omega) _) (by show w.heap.size ≤ w.heap.size + 1 + 1; omega) _), jk.trans (Keeps.only hb rfl ((Only.refl _ _).set.set)), by simpa using jn, ((b_a).far' (show w.heap.size ≠ w.heap.size + 1 + 1 by omega)).far' (show w.heap.size ≠ w.heap.size + 1 + 1 by omega), ((b_r).far' (show w.heap.size + 1 ≠ w.heap.size + 1 + 1 by omega)).far' (show w.heap.size + 1 ≠ w.heap.size + 1 + 1 by omega), ⟨fun h => Bool.noConfusion h, fun _ => (Blk.set2 (cs' := #[.int .i64 x0, .int .i64 y0, .int .i64 x1, .int .i64 y1, .int .i64 x2, .int .i64 y2, .int .i64 x3, .int .i64 y3]) (Blk.set2 (cs' := #[.int .i64 x0, .int .i64 y0, .int .i64 x1, .int .i64 y1, .int .i64 x2, .int .i64 y2, .int .i64 x3, .int .i64 0]) hb (i := 6) rfl) (i := 7) rfl)⟩⟩ trivial trivial
 refine Reg.RC_end (fun Dn v' w4 hd hj hf => ?_)
 obtain ⟨j0, jk, jn, b_a, b_r, b_z⟩ := hj
 have B := j0
 have oa := b_a
 clear b_a
 have or := b_r
 clear b_r
 have oz := b_z.2 (hd 13 (Nat.le_of_ble_eq_true rfl))
 clear b_z
 clear hd hf jk j0
 refine hQ _ _ ?_
 clear hQ hops Q' ops'
 have la := oa.lt
 have lr := or.lt
 obtain ⟨cz0, cz1, cz2, cz3, cz4, cz5, cz6, cz7⟩ := oz.r7
 have lz := oz.lt
 go_wp2_with fail
 rw [rounds_succ]
 go_wp2_with fail
 refine (m1 _).mono ?_
 rintro e w5 ⟨rfl, hb5⟩
 have st : Steps _ w5 := hb5
 have sk : Below w4.heap.size w4 w5 := belowA st
 replace B := below_steps B (Nat.le_refl _) sk
 replace oa := oa.steps sk
 replace or := or.steps sk
 replace oz := oz.steps sk
 clear st sk la lr cz0 cz1 cz2 cz3 cz4 cz5 cz6 cz7 lz
 have la := oa.lt
 have lr := or.lt
 obtain ⟨cz0, cz1, cz2, cz3, cz4, cz5, cz6, cz7⟩ := oz.r7
 have lz := oz.lt
 have zz_5 : w.heap.size + 1 + 1 < w5.heap.size := oz.lt
 have zz5 := B.size
 go_upto_region 8 with fail
 refine Reg.wp_chain_n (fun N0 D v W => Below w.heap.size w W ∧ Keeps w5 W ∧ N0 ≤ W.heap.size ∧ Blk W (w.heap.size) 25 #[.int .i64 k0, .int .i64 k1, .int .i64 k2, .int .i64 k3] ∧ Blk W (w.heap.size + 1) 57 #[.int .i64 0, .int .i64 0, .int .i64 0, .int .i64 0, .int .i64 0, .int .i64 0, .int .i64 0, .int .i64 0, .int .i64 0] ∧ Blk W (w.heap.size + 1 + 1) 108 #[.int .i64 x0, .int .i64 y0, .int .i64 x1, .int .i64 y1, .int .i64 x2, .int .i64 y2, .int .i64 x3, .int .i64 y3] ∧ Blk W (w5.heap.size) 107 #[.int .i64 ux, .int .i64 uy] ∧ (D 14 = true → ∃ g : Nat, v 14 = .pointer (some ⟨g, 0, none⟩) ∧ N0 ≤ g ∧ g < W.heap.size ∧ (D 16 = false → Blk W g 107 #[.int .i64 0, .int .i64 0]) ∧ (D 16 = true → D 6 = true ∧ ∃ cs, v 6 = .agg cs ∧ Blk W g 107 cs)) ∧ (D 15 = true → ∃ g : Nat, v 15 = .pointer (some ⟨g, 0, none⟩) ∧ N0 ≤ g ∧ g < W.heap.size ∧ (D 17 = false → Blk W g 107 #[.int .i64 0, .int .i64 0]) ∧ (D 17 = true → D 13 = true ∧ ∃ cs, v 13 = .agg cs ∧ Blk W g 107 cs)) ∧ (D 14 = true → D 15 = true → v 14 ≠ v 15))
  (Reg.inl [4, 6, 11, 13, 14, 15, 16, 17]) (Reg.gv [(4, fun z_ => z_ = .agg #[.int .i64 ax, .int .i64 ay]), (6, fun z_ => z_ = .agg #[.int .i64 A1, .int .i64 A2]), (11, fun z_ => z_ = .agg #[.int .i64 bx, .int .i64 by_]), (13, fun z_ => z_ = .agg #[.int .i64 B1, .int .i64 B2]), (14, IsPtr), (15, IsPtr)]) (gw []) (fun _ => Keeps) (fun _ _ => False) (Reg.pl [(6, [(4, some 39)]), (13, [(11, some 46)]), (16, [(6, some 41), (14, some 9)]), (17, [(13, some 48), (15, some 10)]), (18, [(4, some 39), (6, some 41), (11, some 46), (13, some 48), (14, some 9), (15, some 10)])]) (Reg.pl [(14, [16]), (6, [16]), (15, [17]), (13, [17])])
  (by kernel_rfl) (by kernel_rfl) (by kernel_rfl) (Reg.gvA _) (fun N0 hN0 => ⟨fun v => ?_, fun D v v' W hv hj => ?_, fun D v k j W W' x _ _ _ _ hk hg => gw_keeps _ (by intro p hp; cases hp) hk hg, fun _ _ _ _ h => h.elim, fun ops' Q' hops hQ => ?_⟩)
 · exact ⟨belowB, keepsB, Nat.le_of_eq hN0.out, ownK, ownK, ownK, ownK, (fun h => Bool.noConfusion h), (fun h => Bool.noConfusion h), (fun h => Bool.noConfusion h)⟩
 ·
  obtain ⟨j0, jk, jn, b_a, b_r, b_z, b_u, a_14, a_15, q_14_15⟩ := hj
  exact ⟨j0, jk, jn, b_a, b_r, b_z, b_u, fun h => by obtain ⟨g, e1, e2, e3, e4, e5⟩ := a_14 h; exact ⟨g, (hv 14 h) ▸ e1, e2, e3, e4, fun h => by obtain ⟨d, cs, e, hb⟩ := e5 h; exact ⟨d, cs, (hv 6 d) ▸ e, hb⟩⟩, fun h => by obtain ⟨g, e1, e2, e3, e4, e5⟩ := a_15 h; exact ⟨g, (hv 15 h) ▸ e1, e2, e3, e4, fun h => by obtain ⟨d, cs, e, hb⟩ := e5 h; exact ⟨d, cs, (hv 13 d) ▸ e, hb⟩⟩, fun h h' => (hv 14 h) ▸ (hv 15 h') ▸ q_14_15 h h'⟩
 have eN := hN0.out
 try simp only [World.size_alloc, World.size_setCell, World.size_drew, World.heap_drewN] at eN
 have i_a : w.heap.size < N0 := by first | omega | (have h := oa.lt; omega)
 have i_r : w.heap.size + 1 < N0 := by first | omega | (have h := or.lt; omega)
 have i_z : w.heap.size + 1 + 1 < N0 := by first | omega | (have h := oz.lt; omega)
 have i_u : w5.heap.size < N0 := by first | omega | (have h := ou.lt; omega)
 have iw : w.heap.size ≤ N0 := by first | omega | (have h := B.size; omega)
 clear la lr cz0 cz1 cz2 cz3 cz4 cz5 cz6 cz7 lz
 clear hN0
 refine Reg.RP0 35 ?_
 apply Reg.RP rfl rfl rfl 36 rfl rfl
 ·
  intro D v' W' hc hj hf K hK
  obtain ⟨j0, jk, jn, b_a, b_r, b_z, b_u, a_14, a_15, q_14_15⟩ := hj
  obtain ⟨c0, c1, c2, c3, c4, c5, c6, c7⟩ := b_z.r7
  go_step
  exact hK.out
 · rfl
 refine Reg.RP0 37 ?_
 apply Reg.RP rfl rfl rfl 38 rfl rfl
 ·
  intro D v' W' hc hj hf K hK
  obtain ⟨j0, jk, jn, b_a, b_r, b_z, b_u, a_14, a_15, q_14_15⟩ := hj
  obtain ⟨c0, c1, c2, c3, c4, c5, c6, c7⟩ := b_z.r7
  go_step
  exact hK.out
 · rfl
 refine Reg.RC_call rfl (tlt rfl) rfl (fun D v' W' hc hj hf K hK => ?_) ?_
 ·
  obtain ⟨j0, jk, jn, b_a, b_r, b_z, b_u, a_14, a_15, q_14_15⟩ := hj
  clear hf
  go_step
  refine (m2 W').mono ?_
  rintro e W2 ⟨rfl, hs⟩
  exact hK.out _ W2 (Keeps.steps hs) ⟨jst j0 hs, jk.then_ hs, jsz jn hs, b_a.steps hs, b_r.steps hs, b_z.steps hs, b_u.steps hs, fun h => by obtain ⟨g, e1, e2, e3, e4, e5⟩ := a_14 h; exact ⟨g, e1, e2, Nat.lt_of_lt_of_le e3 (hs).size, fun h => (e4 h).steps hs, fun h => by obtain ⟨d, cs, e, hb⟩ := e5 h; exact ⟨d, cs, e, hb.steps hs⟩⟩, fun h => by obtain ⟨g, e1, e2, e3, e4, e5⟩ := a_15 h; exact ⟨g, e1, e2, Nat.lt_of_lt_of_le e3 (hs).size, fun h => (e4 h).steps hs, fun h => by obtain ⟨d, cs, e, hb⟩ := e5 h; exact ⟨d, cs, e, hb.steps hs⟩⟩, q_14_15⟩ trivial rfl
 rintro _ rfl
 refine Reg.at62 rfl ?_
 apply Reg.RP rfl rfl rfl 40 rfl rfl
 ·
  intro D v' W' hc hj hf K hK
  obtain ⟨j0, jk, jn, b_a, b_r, b_z, b_u, a_14, a_15, q_14_15⟩ := hj
  obtain ⟨c0, c1⟩ := b_u.r1
  go_step
  exact hK.out
 · rfl
 refine Reg.RC_call rfl (tlt rfl) rfl (fun D v' W' hc hj hf K hK => ?_) ?_
 ·
  obtain ⟨j0, jk, jn, b_a, b_r, b_z, b_u, a_14, a_15, q_14_15⟩ := hj
  clear hf
  go_step
  refine (j2 W').mono ?_
  rintro e W2 ⟨rfl, hs⟩
  exact hK.out _ W2 (Keeps.steps hs) ⟨jst j0 hs, jk.then_ hs, jsz jn hs, b_a.steps hs, b_r.steps hs, b_z.steps hs, b_u.steps hs, fun h => by obtain ⟨g, e1, e2, e3, e4, e5⟩ := a_14 h; exact ⟨g, e1, e2, Nat.lt_of_lt_of_le e3 (hs).size, fun h => (e4 h).steps hs, fun h => Bool.noConfusion ((hc.2 16 (by decide)).symm.trans h)⟩, fun h => by obtain ⟨g, e1, e2, e3, e4, e5⟩ := a_15 h; exact ⟨g, e1, e2, Nat.lt_of_lt_of_le e3 (hs).size, fun h => (e4 h).steps hs, fun h => by obtain ⟨d, cs, e, hb⟩ := e5 h; exact ⟨d, cs, e, hb.steps hs⟩⟩, q_14_15⟩ trivial rfl
 rintro _ rfl
 refine Reg.at62 rfl ?_
 refine Reg.RP0 42 ?_
 apply Reg.RP rfl rfl rfl 43 rfl rfl
 ·
  intro D v' W' hc hj hf K hK
  obtain ⟨j0, jk, jn, b_a, b_r, b_z, b_u, a_14, a_15, q_14_15⟩ := hj
  obtain ⟨c0, c1, c2, c3, c4, c5, c6, c7⟩ := b_z.r7
  go_step
  exact hK.out
 · rfl
 refine Reg.RP0 44 ?_
 apply Reg.RP rfl rfl rfl 45 rfl rfl
 ·
  intro D v' W' hc hj hf K hK
  obtain ⟨j0, jk, jn, b_a, b_r, b_z, b_u, a_14, a_15, q_14_15⟩ := hj
  obtain ⟨c0, c1, c2, c3, c4, c5, c6, c7⟩ := b_z.r7
  go_step
  exact hK.out
 · rfl
 refine Reg.RC_call rfl (tlt rfl) rfl (fun D v' W' hc hj hf K hK => ?_) ?_
 ·
  obtain ⟨j0, jk, jn, b_a, b_r, b_z, b_u, a_14, a_15, q_14_15⟩ := hj
  clear hf
  go_step
  refine (m3 W').mono ?_
  rintro e W2 ⟨rfl, hs⟩
  exact hK.out _ W2 (Keeps.steps hs) ⟨jst j0 hs, jk.then_ hs, jsz jn hs, b_a.steps hs, b_r.steps hs, b_z.steps hs, b_u.steps hs, fun h => by obtain ⟨g, e1, e2, e3, e4, e5⟩ := a_14 h; exact ⟨g, e1, e2, Nat.lt_of_lt_of_le e3 (hs).size, fun h => (e4 h).steps hs, fun h => by obtain ⟨d, cs, e, hb⟩ := e5 h; exact ⟨d, cs, e, hb.steps hs⟩⟩, fun h => by obtain ⟨g, e1, e2, e3, e4, e5⟩ := a_15 h; exact ⟨g, e1, e2, Nat.lt_of_lt_of_le e3 (hs).size, fun h => (e4 h).steps hs, fun h => by obtain ⟨d, cs, e, hb⟩ := e5 h; exact ⟨d, cs, e, hb.steps hs⟩⟩, q_14_15⟩ trivial rfl
 rintro _ rfl
 refine Reg.at62 rfl ?_
 apply Reg.RP rfl rfl rfl 47 rfl rfl
 ·
  intro D v' W' hc hj hf K hK
  obtain ⟨j0, jk, jn, b_a, b_r, b_z, b_u, a_14, a_15, q_14_15⟩ := hj
  obtain ⟨c0, c1⟩ := b_u.r1
  go_step
  exact hK.out
 · rfl
 refine Reg.RC_call rfl (tlt rfl) rfl (fun D v' W' hc hj hf K hK => ?_) ?_
 ·
  obtain ⟨j0, jk, jn, b_a, b_r, b_z, b_u, a_14, a_15, q_14_15⟩ := hj
  clear hf
  go_step
  refine (j3 W').mono ?_
  rintro e W2 ⟨rfl, hs⟩
  exact hK.out _ W2 (Keeps.steps hs) ⟨jst j0 hs, jk.then_ hs, jsz jn hs, b_a.steps hs, b_r.steps hs, b_z.steps hs, b_u.steps hs, fun h => by obtain ⟨g, e1, e2, e3, e4, e5⟩ := a_14 h; exact ⟨g, e1, e2, Nat.lt_of_lt_of_le e3 (hs).size, fun h => (e4 h).steps hs, fun h => by obtain ⟨d, cs, e, hb⟩ := e5 h; exact ⟨d, cs, e, hb.steps hs⟩⟩, fun h => by obtain ⟨g, e1, e2, e3, e4, e5⟩ := a_15 h; exact ⟨g, e1, e2, Nat.lt_of_lt_of_le e3 (hs).size, fun h => (e4 h).steps hs, fun h => Bool.noConfusion ((hc.2 17 (by decide)).symm.trans h)⟩, q_14_15⟩ trivial rfl
 rintro _ rfl
 refine Reg.at62 rfl ?_
 refine Reg.RC_call rfl (tlt rfl) rfl (fun D v' W' hc hj hf K hK => ?_) ?_
 ·
  obtain ⟨j0, jk, jn, b_a, b_r, b_z, b_u, a_14, a_15, q_14_15⟩ := hj
  go_step
  have hs : ∀ o : Obj, Steps W' (W'.alloc o) := fun o => (Below.refl _ _).alloc (Nat.le_refl _) o
  exact hK.out _ _ (Keeps.steps (hs _)) ⟨jst j0 (hs _), jk.then_ (hs _), jsz jn (hs _), b_a.steps (hs _), b_r.steps (hs _), b_z.steps (hs _), b_u.steps (hs _), fun _ => ⟨W'.heap.size, rfl, jn, by rw [World.size_alloc]; omega, fun _ => Blk.new _ _ _, fun h => Bool.noConfusion ((hc.2 16 (by decide)).symm.trans h)⟩, fun h => by obtain ⟨g, e1, e2, e3, e4, e5⟩ := a_15 h; exact ⟨g, e1, e2, Nat.lt_of_lt_of_le e3 ((hs _)).size, fun h => (e4 h).steps (hs _), fun h => by obtain ⟨d, cs, e, hb⟩ := e5 h; exact ⟨d, cs, e, hb.steps (hs _)⟩⟩, fun _ h' => by obtain ⟨g, e1, e2, e3, e4, e5⟩ := a_15 h'; exact fun e => Reg.ptr_ne e3 (e.trans e1)⟩ trivial ⟨_, rfl⟩
 rintro _ ⟨p9, rfl⟩
 refine Reg.at62 rfl ?_
 refine Reg.RC_call rfl (tlt rfl) rfl (fun D v' W' hc hj hf K hK => ?_) ?_
 ·
  obtain ⟨j0, jk, jn, b_a, b_r, b_z, b_u, a_14, a_15, q_14_15⟩ := hj
  go_step
  have hs : ∀ o : Obj, Steps W' (W'.alloc o) := fun o => (Below.refl _ _).alloc (Nat.le_refl _) o
  exact hK.out _ _ (Keeps.steps (hs _)) ⟨jst j0 (hs _), jk.then_ (hs _), jsz jn (hs _), b_a.steps (hs _), b_r.steps (hs _), b_z.steps (hs _), b_u.steps (hs _), fun h => by obtain ⟨g, e1, e2, e3, e4, e5⟩ := a_14 h; exact ⟨g, e1, e2, Nat.lt_of_lt_of_le e3 ((hs _)).size, fun h => (e4 h).steps (hs _), fun h => by obtain ⟨d, cs, e, hb⟩ := e5 h; exact ⟨d, cs, e, hb.steps (hs _)⟩⟩, fun _ => ⟨W'.heap.size, rfl, jn, by rw [World.size_alloc]; omega, fun _ => Blk.new _ _ _, fun h => Bool.noConfusion ((hc.2 17 (by decide)).symm.trans h)⟩, fun h _ => by obtain ⟨g, e1, e2, e3, e4, e5⟩ := a_14 h; exact fun e => Reg.ptr_ne e3 (e.symm.trans e1)⟩ trivial ⟨_, rfl⟩
 rintro _ ⟨p10, rfl⟩
 refine Reg.at62 rfl ?_
 refine Reg.RC_call rfl (by intro t ht; cases ht) rfl (fun D v' W' hc hj hf K hK => ?_) (fun _ _ => Reg.RC_at (b := ⟨_, _⟩) rfl ?_)
 ·
  obtain ⟨j0, jk, jn, b_a, b_r, b_z, b_u, a_14, a_15, q_14_15⟩ := hj
  have f := hf (14, some 9) (.tail _ (.head _)) rfl
  have e6 : v' 14 = .pointer (some ⟨p9, 0, none⟩) := f.2.1
  obtain ⟨g, e1, e2, e3, e4, e5⟩ := a_14 f.1
  obtain rfl : p9 = g := Reg.ptr_eq (e6.symm.trans e1)
  have hb := e4 hc.1
  clear e4 e5
  have fc := hf (6, some 41) (.head _) rfl
  have ec : v' 6 = .agg #[.int .i64 A1, .int .i64 A2] := fc.2.1
  have ff := hb.fr
  obtain ⟨cc0, cc1⟩ := hb.r1
  go_step
  exact hK.out undef _ (Keeps.only hb rfl ((Only.refl _ _).set.set)) ⟨(Below.setCell (p := ⟨p9, 1, none⟩) (Below.setCell (p := ⟨p9, 0, none⟩) j0 (by show w.heap.size ≤ p9; omega) _) (by show w.heap.size ≤ p9; omega) _), jk.trans (Keeps.only hb rfl ((Only.refl _ _).set.set)), by simpa using jn, ((b_a).far' (show w.heap.size ≠ p9 by omega)).far' (show w.heap.size ≠ p9 by omega), ((b_r).far' (show w.heap.size + 1 ≠ p9 by omega)).far' (show w.heap.size + 1 ≠ p9 by omega), ((b_z).far' (show w.heap.size + 1 + 1 ≠ p9 by omega)).far' (show w.heap.size + 1 + 1 ≠ p9 by omega), ((b_u).far' (show w5.heap.size ≠ p9 by omega)).far' (show w5.heap.size ≠ p9 by omega), fun _ => ⟨p9, e1, e2, by simpa using e3, fun h => Bool.noConfusion h, fun _ => ⟨fc.1, _, ec, (Blk.set2 (cs' := #[.int .i64 A1, .int .i64 A2]) (Blk.set2 (cs' := #[.int .i64 A1, .int .i64 0]) hb (i := 0) rfl) (i := 1) rfl)⟩⟩, fun h => by obtain ⟨g, k1, k2, k3, k4, k5⟩ := a_15 h; have hne : g ≠ p9 := fun e => (q_14_15 f.1 h) (by rw [e6, k1, e]); exact ⟨g, k1, k2, by simpa using k3, fun h => ((k4 h).far' hne).far' hne, fun h => by obtain ⟨d, cs, e, hb2⟩ := k5 h; exact ⟨d, cs, e, ((hb2).far' hne).far' hne⟩⟩, q_14_15⟩ trivial trivial
 refine Reg.RC_call rfl (by intro t ht; cases ht) rfl (fun D v' W' hc hj hf K hK => ?_) (fun _ _ => Reg.RC_at (b := ⟨_, _⟩) rfl ?_)
 ·
  obtain ⟨j0, jk, jn, b_a, b_r, b_z, b_u, a_14, a_15, q_14_15⟩ := hj
  have f := hf (15, some 10) (.tail _ (.head _)) rfl
  have e6 : v' 15 = .pointer (some ⟨p10, 0, none⟩) := f.2.1
  obtain ⟨g, e1, e2, e3, e4, e5⟩ := a_15 f.1
  obtain rfl : p10 = g := Reg.ptr_eq (e6.symm.trans e1)
  have hb := e4 hc.1
  clear e4 e5
  have fc := hf (13, some 48) (.head _) rfl
  have ec : v' 13 = .agg #[.int .i64 B1, .int .i64 B2] := fc.2.1
  have ff := hb.fr
  obtain ⟨cc0, cc1⟩ := hb.r1
  go_step
  exact hK.out undef _ (Keeps.only hb rfl ((Only.refl _ _).set.set)) ⟨(Below.setCell (p := ⟨p10, 1, none⟩) (Below.setCell (p := ⟨p10, 0, none⟩) j0 (by show w.heap.size ≤ p10; omega) _) (by show w.heap.size ≤ p10; omega) _), jk.trans (Keeps.only hb rfl ((Only.refl _ _).set.set)), by simpa using jn, ((b_a).far' (show w.heap.size ≠ p10 by omega)).far' (show w.heap.size ≠ p10 by omega), ((b_r).far' (show w.heap.size + 1 ≠ p10 by omega)).far' (show w.heap.size + 1 ≠ p10 by omega), ((b_z).far' (show w.heap.size + 1 + 1 ≠ p10 by omega)).far' (show w.heap.size + 1 + 1 ≠ p10 by omega), ((b_u).far' (show w5.heap.size ≠ p10 by omega)).far' (show w5.heap.size ≠ p10 by omega), fun h => by obtain ⟨g, k1, k2, k3, k4, k5⟩ := a_14 h; have hne : g ≠ p10 := fun e => (q_14_15 h f.1) (by rw [e6, k1, e]); exact ⟨g, k1, k2, by simpa using k3, fun h => ((k4 h).far' hne).far' hne, fun h => by obtain ⟨d, cs, e, hb2⟩ := k5 h; exact ⟨d, cs, e, ((hb2).far' hne).far' hne⟩⟩, fun _ => ⟨p10, e1, e2, by simpa using e3, fun h => Bool.noConfusion h, fun _ => ⟨fc.1, _, ec, (Blk.set2 (cs' := #[.int .i64 B1, .int .i64 B2]) (Blk.set2 (cs' := #[.int .i64 B1, .int .i64 0]) hb (i := 0) rfl) (i := 1) rfl)⟩⟩, q_14_15⟩ trivial trivial
 refine Reg.RC_end (fun Dn v' w6 hd hj hf => ?_)
 obtain ⟨j0, jk, jn, b_a, b_r, b_z, b_u, a_14, a_15, q_14_15⟩ := hj
 have B := j0
 have oa := b_a
 clear b_a
 have or := b_r
 clear b_r
 have oz := b_z
 clear b_z
 have ou := b_u
 clear b_u
 have f := hf (14, some 9) (.tail _ (.tail _ (.tail _ (.tail _ (.head _))))) rfl
 have e6_ : v' 14 = .pointer (some ⟨p9, 0, none⟩) := f.2.1
 obtain ⟨g, e1_, zc, -, -, e5_⟩ := a_14 f.1
 obtain rfl : p9 = g := Reg.ptr_eq (e6_.symm.trans e1_)
 obtain ⟨-, cs_, ee, oc⟩ := e5_ (hd 16 (Nat.le_of_ble_eq_true rfl))
 have ef : v' 6 = .agg #[.int .i64 A1, .int .i64 A2] := (hf (6, some 41) (.tail _ (.head _)) rfl).2.1
 obtain rfl : #[.int .i64 A1, .int .i64 A2] = cs_ := by have := ef.symm.trans ee; simpa only [Value.tuple.injEq, Value.agg.injEq, Array.mk.injEq, List.cons.injEq, and_true, true_and] using this
 clear ee ef f e5_ e1_ e6_
 have f := hf (15, some 10) (.tail _ (.tail _ (.tail _ (.tail _ (.tail _ (.head _)))))) rfl
 have e6_ : v' 15 = .pointer (some ⟨p10, 0, none⟩) := f.2.1
 obtain ⟨g, e1_, zd, -, -, e5_⟩ := a_15 f.1
 obtain rfl : p10 = g := Reg.ptr_eq (e6_.symm.trans e1_)
 obtain ⟨-, cs_, ee, od⟩ := e5_ (hd 17 (Nat.le_of_ble_eq_true rfl))
 have ef : v' 13 = .agg #[.int .i64 B1, .int .i64 B2] := (hf (13, some 48) (.tail _ (.tail _ (.tail _ (.head _)))) rfl).2.1
 obtain rfl : #[.int .i64 B1, .int .i64 B2] = cs_ := by have := ef.symm.trans ee; simpa only [Value.tuple.injEq, Value.agg.injEq, Array.mk.injEq, List.cons.injEq, and_true, true_and] using this
 clear ee ef f e5_ e1_ e6_
 have y_14_15 : p9 ≠ p10 := fun e => q_14_15 (hf (14, some 9) (.tail _ (.tail _ (.tail _ (.tail _ (.head _))))) rfl).1 (hf (15, some 10) (.tail _ (.tail _ (.tail _ (.tail _ (.tail _ (.head _)))))) rfl).1 (by have h1 := (hf (14, some 9) (.tail _ (.tail _ (.tail _ (.tail _ (.head _))))) rfl).2.1; have h2 := (hf (15, some 10) (.tail _ (.tail _ (.tail _ (.tail _ (.tail _ (.head _)))))) rfl).2.1; rw [h1, h2]; show Value.pointer _ = .pointer _; rw [e])
 clear hd hf jk j0 q_14_15
 refine hQ _ _ ?_
 clear hQ hops Q' ops'
 obtain ⟨ca0, ca1, ca2, ca3⟩ := oa.r3
 have la := oa.lt
 have lr := or.lt
 have lz := oz.lt
 obtain ⟨cu0, cu1⟩ := ou.r1
 have lu := ou.lt
 obtain ⟨cc0, cc1⟩ := oc.r1
 have lc := oc.lt
 obtain ⟨cd0, cd1⟩ := od.r1
 have ld := od.lt
 have zd_6 : p10 < w6.heap.size := od.lt
 have zz6 := B.size
 go_upto_region 9 with fail
 refine Reg.wp_chain_n (fun N0 D v W => Below w.heap.size w W ∧ Keeps w6 W ∧ N0 ≤ W.heap.size ∧ Blk W (w.heap.size) 25 #[.int .i64 k0, .int .i64 k1, .int .i64 k2, .int .i64 k3] ∧ ((D 13 = false → Blk W (w.heap.size + 1) 57 #[.int .i64 0, .int .i64 0, .int .i64 0, .int .i64 0, .int .i64 0, .int .i64 0, .int .i64 0, .int .i64 0, .int .i64 0]) ∧ (D 13 = true → Blk W (w.heap.size + 1) 57 #[.int .i64 k0, .int .i64 k1, .int .i64 k2, .int .i64 k3, .int .i64 A1, .int .i64 A2, .int .i64 B1, .int .i64 B2, .int .i64 N_])) ∧ Blk W (w.heap.size + 1 + 1) 108 #[.int .i64 x0, .int .i64 y0, .int .i64 x1, .int .i64 y1, .int .i64 x2, .int .i64 y2, .int .i64 x3, .int .i64 y3] ∧ Blk W (w5.heap.size) 107 #[.int .i64 ux, .int .i64 uy] ∧ Blk W (p9) 107 #[.int .i64 A1, .int .i64 A2] ∧ Blk W (p10) 107 #[.int .i64 B1, .int .i64 B2])
  (Reg.inl [11, 13]) (Reg.gv [(11, fun z_ => z_ = .int .i64 N_)]) (gw []) (fun _ => Keeps) (fun _ _ => False) (Reg.pl [(13, [(11, some 60)]), (14, [(11, some 60)])]) (Reg.pl [])
  (by kernel_rfl) (by kernel_rfl) (by kernel_rfl) (Reg.gvA _) (fun N0 hN0 => ⟨fun v => ?_, fun D v v' W hv hj => ?_, fun D v k j W W' x _ _ _ _ hk hg => gw_keeps _ (by intro p hp; cases hp) hk hg, fun _ _ _ _ h => h.elim, fun ops' Q' hops hQ => ?_⟩)
 · exact ⟨belowB, keepsB, Nat.le_of_eq hN0.out, ownK, ⟨fun _ => ownK, (fun h => Bool.noConfusion h)⟩, ownK, ownK, ownK, ownK⟩
 ·
  obtain ⟨j0, jk, jn, b_a, b_r, b_z, b_u, b_c, b_d⟩ := hj
  exact ⟨j0, jk, jn, b_a, b_r, b_z, b_u, b_c, b_d⟩
 have eN := hN0.out
 try simp only [World.size_alloc, World.size_setCell, World.size_drew, World.heap_drewN] at eN
 have i_a : w.heap.size < N0 := by first | omega | (have h := oa.lt; omega)
 have i_r : w.heap.size + 1 < N0 := by first | omega | (have h := or.lt; omega)
 have i_z : w.heap.size + 1 + 1 < N0 := by first | omega | (have h := oz.lt; omega)
 have i_u : w5.heap.size < N0 := by first | omega | (have h := ou.lt; omega)
 have i_c : p9 < N0 := by first | omega | (have h := oc.lt; omega)
 have i_d : p10 < N0 := by first | omega | (have h := od.lt; omega)
 have iw : w.heap.size ≤ N0 := by first | omega | (have h := B.size; omega)
 clear ca0 ca1 ca2 ca3 la lr lz cu0 cu1 lu cc0 cc1 lc cd0 cd1 ld
 clear hN0
 apply Reg.RP rfl rfl rfl 49 rfl rfl
 ·
  intro D v' W' hc hj hf K hK
  obtain ⟨j0, jk, jn, b_a, b_r, b_z, b_u, b_c, b_d⟩ := hj
  obtain ⟨c0, c1, c2, c3⟩ := b_a.r3
  go_step
  exact hK.out
 · rfl
 refine Reg.RP0 50 ?_
 apply Reg.RP rfl rfl rfl 51 rfl rfl
 ·
  intro D v' W' hc hj hf K hK
  obtain ⟨j0, jk, jn, b_a, b_r, b_z, b_u, b_c, b_d⟩ := hj
  obtain ⟨c0, c1⟩ := b_c.r1
  go_step
  exact hK.out
 · rfl
 refine Reg.RP0 52 ?_
 apply Reg.RP rfl rfl rfl 53 rfl rfl
 ·
  intro D v' W' hc hj hf K hK
  obtain ⟨j0, jk, jn, b_a, b_r, b_z, b_u, b_c, b_d⟩ := hj
  obtain ⟨c0, c1⟩ := b_c.r1
  go_step
  exact hK.out
 · rfl
 refine Reg.RP0 54 ?_
 apply Reg.RP rfl rfl rfl 55 rfl rfl
 ·
  intro D v' W' hc hj hf K hK
  obtain ⟨j0, jk, jn, b_a, b_r, b_z, b_u, b_c, b_d⟩ := hj
  obtain ⟨c0, c1⟩ := b_d.r1
  go_step
  exact hK.out
 · rfl
 refine Reg.RP0 56 ?_
 apply Reg.RP rfl rfl rfl 57 rfl rfl
 ·
  intro D v' W' hc hj hf K hK
  obtain ⟨j0, jk, jn, b_a, b_r, b_z, b_u, b_c, b_d⟩ := hj
  obtain ⟨c0, c1⟩ := b_d.r1
  go_step
  exact hK.out
 · rfl
 refine Reg.RP0 58 ?_
 apply Reg.RP rfl rfl rfl 59 rfl rfl
 ·
  intro D v' W' hc hj hf K hK
  obtain ⟨j0, jk, jn, b_a, b_r, b_z, b_u, b_c, b_d⟩ := hj
  obtain ⟨c0, c1⟩ := b_u.r1
  go_step
  exact hK.out
 · rfl
 refine Reg.RC_call rfl (tlt rfl) rfl (fun D v' W' hc hj hf K hK => ?_) ?_
 ·
  obtain ⟨j0, jk, jn, b_a, b_r, b_z, b_u, b_c, b_d⟩ := hj
  clear hf
  go_step
  refine (sq W').mono ?_
  rintro e W2 ⟨rfl, hs⟩
  exact hK.out _ W2 (Keeps.steps hs) ⟨jst j0 hs, jk.then_ hs, jsz jn hs, b_a.steps hs, ⟨fun h => (b_r.1 h).steps hs, fun h => (b_r.2 h).steps hs⟩, b_z.steps hs, b_u.steps hs, b_c.steps hs, b_d.steps hs⟩ trivial rfl
 rintro _ rfl
 refine Reg.at62 rfl ?_
 refine Reg.RP0 61 ?_
 refine Reg.RC_call rfl (by intro t ht; cases ht) rfl (fun D v' W' hc hj hf K hK => ?_) (fun _ _ => Reg.RC_at (b := ⟨_, _⟩) rfl ?_)
 ·
  obtain ⟨j0, jk, jn, b_a, b_r, b_z, b_u, b_c, b_d⟩ := hj
  have hb := b_r.1 hc.1
  have e2 : w.heap.size ≤ w.heap.size + 1 := by omega
  have ff := hb.fr
  obtain ⟨cc0, cc1, cc2, cc3, cc4, cc5, cc6, cc7, cc8⟩ := hb.r8
  go_step
  exact hK.out undef _ (Keeps.only hb rfl ((Only.refl _ _).set.set.set.set.set.set.set.set.set)) ⟨(Below.setCell (p := ⟨w.heap.size + 1, 8, none⟩) (Below.setCell (p := ⟨w.heap.size + 1, 7, none⟩) (Below.setCell (p := ⟨w.heap.size + 1, 6, none⟩) (Below.setCell (p := ⟨w.heap.size + 1, 5, none⟩) (Below.setCell (p := ⟨w.heap.size + 1, 4, none⟩) (Below.setCell (p := ⟨w.heap.size + 1, 3, none⟩) (Below.setCell (p := ⟨w.heap.size + 1, 2, none⟩) (Below.setCell (p := ⟨w.heap.size + 1, 1, none⟩) (Below.setCell (p := ⟨w.heap.size + 1, 0, none⟩) j0 (by show w.heap.size ≤ w.heap.size + 1; omega) _) (by show w.heap.size ≤ w.heap.size + 1; omega) _) (by show w.heap.size ≤ w.heap.size + 1; omega) _) (by show w.heap.size ≤ w.heap.size + 1; omega) _) (by show w.heap.size ≤ w.heap.size + 1; omega) _) (by show w.heap.size ≤ w.heap.size + 1; omega) _) (by show w.heap.size ≤ w.heap.size + 1; omega) _) (by show w.heap.size ≤ w.heap.size + 1; omega) _) (by show w.heap.size ≤ w.heap.size + 1; omega) _), jk.trans (Keeps.only hb rfl ((Only.refl _ _).set.set.set.set.set.set.set.set.set)), by simpa using jn, (((((((((b_a).far' (show w.heap.size ≠ w.heap.size + 1 by omega)).far' (show w.heap.size ≠ w.heap.size + 1 by omega)).far' (show w.heap.size ≠ w.heap.size + 1 by omega)).far' (show w.heap.size ≠ w.heap.size + 1 by omega)).far' (show w.heap.size ≠ w.heap.size + 1 by omega)).far' (show w.heap.size ≠ w.heap.size + 1 by omega)).far' (show w.heap.size ≠ w.heap.size + 1 by omega)).far' (show w.heap.size ≠ w.heap.size + 1 by omega)).far' (show w.heap.size ≠ w.heap.size + 1 by omega), ⟨fun h => Bool.noConfusion h, fun _ => (Blk.set2 (cs' := #[.int .i64 k0, .int .i64 k1, .int .i64 k2, .int .i64 k3, .int .i64 A1, .int .i64 A2, .int .i64 B1, .int .i64 B2, .int .i64 N_]) (Blk.set2 (cs' := #[.int .i64 k0, .int .i64 k1, .int .i64 k2, .int .i64 k3, .int .i64 A1, .int .i64 A2, .int .i64 B1, .int .i64 B2, .int .i64 0]) (Blk.set2 (cs' := #[.int .i64 k0, .int .i64 k1, .int .i64 k2, .int .i64 k3, .int .i64 A1, .int .i64 A2, .int .i64 B1, .int .i64 0, .int .i64 0]) (Blk.set2 (cs' := #[.int .i64 k0, .int .i64 k1, .int .i64 k2, .int .i64 k3, .int .i64 A1, .int .i64 A2, .int .i64 0, .int .i64 0, .int .i64 0]) (Blk.set2 (cs' := #[.int .i64 k0, .int .i64 k1, .int .i64 k2, .int .i64 k3, .int .i64 A1, .int .i64 0, .int .i64 0, .int .i64 0, .int .i64 0]) (Blk.set2 (cs' := #[.int .i64 k0, .int .i64 k1, .int .i64 k2, .int .i64 k3, .int .i64 0, .int .i64 0, .int .i64 0, .int .i64 0, .int .i64 0]) (Blk.set2 (cs' := #[.int .i64 k0, .int .i64 k1, .int .i64 k2, .int .i64 0, .int .i64 0, .int .i64 0, .int .i64 0, .int .i64 0, .int .i64 0]) (Blk.set2 (cs' := #[.int .i64 k0, .int .i64 k1, .int .i64 0, .int .i64 0, .int .i64 0, .int .i64 0, .int .i64 0, .int .i64 0, .int .i64 0]) (Blk.set2 (cs' := #[.int .i64 k0, .int .i64 0, .int .i64 0, .int .i64 0, .int .i64 0, .int .i64 0, .int .i64 0, .int .i64 0, .int .i64 0]) hb (i := 0) rfl) (i := 1) rfl) (i := 2) rfl) (i := 3) rfl) (i := 4) rfl) (i := 5) rfl) (i := 6) rfl) (i := 7) rfl) (i := 8) rfl)⟩, (((((((((b_z).far' (show w.heap.size + 1 + 1 ≠ w.heap.size + 1 by omega)).far' (show w.heap.size + 1 + 1 ≠ w.heap.size + 1 by omega)).far' (show w.heap.size + 1 + 1 ≠ w.heap.size + 1 by omega)).far' (show w.heap.size + 1 + 1 ≠ w.heap.size + 1 by omega)).far' (show w.heap.size + 1 + 1 ≠ w.heap.size + 1 by omega)).far' (show w.heap.size + 1 + 1 ≠ w.heap.size + 1 by omega)).far' (show w.heap.size + 1 + 1 ≠ w.heap.size + 1 by omega)).far' (show w.heap.size + 1 + 1 ≠ w.heap.size + 1 by omega)).far' (show w.heap.size + 1 + 1 ≠ w.heap.size + 1 by omega), (((((((((b_u).far' (show w5.heap.size ≠ w.heap.size + 1 by omega)).far' (show w5.heap.size ≠ w.heap.size + 1 by omega)).far' (show w5.heap.size ≠ w.heap.size + 1 by omega)).far' (show w5.heap.size ≠ w.heap.size + 1 by omega)).far' (show w5.heap.size ≠ w.heap.size + 1 by omega)).far' (show w5.heap.size ≠ w.heap.size + 1 by omega)).far' (show w5.heap.size ≠ w.heap.size + 1 by omega)).far' (show w5.heap.size ≠ w.heap.size + 1 by omega)).far' (show w5.heap.size ≠ w.heap.size + 1 by omega), (((((((((b_c).far' (show p9 ≠ w.heap.size + 1 by omega)).far' (show p9 ≠ w.heap.size + 1 by omega)).far' (show p9 ≠ w.heap.size + 1 by omega)).far' (show p9 ≠ w.heap.size + 1 by omega)).far' (show p9 ≠ w.heap.size + 1 by omega)).far' (show p9 ≠ w.heap.size + 1 by omega)).far' (show p9 ≠ w.heap.size + 1 by omega)).far' (show p9 ≠ w.heap.size + 1 by omega)).far' (show p9 ≠ w.heap.size + 1 by omega), (((((((((b_d).far' (show p10 ≠ w.heap.size + 1 by omega)).far' (show p10 ≠ w.heap.size + 1 by omega)).far' (show p10 ≠ w.heap.size + 1 by omega)).far' (show p10 ≠ w.heap.size + 1 by omega)).far' (show p10 ≠ w.heap.size + 1 by omega)).far' (show p10 ≠ w.heap.size + 1 by omega)).far' (show p10 ≠ w.heap.size + 1 by omega)).far' (show p10 ≠ w.heap.size + 1 by omega)).far' (show p10 ≠ w.heap.size + 1 by omega)⟩ trivial trivial
 refine Reg.RC_end (fun Dn v' w7 hd hj hf => ?_)
 obtain ⟨j0, jk, jn, b_a, b_r, b_z, b_u, b_c, b_d⟩ := hj
 have B := j0
 have oa := b_a
 clear b_a
 have or := b_r.2 (hd 13 (Nat.le_of_ble_eq_true rfl))
 clear b_r
 have oz := b_z
 clear b_z
 have ou := b_u
 clear b_u
 have oc := b_c
 clear b_c
 have od := b_d
 clear b_d
 clear hd hf jk j0
 refine hQ _ _ ?_
 clear hQ hops Q' ops'
 have la := oa.lt
 obtain ⟨cr0, cr1, cr2, cr3, cr4, cr5, cr6, cr7, cr8⟩ := or.r8
 have lr := or.lt
 have lz := oz.lt
 go_wp2_with fail
 refine bodyPost_ret (by simp [results, Tryz.results37, go_sem, la, cr0, cr1, cr2, cr3, cr4, cr5, cr6, cr7, cr8, lr, lz]; rfl) rfl ?_
 exact ⟨rfl, belowB⟩
theorem cnan64 (x : Int) (w : World) : Calls Tryz.prog 82 #[.int .i64 x] w fun e w' => e = .returned (.bool false) ∧ Steps w w' := by
 go_enter Tryz.func82, Tryz.ntmps82
 go_wp2
 go_returns
 exact ⟨rfl, belowB⟩
theorem ccmp64 (x y : Int) (w : World) : Calls Tryz.prog 58 #[.int .i64 x, .int .i64 y] w fun e w' => e = .returned (.int .i64 (cmpI x y)) ∧ Steps w w' := by
 rcases (show x < y ∨ x = y ∨ y < x by omega) with h | h | h
 ·
  have E : Hid (cmpI x y = -1) := by show cmpI x y = _; unfold cmpI; rw [if_neg (by omega), if_pos h]
  go_enter Tryz.func58, Tryz.ntmps58
  go_wp2_with fail
  refine (cnan64 _ _).mono ?_
  rintro e w1 ⟨rfl, hb1⟩
  have st : Steps _ w1 := hb1
  have Bn : Below w.heap.size w w1 := belowA st
  clear st
  have B := Bn
  clear Bn
  go_wp2_with fail
  refine (cnan64 _ _).mono ?_
  rintro e w2 ⟨rfl, hb2⟩
  have st : Steps _ w2 := hb2
  have Bn : Below w.heap.size w w2 := belowA st
  clear B
  clear st
  have B := Bn
  clear Bn
  go_wp2
  go_returns
  exact ⟨retI E.out.symm, belowB⟩
 ·
  have E : Hid (cmpI x y = 0) := by show cmpI x y = _; unfold cmpI; rw [if_pos h]
  subst h
  go_enter Tryz.func58, Tryz.ntmps58
  go_wp2_with fail
  refine (cnan64 _ _).mono ?_
  rintro e w1 ⟨rfl, hb1⟩
  have st : Steps _ w1 := hb1
  have Bn : Below w.heap.size w w1 := belowA st
  clear st
  have B := Bn
  clear Bn
  go_wp2_with fail
  refine (cnan64 _ _).mono ?_
  rintro e w2 ⟨rfl, hb2⟩
  have st : Steps _ w2 := hb2
  have Bn : Below w.heap.size w w2 := belowA st
  clear B
  clear st
  have B := Bn
  clear Bn
  go_wp2
  go_returns
  exact ⟨retI E.out.symm, belowB⟩
 ·
  have E : Hid (cmpI x y = 1) := by show cmpI x y = _; unfold cmpI; rw [if_neg (by omega), if_neg (by omega)]
  go_enter Tryz.func58, Tryz.ntmps58
  go_wp2_with fail
  refine (cnan64 _ _).mono ?_
  rintro e w1 ⟨rfl, hb1⟩
  have st : Steps _ w1 := hb1
  have Bn : Below w.heap.size w w1 := belowA st
  clear st
  have B := Bn
  clear Bn
  go_wp2_with fail
  refine (cnan64 _ _).mono ?_
  rintro e w2 ⟨rfl, hb2⟩
  have st : Steps _ w2 := hb2
  have Bn : Below w.heap.size w w2 := belowA st
  clear B
  clear st
  have B := Bn
  clear Bn
  go_wp2
  go_returns
  exact ⟨retI E.out.symm, belowB⟩
theorem cnan (x : Int) (w : World) : Calls Tryz.prog 83 #[.int .i64 x] w fun e w' => e = .returned (.bool false) ∧ Steps w w' := by
 go_enter Tryz.func83, Tryz.ntmps83
 go_wp2
 go_returns
 exact ⟨rfl, belowB⟩
theorem ccmp (x y : Int) (w : World) : Calls Tryz.prog 60 #[.int .i64 x, .int .i64 y] w fun e w' => e = .returned (.int .i64 (cmpI x y)) ∧ Steps w w' := by
 rcases (show x < y ∨ x = y ∨ y < x by omega) with h | h | h
 ·
  have E : Hid (cmpI x y = -1) := by show cmpI x y = _; unfold cmpI; rw [if_neg (by omega), if_pos h]
  go_enter Tryz.func60, Tryz.ntmps60
  go_wp2_with fail
  refine (cnan _ _).mono ?_
  rintro e w1 ⟨rfl, hb1⟩
  have st : Steps _ w1 := hb1
  have Bn : Below w.heap.size w w1 := belowA st
  clear st
  have B := Bn
  clear Bn
  go_wp2_with fail
  refine (cnan _ _).mono ?_
  rintro e w2 ⟨rfl, hb2⟩
  have st : Steps _ w2 := hb2
  have Bn : Below w.heap.size w w2 := belowA st
  clear B
  clear st
  have B := Bn
  clear Bn
  go_wp2
  go_returns
  exact ⟨retI E.out.symm, belowB⟩
 ·
  have E : Hid (cmpI x y = 0) := by show cmpI x y = _; unfold cmpI; rw [if_pos h]
  subst h
  go_enter Tryz.func60, Tryz.ntmps60
  go_wp2_with fail
  refine (cnan _ _).mono ?_
  rintro e w1 ⟨rfl, hb1⟩
  have st : Steps _ w1 := hb1
  have Bn : Below w.heap.size w w1 := belowA st
  clear st
  have B := Bn
  clear Bn
  go_wp2_with fail
  refine (cnan _ _).mono ?_
  rintro e w2 ⟨rfl, hb2⟩
  have st : Steps _ w2 := hb2
  have Bn : Below w.heap.size w w2 := belowA st
  clear B
  clear st
  have B := Bn
  clear Bn
  go_wp2
  go_returns
  exact ⟨retI E.out.symm, belowB⟩
 ·
  have E : Hid (cmpI x y = 1) := by show cmpI x y = _; unfold cmpI; rw [if_neg (by omega), if_neg (by omega)]
  go_enter Tryz.func60, Tryz.ntmps60
  go_wp2_with fail
  refine (cnan _ _).mono ?_
  rintro e w1 ⟨rfl, hb1⟩
  have st : Steps _ w1 := hb1
  have Bn : Below w.heap.size w w1 := belowA st
  clear st
  have B := Bn
  clear Bn
  go_wp2_with fail
  refine (cnan _ _).mono ?_
  rintro e w2 ⟨rfl, hb2⟩
  have st : Steps _ w2 := hb2
  have Bn : Below w.heap.size w w2 := belowA st
  clear B
  clear st
  have B := Bn
  clear Bn
  go_wp2
  go_returns
  exact ⟨retI E.out.symm, belowB⟩
def orI (c d : Int) : Int := if c = 0 then d else c
theorem cor (c d : Int) (g : Nat) (w : World) (hg : g < w.heap.size) (h0 : w.cell? ⟨g, 0, none⟩ = some (.int .i64 c)) (h1 : w.cell? ⟨g, 1, none⟩ = some (.int .i64 d)) :
  Calls Tryz.prog 59 #[.slice (some ⟨g, 0, none⟩) 2 2] w fun e w' => e = .returned (.int .i64 (orI c d)) ∧ Steps w w' := by
 by_cases hc : c = 0
 ·
  by_cases hd : d = 0
  ·
   have E : Hid (orI c d = 0) := by show orI c d = _; unfold orI; rw [if_pos hc, hd]
   subst hc hd
   go_enter Tryz.func59, Tryz.ntmps59
   go_wp2_with fail
   refine wp_loop_rounds 3 ?_
   rw [rounds_succ]
   go_wp2_with fail
   rw [rounds_succ]
   go_wp2_with fail
   rw [rounds_succ]
   go_wp2
   go_returns
   exact ⟨retI E.out.symm, belowB⟩
  ·
   have E : Hid (orI c d = d) := if_pos hc
   have hd' : (d == 0) = false := by simpa using hd
   subst hc
   go_enter Tryz.func59, Tryz.ntmps59
   go_wp2_with fail
   refine wp_loop_rounds 3 ?_
   rw [rounds_succ]
   go_wp2_with fail
   rw [rounds_succ]
   go_wp2
   go_returns
   exact ⟨retI E.out.symm, belowB⟩
 ·
  have E : Hid (orI c d = c) := if_neg hc
  have hc' : (c == 0) = false := by simpa using hc
  go_enter Tryz.func59, Tryz.ntmps59
  go_wp2_with fail
  refine wp_loop_rounds 3 ?_
  rw [rounds_succ]
  go_wp2
  go_returns
  exact ⟨retI E.out.symm, belowB⟩
theorem orI_step (x y : Int) (a b : List Int) : cmpL (x :: a) (y :: b) = orI (cmpI x y) (cmpL a b) := by
 show (if x = y then cmpL a b else if x < y then -1 else 1) = _
 unfold orI cmpI
 by_cases h : x = y
 · rw [if_pos h, if_pos h, if_pos rfl]
 · rw [if_neg h, if_neg h]; split <;> rfl
theorem orI_assoc (a b c : Int) : orI (orI a b) c = orI a (orI b c) := by unfold orI; by_cases h : a = 0 <;> simp [h]
theorem orI_zero (a : Int) : orI a 0 = a := by unfold orI; by_cases h : a = 0 <;> simp [h]
theorem cmpA_or (a b : Arr) : cmpA a b = orI (orI (orI (orI (orI (orI (orI (orI (cmpI (a.a1 + a.b1) (b.a1 + b.b1)) (cmpI a.a1 b.a1)) (cmpI a.a2 b.a2)) (cmpI a.b1 b.b1)) (cmpI a.b2 b.b2)) (cmpI a.k0 b.k0)) (cmpI a.k1 b.k1)) (cmpI a.k2 b.k2)) (cmpI a.k3 b.k3) := by
 unfold cmpA Arr.key
 simp only [orI_step, orI_assoc]
 rw [show cmpL [] [] = 0 from rfl, orI_zero]
def arrV (a : Arr) : Value := .agg #[.int .i64 a.k0, .int .i64 a.k1, .int .i64 a.k2, .int .i64 a.k3, .int .i64 a.a1, .int .i64 a.a2, .int .i64 a.b1, .int .i64 a.b2, .int .i64 a.n]
def okA (a : Arr) : Prop := -35184372088832 ≤ a.a1 ∧ a.a1 ≤ 35184372088832 ∧ -35184372088832 ≤ a.b1 ∧ a.b1 ≤ 35184372088832
theorem qcompare0 (x y r : Nat → Int) (N M : Int) (w : World) (a1 : -35184372088832 ≤ x 0 ∧ x 0 ≤ 35184372088832) (a2 : -35184372088832 ≤ x 2 ∧ x 2 ≤ 35184372088832) (b1 : -35184372088832 ≤ y 0 ∧ y 0 ≤ 35184372088832) (b2 : -35184372088832 ≤ y 2 ∧ y 2 ≤ 35184372088832)
  (h0 : r 0 = cmpI (x 0 + x 2) (y 0 + y 2)) (hr : ∀ k, r (k + 1) = orI (r k) (cmpI (x k) (y k))) :
  Calls Tryz.prog 35 #[.agg #[.int .i64 (x 4), .int .i64 (x 5), .int .i64 (x 6), .int .i64 (x 7), .int .i64 (x 0), .int .i64 (x 1), .int .i64 (x 2), .int .i64 (x 3), .int .i64 N], .agg #[.int .i64 (y 4), .int .i64 (y 5), .int .i64 (y 6), .int .i64 (y 7), .int .i64 (y 0), .int .i64 (y 1), .int .i64 (y 2), .int .i64 (y 3), .int .i64 M]] w fun e w' => e = .returned (.int .i64 (r 8)) ∧ Steps w w' := by
 have cp : ∀ w', Calls Tryz.prog 58 #[.int .i64 (x 0 + x 2), .int .i64 (y 0 + y 2)] w' fun e w2 => e = .returned (.int .i64 (r 0)) ∧ Steps w' w2 := fun w' => by rw [h0]; exact ccmp64 _ _ w'
 have HR := Hid.mk_ hr
 clear h0 hr
 have cA1 : ∀ k, k < 4 → (#[.int .i64 (x 4), .int .i64 (x 5), .int .i64 (x 6), .int .i64 (x 7), .int .i64 (x 0), .int .i64 (x 1), .int .i64 (x 2), .int .i64 (x 3), .int .i64 N] : Array Value)[4 + k]? = some (.int .i64 (x k)) := fun k hk => by rcases (show k = 0 ∨ k = 1 ∨ k = 2 ∨ k = 3 by omega) with rfl | rfl | rfl | rfl <;> rfl
 have cA2 : ∀ k, k < 4 → (#[.int .i64 (x 4), .int .i64 (x 5), .int .i64 (x 6), .int .i64 (x 7), .int .i64 (x 0), .int .i64 (x 1), .int .i64 (x 2), .int .i64 (x 3), .int .i64 N] : Array Value)[k]? = some (.int .i64 (x (4 + k))) := fun k hk => by rcases (show k = 0 ∨ k = 1 ∨ k = 2 ∨ k = 3 by omega) with rfl | rfl | rfl | rfl <;> rfl
 have cB1 : ∀ k, k < 4 → (#[.int .i64 (y 4), .int .i64 (y 5), .int .i64 (y 6), .int .i64 (y 7), .int .i64 (y 0), .int .i64 (y 1), .int .i64 (y 2), .int .i64 (y 3), .int .i64 M] : Array Value)[4 + k]? = some (.int .i64 (y k)) := fun k hk => by rcases (show k = 0 ∨ k = 1 ∨ k = 2 ∨ k = 3 by omega) with rfl | rfl | rfl | rfl <;> rfl
 have cB2 : ∀ k, k < 4 → (#[.int .i64 (y 4), .int .i64 (y 5), .int .i64 (y 6), .int .i64 (y 7), .int .i64 (y 0), .int .i64 (y 1), .int .i64 (y 2), .int .i64 (y 3), .int .i64 M] : Array Value)[k]? = some (.int .i64 (y (4 + k))) := fun k hk => by rcases (show k = 0 ∨ k = 1 ∨ k = 2 ∨ k = 3 by omega) with rfl | rfl | rfl | rfl <;> rfl
 go_enter Tryz.func35, Tryz.ntmps35
 go_wp2_with fail
 refine (cp _).mono ?_
 rintro e w1 ⟨rfl, hb1⟩
 have st : Steps _ w1 := hb1
 have B : Below w.heap.size w w1 := belowA st
 have oa : Blk w1 (w.heap.size) 57 #[.int .i64 (x 4), .int .i64 (x 5), .int .i64 (x 6), .int .i64 (x 7), .int .i64 (x 0), .int .i64 (x 1), .int .i64 (x 2), .int .i64 (x 3), .int .i64 N] := Blk.stepsK st
 have ob : Blk w1 (w.heap.size + 1) 57 #[.int .i64 (y 4), .int .i64 (y 5), .int .i64 (y 6), .int .i64 (y 7), .int .i64 (y 0), .int .i64 (y 1), .int .i64 (y 2), .int .i64 (y 3), .int .i64 M] := Blk.stepsK st
 clear st
 clear a1 a2 b1 b2 cp
 obtain ⟨CA, hCA⟩ : ∃ c, (#[.int .i64 (x 4), .int .i64 (x 5), .int .i64 (x 6), .int .i64 (x 7), .int .i64 (x 0), .int .i64 (x 1), .int .i64 (x 2), .int .i64 (x 3), .int .i64 N] : Array Value) = c := ⟨_, rfl⟩
 rw [hCA] at oa cA1 cA2
 clear hCA
 obtain ⟨CB, hCB⟩ : ∃ c, (#[.int .i64 (y 4), .int .i64 (y 5), .int .i64 (y 6), .int .i64 (y 7), .int .i64 (y 0), .int .i64 (y 1), .int .i64 (y 2), .int .i64 (y 3), .int .i64 M] : Array Value) = c := ⟨_, rfl⟩
 rw [hCB] at ob cB1 cB2
 clear hCB
 go_wp2_with fail
 go_loopw [5, 23] (fun cc kk wr => ∃ k : Nat, k ≤ 4 ∧ kk = .int .i64 k ∧ cc = .int .i64 (r (k)) ∧ Blk wr (w.heap.size) 57 CA ∧ Blk wr (w.heap.size + 1) 57 CB ∧ Below w.heap.size w wr) (fun _ kk _ => (4 - (intOf kk).toNat))
 case atStart => exact ⟨0, by omega, rfl, rfl, ownK, ownK, belowB⟩
 case round =>
  obtain ⟨k, hk, rfl, rfl, za, zb, zB⟩ := hrel
  clear oa ob B
  have oa := za
  have ob := zb
  have B := zB
  clear za zb zB
  rcases Nat.lt_or_ge k 4 with h4 | h4
  ·
   have hA := cA1 k h4
   have hB := cB1 k h4
   have hn := HR.out k
   obtain ⟨xk, hx⟩ : ∃ z, x k = z := ⟨_, rfl⟩
   obtain ⟨yk, hy⟩ : ∃ z, y k = z := ⟨_, rfl⟩
   rw [hx] at hA hn
   rw [hy] at hB hn
   obtain ⟨d, hd⟩ : ∃ z, cmpI xk yk = z := ⟨_, rfl⟩
   rw [hd] at hn
   obtain ⟨c, hc⟩ : ∃ z, r k = z := ⟨_, rfl⟩
   rw [hc] at hn ⊢
   obtain ⟨e, he⟩ : ∃ z, orI c d = z := ⟨_, rfl⟩
   rw [he] at hn
   have cpk : ∀ w', Calls Tryz.prog 58 #[.int .i64 xk, .int .i64 yk] w' fun e w2 => e = .returned (.int .i64 d) ∧ Steps w' w2 := fun w' => by rw [← hd]; exact ccmp64 _ _ w'
   have cok : ∀ g w', g < w'.heap.size → w'.cell? ⟨g, 0, none⟩ = some (.int .i64 c) → w'.cell? ⟨g, 1, none⟩ = some (.int .i64 d) → Calls Tryz.prog 59 #[.slice (some ⟨g, 0, none⟩) 2 2] w' fun u w2 => u = .returned (.int .i64 e) ∧ Steps w' w2 := fun g w' h1 h2 h3 => by rw [← he]; exact cor _ _ g w' h1 h2 h3
   have HN := Hid.mk_ hn
   have hlt : decide ((k : Int) < 4) = true := decide_eq_true (by omega)
   clear hn hx hy hd hc he
   go_wp2_with fail
   refine Reg.wp_chain_n (fun N0 => fun D v W => Below w.heap.size w W ∧ Blk W (w.heap.size) 57 CA ∧ Blk W (w.heap.size + 1) 57 CB ∧ (D 10 = true → ∃ g : Nat, v 10 = .slice (some ⟨g, 0, none⟩) 2 2 ∧ N0 ≤ g ∧ Blk W g 3 #[.int .i64 c, .int .i64 d]) ∧ N0 ≤ W.heap.size)
    (Reg.inl [9, 10, 11]) (Reg.gv [(9, fun x => x = .int .i64 d), (11, fun x => x = .int .i64 e), (10, fun x => ∃ g : Nat, x = .slice (some ⟨g, 0, none⟩) 2 2)]) Reg.None_ (fun _ => Reg.Any) (fun _ _ => False) (Reg.pl [(11, [(10, some 36)]), (13, [(10, some 36)])]) (Reg.pl [])
    (by kernel_rfl) (by kernel_rfl) (by kernel_rfl) (Reg.gv_some _ (fun p hp => by simp only [List.mem_cons, List.not_mem_nil, or_false] at hp; rcases hp with rfl | rfl | rfl; exact ⟨_, rfl⟩; exact ⟨_, rfl⟩; exact ⟨_, 0, rfl⟩)) (fun N0 hN0 => ⟨fun v => ?_, (fun D v v' W hv hj => ?_), fun _ _ _ _ _ _ _ _ _ _ _ _ _ => Reg.none_, fun _ _ _ _ h => h.elim, fun ops' Q' hops hQ => ?_⟩)
   · exact ⟨(by first | with_reducible exact Below.drew B | with_reducible exact Below.drew (belowN B _) | (repeat' first | with_reducible assumption | with_reducible exact Below.refl _ _ | with_reducible refine Below.alloc ?_ ?_ _ | with_reducible refine Below.drew ?_ | with_reducible refine belowN ?_ _ | with_reducible refine Below.setCell ?_ ?_ _ | go_size)), (show Blk _ _ _ CA from (by first | with_reducible exact oa | (repeat' first | with_reducible assumption | (with_reducible refine Blk.new' ?_; first | with_reducible rfl | (simp only [World.size_alloc, World.size_setCell, World.size_drew]; done)) | with_reducible refine Blk.alloc ?_ _ | with_reducible refine Blk.drew ?_ | with_reducible refine Blk.drewN ?_ _ | with_reducible apply Blk.both | with_reducible refine Blk.far' ?_ ?_ | (show _ ≠ _; omega)))), (show Blk _ _ _ CB from (by first | with_reducible exact ob | (repeat' first | with_reducible assumption | (with_reducible refine Blk.new' ?_; first | with_reducible rfl | (simp only [World.size_alloc, World.size_setCell, World.size_drew]; done)) | with_reducible refine Blk.alloc ?_ _ | with_reducible refine Blk.drew ?_ | with_reducible refine Blk.drewN ?_ _ | with_reducible apply Blk.both | with_reducible refine Blk.far' ?_ ?_ | (show _ ≠ _; omega)))), (fun h => by cases h), (Nat.le_of_eq hN0.out)⟩
   ·
    obtain ⟨B, oa, ob, pa10, zN0⟩ := hj
    exact ⟨B, oa, ob, (fun h => hv 10 h ▸ pa10 h), zN0⟩
   have ia : w.heap.size < N0 := by have h := oa.lt; have e := hN0.out; (try simp only [World.size_alloc, World.size_setCell, World.size_drew, World.heap_drewN] at e); omega
   have ib : w.heap.size + 1 < N0 := by have h := ob.lt; have e := hN0.out; (try simp only [World.size_alloc, World.size_setCell, World.size_drew, World.heap_drewN] at e); omega
   have uN0 : w.heap.size ≤ N0 := by have h := Below.size B; have e := hN0.out; (try simp only [World.size_alloc, World.size_setCell, World.size_drew, World.heap_drewN] at e); (try simp only [World.size_alloc, World.size_setCell, World.size_drew, World.heap_drewN] at h); omega
   clear B oa ob hN0
   refine Reg.RP0 26 ?_
   refine Reg.RP0 27 ?_
   refine Reg.RP0 28 ?_
   refine Reg.RP0 29 ?_
   apply Reg.RP rfl rfl rfl 30 rfl rfl
   ·
    intro D v W hc hj hf K hK
    obtain ⟨B, oa, ob, pa10, zN0⟩ := hj
    have ca0 : World.cell? W ⟨w.heap.size, 4 + k, none⟩ = some (.int .i64 xk) := oa.c _ hA
    go_step
    exact hK.out
   · rfl
   refine Reg.RP0 31 ?_
   refine Reg.RP0 32 ?_
   refine Reg.RP0 33 ?_
   apply Reg.RP rfl rfl rfl 34 rfl rfl
   ·
    intro D v W hc hj hf K hK
    obtain ⟨B, oa, ob, pa10, zN0⟩ := hj
    have cb0 : World.cell? W ⟨w.heap.size + 1, 4 + k, none⟩ = some (.int .i64 yk) := ob.c _ hB
    go_step
    exact hK.out
   · rfl
   refine Reg.RC_call rfl (tlt rfl) rfl (fun D v W hc hj hf K hK => ?_) (fun x hx => ?_)
   ·
    obtain ⟨B, oa, ob, pa10, zN0⟩ := hj
    go_step
    refine (cpk _).mono ?_
    rintro e W' ⟨rfl, hb⟩
    have st : Steps W W' := hb
    exact hK.out _ _ Reg.any ⟨below_steps B (Nat.le_refl _) st, oa.steps st, ob.steps st, (fun h => let ⟨g, h1, h2, h3⟩ := pa10 h; ⟨g, h1, h2, h3.steps st⟩), (Nat.le_trans zN0 st.size)⟩ Reg.none_ rfl
   have hx : x = .int .i64 d := hx
   subst hx
   refine Reg.RC_at (b := ⟨#[_,_,_,_,_,_,_,_,_,_,_,_,_,_,_,_,_,_,_,_,_,_,_,_,_,_,_,_,_,_,_,_,_,_,_,_,_,_,_,_,_,_,_,_,_,_,_,_,_,_,_,_,_,_,_,_], []⟩) rfl ?_
   refine Reg.RC_call rfl (tlt rfl) rfl (fun D v W hc hj hf K hK => ?_) (fun x hx => ?_)
   ·
    obtain ⟨B, oa, ob, pa10, zN0⟩ := hj
    go_step
    exact hK.out _ _ Reg.any ⟨Below.alloc B B.size _, oa.alloc _, ob.alloc _, (fun _ => ⟨W.heap.size, rfl, zN0, Blk.new W _ _⟩), (Nat.le_trans zN0 (by rw [World.size_alloc]; exact Nat.le_succ _))⟩ Reg.none_ ⟨_, rfl⟩
   obtain ⟨gS, hx⟩ : ∃ g : Nat, x = .slice (some ⟨g, 0, none⟩) 2 2 := hx
   subst hx
   refine Reg.RC_at (b := ⟨#[_,_,_,_,_,_,_,_,_,_,_,_,_,_,_,_,_,_,_,_,_,_,_,_,_,_,_,_,_,_,_,_,_,_,_,_,_,_,_,_,_,_,_,_,_,_,_,_,_,_,_,_,_,_,_,_], []⟩) rfl ?_
   refine Reg.RC_call rfl (tlt rfl) rfl (fun D v W hc hj hf K hK => ?_) (fun x hx => ?_)
   ·
    obtain ⟨B, oa, ob, pa10, zN0⟩ := hj
    obtain ⟨hd, he, -⟩ := hf (10, some 36) (.head _) rfl
    obtain ⟨g, h1, h2, oS⟩ := pa10 hd
    obtain rfl : gS = g := Reg.slc_eq ((show v 10 = Value.slice (some ⟨gS, 0, none⟩) 2 2 from he).symm.trans h1)
    clear he h1 h2
    go_step
    refine (cok _ _ oS.lt (oS.c 0 rfl) (oS.c 1 rfl)).mono ?_
    rintro e W' ⟨rfl, hb⟩
    have st : Steps W W' := hb
    exact hK.out _ _ Reg.any ⟨below_steps B (Nat.le_refl _) st, oa.steps st, ob.steps st, (fun h => let ⟨g, h1, h2, h3⟩ := pa10 h; ⟨g, h1, h2, h3.steps st⟩), (Nat.le_trans zN0 st.size)⟩ Reg.none_ rfl
   have hx : x = .int .i64 e := hx
   subst hx
   refine Reg.RC_at (b := ⟨#[_,_,_,_,_,_,_,_,_,_,_,_,_,_,_,_,_,_,_,_,_,_,_,_,_,_,_,_,_,_,_,_,_,_,_,_,_,_,_,_,_,_,_,_,_,_,_,_,_,_,_,_,_,_,_,_], []⟩) rfl ?_
   refine Reg.RP0 5 ?_
   refine Reg.RC_end (fun D v W hd hj hf => ?_)
   obtain ⟨B, oa, ob, pa10, zN0⟩ := hj
   obtain ⟨-, he, -⟩ := hf (10, some 36) (.head _) rfl
   obtain ⟨g, h1, hSn, h3⟩ := pa10 (hd 10 (by decide))
   obtain rfl : gS = g := Reg.slc_eq ((show v 10 = Value.slice (some ⟨gS, 0, none⟩) 2 2 from he).symm.trans h1)
   have oS : Blk W gS 3 #[.int .i64 c, .int .i64 d] := h3
   have lowS : w.heap.size ≤ gS := Nat.le_trans uN0 hSn
   have saS : w.heap.size ≠ gS := by have := ia; have := hSn; omega
   have sbS : w.heap.size + 1 ≠ gS := by have := ib; have := hSn; omega
   have he10 := h1
   clear he h1 h3 pa10 hSn
   clear he10 zN0 uN0
   clear hd hf ia ib
   refine hQ _ _ ?_
   clear hQ hops Q' ops'
   clear oS
   repeat' (first | go_values | go_skip | go_guarded | go_step | go_upon)
   go_roundw
   case rel => exact ⟨k + 1, by omega, by go_num, by rw [HN.out], ownK, ownK, belowB⟩
   case measure => simp [intOf]; omega
  ·
   obtain rfl : k = 4 := by omega
   rw [show ((4 : Nat) : Int) = 4 from rfl]
   go_wp2_with fail
   go_loopw [5, 39] (fun cc kk wr => ∃ k : Nat, k ≤ 4 ∧ kk = .int .i64 k ∧ cc = .int .i64 (r (4 + k)) ∧ Blk wr (w.heap.size) 57 CA ∧ Blk wr (w.heap.size + 1) 57 CB ∧ Below w.heap.size w wr) (fun _ kk _ => (4 - (intOf kk).toNat))
   case atStart => exact ⟨0, by omega, rfl, rfl, ownK, ownK, belowB⟩
   case round =>
    obtain ⟨k, hk, rfl, rfl, za, zb, zB⟩ := hrel
    clear oa ob B
    have oa := za
    have ob := zb
    have B := zB
    clear za zb zB
    rcases Nat.lt_or_ge k 4 with h4 | h4
    ·
     have hA := cA2 k h4
     have hB := cB2 k h4
     have hn := HR.out (4 + k)
     obtain ⟨xk, hx⟩ : ∃ z, x (4 + k) = z := ⟨_, rfl⟩
     obtain ⟨yk, hy⟩ : ∃ z, y (4 + k) = z := ⟨_, rfl⟩
     rw [hx] at hA hn
     rw [hy] at hB hn
     obtain ⟨d, hd⟩ : ∃ z, cmpI xk yk = z := ⟨_, rfl⟩
     rw [hd] at hn
     obtain ⟨c, hc⟩ : ∃ z, r (4 + k) = z := ⟨_, rfl⟩
     rw [hc] at hn ⊢
     obtain ⟨e, he⟩ : ∃ z, orI c d = z := ⟨_, rfl⟩
     rw [he] at hn
     have cpk : ∀ w', Calls Tryz.prog 60 #[.int .i64 xk, .int .i64 yk] w' fun e w2 => e = .returned (.int .i64 d) ∧ Steps w' w2 := fun w' => by rw [← hd]; exact ccmp _ _ w'
     have cok : ∀ g w', g < w'.heap.size → w'.cell? ⟨g, 0, none⟩ = some (.int .i64 c) → w'.cell? ⟨g, 1, none⟩ = some (.int .i64 d) → Calls Tryz.prog 59 #[.slice (some ⟨g, 0, none⟩) 2 2] w' fun u w2 => u = .returned (.int .i64 e) ∧ Steps w' w2 := fun g w' h1 h2 h3 => by rw [← he]; exact cor _ _ g w' h1 h2 h3
     have HN := Hid.mk_ hn
     have hlt : decide ((k : Int) < 4) = true := decide_eq_true (by omega)
     clear hn hx hy hd hc he
     go_wp2_with fail
     refine Reg.wp_chain_n (fun N0 => fun D v W => Below w.heap.size w W ∧ Blk W (w.heap.size) 57 CA ∧ Blk W (w.heap.size + 1) 57 CB ∧ (D 10 = true → ∃ g : Nat, v 10 = .slice (some ⟨g, 0, none⟩) 2 2 ∧ N0 ≤ g ∧ Blk W g 3 #[.int .i64 c, .int .i64 d]) ∧ N0 ≤ W.heap.size)
      (Reg.inl [9, 10, 11]) (Reg.gv [(9, fun x => x = .int .i64 d), (11, fun x => x = .int .i64 e), (10, fun x => ∃ g : Nat, x = .slice (some ⟨g, 0, none⟩) 2 2)]) Reg.None_ (fun _ => Reg.Any) (fun _ _ => False) (Reg.pl [(11, [(10, some 52)]), (13, [(10, some 52)])]) (Reg.pl [])
      (by kernel_rfl) (by kernel_rfl) (by kernel_rfl) (Reg.gv_some _ (fun p hp => by simp only [List.mem_cons, List.not_mem_nil, or_false] at hp; rcases hp with rfl | rfl | rfl; exact ⟨_, rfl⟩; exact ⟨_, rfl⟩; exact ⟨_, 0, rfl⟩)) (fun N0 hN0 => ⟨fun v => ?_, (fun D v v' W hv hj => ?_), fun _ _ _ _ _ _ _ _ _ _ _ _ _ => Reg.none_, fun _ _ _ _ h => h.elim, fun ops' Q' hops hQ => ?_⟩)
     · exact ⟨(by first | with_reducible exact Below.drew B | with_reducible exact Below.drew (belowN B _) | (repeat' first | with_reducible assumption | with_reducible exact Below.refl _ _ | with_reducible refine Below.alloc ?_ ?_ _ | with_reducible refine Below.drew ?_ | with_reducible refine belowN ?_ _ | with_reducible refine Below.setCell ?_ ?_ _ | go_size)), (show Blk _ _ _ CA from (by first | with_reducible exact oa | (repeat' first | with_reducible assumption | (with_reducible refine Blk.new' ?_; first | with_reducible rfl | (simp only [World.size_alloc, World.size_setCell, World.size_drew]; done)) | with_reducible refine Blk.alloc ?_ _ | with_reducible refine Blk.drew ?_ | with_reducible refine Blk.drewN ?_ _ | with_reducible apply Blk.both | with_reducible refine Blk.far' ?_ ?_ | (show _ ≠ _; omega)))), (show Blk _ _ _ CB from (by first | with_reducible exact ob | (repeat' first | with_reducible assumption | (with_reducible refine Blk.new' ?_; first | with_reducible rfl | (simp only [World.size_alloc, World.size_setCell, World.size_drew]; done)) | with_reducible refine Blk.alloc ?_ _ | with_reducible refine Blk.drew ?_ | with_reducible refine Blk.drewN ?_ _ | with_reducible apply Blk.both | with_reducible refine Blk.far' ?_ ?_ | (show _ ≠ _; omega)))), (fun h => by cases h), (Nat.le_of_eq hN0.out)⟩
     ·
      obtain ⟨B, oa, ob, pa10, zN0⟩ := hj
      exact ⟨B, oa, ob, (fun h => hv 10 h ▸ pa10 h), zN0⟩
     have ia : w.heap.size < N0 := by have h := oa.lt; have e := hN0.out; (try simp only [World.size_alloc, World.size_setCell, World.size_drew, World.heap_drewN] at e); omega
     have ib : w.heap.size + 1 < N0 := by have h := ob.lt; have e := hN0.out; (try simp only [World.size_alloc, World.size_setCell, World.size_drew, World.heap_drewN] at e); omega
     have uN0 : w.heap.size ≤ N0 := by have h := Below.size B; have e := hN0.out; (try simp only [World.size_alloc, World.size_setCell, World.size_drew, World.heap_drewN] at e); (try simp only [World.size_alloc, World.size_setCell, World.size_drew, World.heap_drewN] at h); omega
     clear B oa ob hN0
     refine Reg.RP0 42 ?_
     refine Reg.RP0 43 ?_
     refine Reg.RP0 44 ?_
     refine Reg.RP0 45 ?_
     apply Reg.RP rfl rfl rfl 46 rfl rfl
     ·
      intro D v W hc hj hf K hK
      obtain ⟨B, oa, ob, pa10, zN0⟩ := hj
      have ca0 : World.cell? W ⟨w.heap.size, k, none⟩ = some (.int .i64 xk) := oa.c _ hA
      go_step
      exact hK.out
     · rfl
     refine Reg.RP0 47 ?_
     refine Reg.RP0 48 ?_
     refine Reg.RP0 49 ?_
     apply Reg.RP rfl rfl rfl 50 rfl rfl
     ·
      intro D v W hc hj hf K hK
      obtain ⟨B, oa, ob, pa10, zN0⟩ := hj
      have cb0 : World.cell? W ⟨w.heap.size + 1, k, none⟩ = some (.int .i64 yk) := ob.c _ hB
      go_step
      exact hK.out
     · rfl
     refine Reg.RC_call rfl (tlt rfl) rfl (fun D v W hc hj hf K hK => ?_) (fun x hx => ?_)
     ·
      obtain ⟨B, oa, ob, pa10, zN0⟩ := hj
      go_step
      refine (cpk _).mono ?_
      rintro e W' ⟨rfl, hb⟩
      have st : Steps W W' := hb
      exact hK.out _ _ Reg.any ⟨below_steps B (Nat.le_refl _) st, oa.steps st, ob.steps st, (fun h => let ⟨g, h1, h2, h3⟩ := pa10 h; ⟨g, h1, h2, h3.steps st⟩), (Nat.le_trans zN0 st.size)⟩ Reg.none_ rfl
     have hx : x = .int .i64 d := hx
     subst hx
     refine Reg.RC_at (b := ⟨#[_,_,_,_,_,_,_,_,_,_,_,_,_,_,_,_,_,_,_,_,_,_,_,_,_,_,_,_,_,_,_,_,_,_,_,_,_,_,_,_,_,_,_,_,_,_,_,_,_,_,_,_,_,_,_,_], []⟩) rfl ?_
     refine Reg.RC_call rfl (tlt rfl) rfl (fun D v W hc hj hf K hK => ?_) (fun x hx => ?_)
     ·
      obtain ⟨B, oa, ob, pa10, zN0⟩ := hj
      go_step
      exact hK.out _ _ Reg.any ⟨Below.alloc B B.size _, oa.alloc _, ob.alloc _, (fun _ => ⟨W.heap.size, rfl, zN0, Blk.new W _ _⟩), (Nat.le_trans zN0 (by rw [World.size_alloc]; exact Nat.le_succ _))⟩ Reg.none_ ⟨_, rfl⟩
     obtain ⟨gS, hx⟩ : ∃ g : Nat, x = .slice (some ⟨g, 0, none⟩) 2 2 := hx
     subst hx
     refine Reg.RC_at (b := ⟨#[_,_,_,_,_,_,_,_,_,_,_,_,_,_,_,_,_,_,_,_,_,_,_,_,_,_,_,_,_,_,_,_,_,_,_,_,_,_,_,_,_,_,_,_,_,_,_,_,_,_,_,_,_,_,_,_], []⟩) rfl ?_
     refine Reg.RC_call rfl (tlt rfl) rfl (fun D v W hc hj hf K hK => ?_) (fun x hx => ?_)
     ·
      obtain ⟨B, oa, ob, pa10, zN0⟩ := hj
      obtain ⟨hd, he, -⟩ := hf (10, some 52) (.head _) rfl
      obtain ⟨g, h1, h2, oS⟩ := pa10 hd
      obtain rfl : gS = g := Reg.slc_eq ((show v 10 = Value.slice (some ⟨gS, 0, none⟩) 2 2 from he).symm.trans h1)
      clear he h1 h2
      go_step
      refine (cok _ _ oS.lt (oS.c 0 rfl) (oS.c 1 rfl)).mono ?_
      rintro e W' ⟨rfl, hb⟩
      have st : Steps W W' := hb
      exact hK.out _ _ Reg.any ⟨below_steps B (Nat.le_refl _) st, oa.steps st, ob.steps st, (fun h => let ⟨g, h1, h2, h3⟩ := pa10 h; ⟨g, h1, h2, h3.steps st⟩), (Nat.le_trans zN0 st.size)⟩ Reg.none_ rfl
     have hx : x = .int .i64 e := hx
     subst hx
     refine Reg.RC_at (b := ⟨#[_,_,_,_,_,_,_,_,_,_,_,_,_,_,_,_,_,_,_,_,_,_,_,_,_,_,_,_,_,_,_,_,_,_,_,_,_,_,_,_,_,_,_,_,_,_,_,_,_,_,_,_,_,_,_,_], []⟩) rfl ?_
     refine Reg.RP0 5 ?_
     refine Reg.RC_end (fun D v W hd hj hf => ?_)
     obtain ⟨B, oa, ob, pa10, zN0⟩ := hj
     obtain ⟨-, he, -⟩ := hf (10, some 52) (.head _) rfl
     obtain ⟨g, h1, hSn, h3⟩ := pa10 (hd 10 (by decide))
     obtain rfl : gS = g := Reg.slc_eq ((show v 10 = Value.slice (some ⟨gS, 0, none⟩) 2 2 from he).symm.trans h1)
     have oS : Blk W gS 3 #[.int .i64 c, .int .i64 d] := h3
     have lowS : w.heap.size ≤ gS := Nat.le_trans uN0 hSn
     have saS : w.heap.size ≠ gS := by have := ia; have := hSn; omega
     have sbS : w.heap.size + 1 ≠ gS := by have := ib; have := hSn; omega
     have he10 := h1
     clear he h1 h3 pa10 hSn
     clear he10 zN0 uN0
     clear hd hf ia ib
     refine hQ _ _ ?_
     clear hQ hops Q' ops'
     clear oS
     repeat' (first | go_values | go_skip | go_guarded | go_step | go_upon)
     go_roundw
     case rel => exact ⟨k + 1, by omega, by go_num, by rw [show 4 + (k + 1) = 4 + k + 1 from by omega, HN.out], ownK, ownK, belowB⟩
     case measure => simp [intOf]; omega
    ·
     obtain rfl : k = 4 := by omega
     rw [show ((4 : Nat) : Int) = 4 from rfl]
     go_wp2
     go_returns
     exact ⟨rfl, belowB⟩
def arrF (a : Arr) (i : Nat) : Int := match i with | 0 => a.a1 | 1 => a.a2 | 2 => a.b1 | 3 => a.b2 | 4 => a.k0 | 5 => a.k1 | 6 => a.k2 | _ => a.k3
def arrR (x y : Nat → Int) : Nat → Int
 | 0 => cmpI (x 0 + x 2) (y 0 + y 2)
 | k + 1 => orI (arrR x y k) (cmpI (x k) (y k))
theorem qcompare (a b : Arr) (w : World) (ha : okA a) (hb : okA b) : Calls Tryz.prog 35 #[arrV a, arrV b] w fun e w' => e = .returned (.int .i64 (cmpA a b)) ∧ Steps w w' := by
 rw [cmpA_or]
 exact qcompare0 (arrF a) (arrF b) (arrR (arrF a) (arrF b)) a.n b.n w ⟨ha.1, ha.2.1⟩ ha.2.2 ⟨hb.1, hb.2.1⟩ hb.2.2 rfl (fun _ => rfl)
end Go.Proofs.YtibdehlmflaodaaGreat
