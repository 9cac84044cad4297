import Derived.Test.YtibdehlmflaodaaCUc
namespace Go.Proofs.Ytibdehlmflaodaa
open Go.RowKit
theorem fcheck_q {v : Value} {r : Rat} (w : World) (h : FR w v r) : Calls Try.prog 36 #[v] w fun e w' => e = .returned (.int .i64 0) ∧ Steps w w' := fcheck_ok w h
set_option maxHeartbeats 6400000 in
set_option maxRecDepth 1000000 in
theorem fAdd1 {va vb : Value} {r s : Rat} (w : World) (ha : FR w va r) (hb : FR w vb s) (g1 : fits (r.num * s.den)) (g2 : fits (s.num * r.den)) (g3 : fits (r.num * s.den + s.num * r.den)) (g4 : fits (r.den * s.den)) :
    Calls Try.prog 44 #[va, vb] w fun e w' => ∃ u v, e = .returned (.tuple #[u, v]) ∧ Num w' u (r.num * s.den + s.num * r.den) ∧ Num w' v (r.den * s.den) ∧ Steps w w' := by
  have fa := ha.fit
  have fb := hb.fit
  have m2 : ∀ w' u v, Num w' u (r.den) → Num w' v (s.den) → Calls Try.prog 48 #[u, v] w' fun e w2 => ∃ v, e = .returned (.tuple #[v, .int .i64 0]) ∧ Num w2 v (r.den * s.den) ∧ Steps w' w2 := fun w' u v h1 h2 => by
    have := wMul w' h1 h2 fa.2 fb.2
    rw [errN_fits g4, clipN_fits g4] at this
    exact this
  have cr1 : ∀ w' u v, FR w' u r → FR w' v s → Calls Try.prog 47 #[u, v] w' fun e w2 => ∃ v, e = .returned v ∧ Num w2 v (r.num * s.den) ∧ Steps w' w2 := fun w' u v h1 h2 => fcross w' h1 h2 g1
  have cr2 : ∀ w' u v, FR w' u s → FR w' v r → Calls Try.prog 47 #[u, v] w' fun e w2 => ∃ v, e = .returned v ∧ Num w2 v (s.num * r.den) ∧ Steps w' w2 := fun w' u v h1 h2 => fcross w' h1 h2 g2
  have ad : ∀ w' u v, Num w' u (r.num * s.den) → Num w' v (s.num * r.den) → Calls Try.prog 46 #[u, v] w' fun e w2 => ∃ v, e = .returned (.tuple #[v, .int .i64 0]) ∧ Num w2 v (r.num * s.den + s.num * r.den) ∧ Steps w' w2 := fun w' u v h1 h2 => by
    have := wAdd w' h1 h2 g1 g2
    rw [errN_fits g3, clipN_fits g3] at this
    exact this
  have ha0 := ha
  have hb0 := hb
  obtain ⟨a2, a3, a4, a6, a7, a8, rfl, na, da, -⟩ := ha.nums
  obtain ⟨b2, b3, b4, b6, b7, b8, rfl, nb', db, -⟩ := hb.nums
  obtain ⟨ga, hga⟩ : ∃ g, decide (r < 0) = g := ⟨_, rfl⟩
  obtain ⟨gb, hgb⟩ : ∃ g, decide (s < 0) = g := ⟨_, rfl⟩
  rw [hga] at na ha0 ⊢
  rw [hgb] at nb' hb0 ⊢
  have Fa := Hid.mk_ ha0
  have Fb := Hid.mk_ hb0
  have Fna := Hid.mk_ na
  have Fnb := Hid.mk_ nb'
  have Fda := Hid.mk_ da
  have Fdb := Hid.mk_ db
  clear hga hgb na da nb' db ha hb ha0 hb0 fa fb
  clear g3 g4 g1 g2
  go_enter Try.func44, Try.ntmps44
  go_upto_region 1 with fail
  refine Reg.wp_chain_n (fun N0 D v W => Below w.heap.size w W ∧ Keeps w W ∧ N0 ≤ W.heap.size ∧ Blk W (w.heap.size) 28 #[.bool ga, .slice a2 a3 a4, .bool false, .slice a6 a7 a8] ∧ Blk W (w.heap.size + 1) 28 #[.bool gb, .slice b2 b3 b4, .bool false, .slice b6 b7 b8] ∧ ((D 18 = false → Blk W (w.heap.size + 1 + 1) 26 #[.bool false, .slice none 0 0]) ∧ (D 18 = true → D 9 = true ∧ ∃ cs, v 9 = .agg cs ∧ Blk W (w.heap.size + 1 + 1) 26 cs)) ∧ ((D 19 = false → Blk W (w.heap.size + 1 + 1 + 1) 26 #[.bool false, .slice none 0 0]) ∧ (D 19 = true → D 17 = true ∧ ∃ cs, v 17 = .agg cs ∧ Blk W (w.heap.size + 1 + 1 + 1) 26 cs)))
    (Reg.inl [2, 5, 6, 9, 14, 17, 18, 19]) (Reg.gv [(2, IsNu), (5, IsNu), (6, IsNuE 0), (9, IsNu), (14, IsNuE 0), (17, IsNu)]) (gw [(2, GNu (r.num * s.den)), (5, GNu (s.num * r.den)), (6, GNuE (r.num * s.den + s.num * r.den) 0), (9, GNu (r.num * s.den + s.num * r.den)), (14, GNuE (r.den * s.den) 0), (17, GNu (r.den * s.den))]) (fun _ => Keeps) (fun _ _ => False) (Reg.pl [(6, [(2, some 8), (5, some 11)]), (9, [(6, some 12)]), (17, [(14, some 20)]), (18, [(9, some 15)]), (19, [(17, some 23)]), (20, [(2, some 8), (5, some 11), (6, some 12), (9, some 15), (14, some 20), (17, some 23)])]) (Reg.pl [(9, [18]), (17, [19])])
    (by kernel_rfl) (by kernel_rfl) (by kernel_rfl) (Reg.gv_some _ (by intro p hp; simp only [List.mem_cons, List.not_mem_nil, or_false] at hp; rcases hp with rfl | rfl | rfl | rfl | rfl | rfl <;> first | exact ⟨_, rfl⟩ | exact ⟨_, 0, rfl⟩ | exact ⟨_, none, 0, 0, rfl⟩ | exact ⟨_, false, none, 0, 0, rfl⟩ | exact ⟨_, false, none, 0, 0, false, none, 0, 0, rfl⟩)) (fun N0 hN0 => ⟨fun v => ?_, fun D v v' W hv hj => ?_, fun D v k j W W' x _ _ _ _ hk hg => gw_keeps _ (by intro p hp; simp only [List.mem_cons, List.not_mem_nil, or_false] at hp; rcases hp with rfl | rfl | rfl | rfl | rfl | rfl <;> first | exact GFr.keeps | exact GFrE.keeps | exact GNu.keeps | exact GNuE.keeps | exact GLi.keeps) hk hg, fun _ _ _ _ h => h.elim, fun ops' Q' hops hQ => ?_⟩)
  · exact ⟨belowB, keepsB, Nat.le_of_eq hN0.out, ownK, ownK, ⟨fun _ => ownK, (fun h => Bool.noConfusion h)⟩, ⟨fun _ => ownK, (fun h => Bool.noConfusion h)⟩⟩
  · obtain ⟨j0, jk, jn, b_a, b_b, b_p, b_q⟩ := hj
    exact ⟨j0, jk, jn, b_a, b_b, ⟨b_p.1, fun h => by obtain ⟨d, cs, e, hb⟩ := b_p.2 h; exact ⟨d, cs, (hv 9 d) ▸ e, hb⟩⟩, ⟨b_q.1, fun h => by obtain ⟨d, cs, e, hb⟩ := b_q.2 h; exact ⟨d, cs, (hv 17 d) ▸ e, hb⟩⟩⟩
  have i_a : w.heap.size < N0 := by have e := hN0.out; (try simp only [World.size_alloc, World.size_setCell, World.size_drew, World.heap_drewN] at e); first | omega | (have h := oa.lt; omega)
  have i_b : w.heap.size + 1 < N0 := by have e := hN0.out; (try simp only [World.size_alloc, World.size_setCell, World.size_drew, World.heap_drewN] at e); first | omega | (have h := ob.lt; omega)
  have i_p : w.heap.size + 1 + 1 < N0 := by have e := hN0.out; (try simp only [World.size_alloc, World.size_setCell, World.size_drew, World.heap_drewN] at e); first | omega | (have h := op.lt; omega)
  have i_q : w.heap.size + 1 + 1 + 1 < N0 := by have e := hN0.out; (try simp only [World.size_alloc, World.size_setCell, World.size_drew, World.heap_drewN] at e); first | omega | (have h := oq.lt; omega)
  have iw : w.heap.size ≤ N0 := by have e := hN0.out; (try simp only [World.size_alloc, World.size_setCell, World.size_drew, World.heap_drewN] at e); first | omega | (have h := B.size; omega)
  clear hN0
  apply Reg.RC_pure (hc := rfl) (hst := rfl) (hw := rfl) (t := 6) (hd := rfl) (ht := Nat.le_of_ble_eq_true rfl)
  · intro D v' W' hc hj hf K hK
    obtain ⟨j0, jk, jn, b_a, b_b, b_p, b_q⟩ := hj
    have c0 : W'.cell? ⟨w.heap.size, 0, none⟩ = some (.bool ga) := b_a.c 0 rfl
    have c1 : W'.cell? ⟨w.heap.size, 1, none⟩ = some (.slice a2 a3 a4) := b_a.c 1 rfl
    have c2 : W'.cell? ⟨w.heap.size, 2, none⟩ = some (.bool false) := b_a.c 2 rfl
    have c3 : W'.cell? ⟨w.heap.size, 3, none⟩ = some (.slice a6 a7 a8) := b_a.c 3 rfl
    go_step
    exact hK.out
  · rfl
  apply Reg.RC_pure (hc := rfl) (hst := rfl) (hw := rfl) (t := 7) (hd := rfl) (ht := Nat.le_of_ble_eq_true rfl)
  · intro D v' W' hc hj hf K hK
    obtain ⟨j0, jk, jn, b_a, b_b, b_p, b_q⟩ := hj
    have c0 : W'.cell? ⟨w.heap.size + 1, 0, none⟩ = some (.bool gb) := b_b.c 0 rfl
    have c1 : W'.cell? ⟨w.heap.size + 1, 1, none⟩ = some (.slice b2 b3 b4) := b_b.c 1 rfl
    have c2 : W'.cell? ⟨w.heap.size + 1, 2, none⟩ = some (.bool false) := b_b.c 2 rfl
    have c3 : W'.cell? ⟨w.heap.size + 1, 3, none⟩ = some (.slice b6 b7 b8) := b_b.c 3 rfl
    go_step
    exact hK.out
  · rfl
  refine Reg.RC_call rfl (by intro t ht; cases ht; exact Nat.le_of_ble_eq_true rfl) rfl (fun D v' W' hc hj hf K hK => ?_) ?_
  · obtain ⟨j0, jk, jn, b_a, b_b, b_p, b_q⟩ := hj
    clear hf
    go_step
    refine (cr1 W' _ _ (Fa.out.keeps jk) (Fb.out.keeps jk)).mono ?_
    rintro e W2 ⟨u, rfl, hu, hs⟩
    obtain ⟨x1_1, x1_2, x1_3, x1_4, rfl⟩ := hu.shape
    exact hK.out _ W2 (Keeps.steps hs) ⟨below_steps j0 (Nat.le_refl _) hs, jk.then_ hs, Nat.le_trans jn hs.size, b_a.steps hs, b_b.steps hs, ⟨fun h => (b_p.1 h).steps hs, fun h => by obtain ⟨d, cs, e, hb⟩ := b_p.2 h; exact ⟨d, cs, e, hb.steps hs⟩⟩, ⟨fun h => (b_q.1 h).steps hs, fun h => by obtain ⟨d, cs, e, hb⟩ := b_q.2 h; exact ⟨d, cs, e, hb.steps hs⟩⟩⟩ hu ⟨_, _, _, _, rfl⟩
  rintro _ ⟨x1_1, x1_2, x1_3, x1_4, rfl⟩
  refine Reg.RC_at (b := ⟨#[_,_,_,_,_,_,_,_,_,_,_,_,_,_,_,_,_,_,_,_,_,_,_,_], _⟩) rfl ?_
  apply Reg.RC_pure (hc := rfl) (hst := rfl) (hw := rfl) (t := 9) (hd := rfl) (ht := Nat.le_of_ble_eq_true rfl)
  · intro D v' W' hc hj hf K hK
    obtain ⟨j0, jk, jn, b_a, b_b, b_p, b_q⟩ := hj
    have c0 : W'.cell? ⟨w.heap.size + 1, 0, none⟩ = some (.bool gb) := b_b.c 0 rfl
    have c1 : W'.cell? ⟨w.heap.size + 1, 1, none⟩ = some (.slice b2 b3 b4) := b_b.c 1 rfl
    have c2 : W'.cell? ⟨w.heap.size + 1, 2, none⟩ = some (.bool false) := b_b.c 2 rfl
    have c3 : W'.cell? ⟨w.heap.size + 1, 3, none⟩ = some (.slice b6 b7 b8) := b_b.c 3 rfl
    go_step
    exact hK.out
  · rfl
  apply Reg.RC_pure (hc := rfl) (hst := rfl) (hw := rfl) (t := 10) (hd := rfl) (ht := Nat.le_of_ble_eq_true rfl)
  · intro D v' W' hc hj hf K hK
    obtain ⟨j0, jk, jn, b_a, b_b, b_p, b_q⟩ := hj
    have c0 : W'.cell? ⟨w.heap.size, 0, none⟩ = some (.bool ga) := b_a.c 0 rfl
    have c1 : W'.cell? ⟨w.heap.size, 1, none⟩ = some (.slice a2 a3 a4) := b_a.c 1 rfl
    have c2 : W'.cell? ⟨w.heap.size, 2, none⟩ = some (.bool false) := b_a.c 2 rfl
    have c3 : W'.cell? ⟨w.heap.size, 3, none⟩ = some (.slice a6 a7 a8) := b_a.c 3 rfl
    go_step
    exact hK.out
  · rfl
  refine Reg.RC_call rfl (by intro t ht; cases ht; exact Nat.le_of_ble_eq_true rfl) rfl (fun D v' W' hc hj hf K hK => ?_) ?_
  · obtain ⟨j0, jk, jn, b_a, b_b, b_p, b_q⟩ := hj
    clear hf
    go_step
    refine (cr2 W' _ _ (Fb.out.keeps jk) (Fa.out.keeps jk)).mono ?_
    rintro e W2 ⟨u, rfl, hu, hs⟩
    obtain ⟨x2_1, x2_2, x2_3, x2_4, rfl⟩ := hu.shape
    exact hK.out _ W2 (Keeps.steps hs) ⟨below_steps j0 (Nat.le_refl _) hs, jk.then_ hs, Nat.le_trans jn hs.size, b_a.steps hs, b_b.steps hs, ⟨fun h => (b_p.1 h).steps hs, fun h => by obtain ⟨d, cs, e, hb⟩ := b_p.2 h; exact ⟨d, cs, e, hb.steps hs⟩⟩, ⟨fun h => (b_q.1 h).steps hs, fun h => by obtain ⟨d, cs, e, hb⟩ := b_q.2 h; exact ⟨d, cs, e, hb.steps hs⟩⟩⟩ hu ⟨_, _, _, _, rfl⟩
  rintro _ ⟨x2_1, x2_2, x2_3, x2_4, rfl⟩
  refine Reg.RC_at (b := ⟨#[_,_,_,_,_,_,_,_,_,_,_,_,_,_,_,_,_,_,_,_,_,_,_,_], _⟩) rfl ?_
  refine Reg.RC_call rfl (by intro t ht; cases ht; exact Nat.le_of_ble_eq_true rfl) rfl (fun D v' W' hc hj hf K hK => ?_) ?_
  · obtain ⟨j0, jk, jn, b_a, b_b, b_p, b_q⟩ := hj
    have g2 : GNu (r.num * s.den) _ W' := (hf (2, some 8) (.head _) rfl).2.2
    have g2 : Num W' _ (r.num * s.den) := g2
    have g5 : GNu (s.num * r.den) _ W' := (hf (5, some 11) (.tail _ (.head _)) rfl).2.2
    have g5 : Num W' _ (s.num * r.den) := g5
    clear hf
    go_step
    refine (ad W' _ _ g2 g5).mono ?_
    rintro e W2 ⟨u, rfl, hu, hs⟩
    obtain ⟨x3_1, x3_2, x3_3, x3_4, rfl⟩ := hu.shape
    exact hK.out _ W2 (Keeps.steps hs) ⟨below_steps j0 (Nat.le_refl _) hs, jk.then_ hs, Nat.le_trans jn hs.size, b_a.steps hs, b_b.steps hs, ⟨fun h => (b_p.1 h).steps hs, fun h => by obtain ⟨d, cs, e, hb⟩ := b_p.2 h; exact ⟨d, cs, e, hb.steps hs⟩⟩, ⟨fun h => (b_q.1 h).steps hs, fun h => by obtain ⟨d, cs, e, hb⟩ := b_q.2 h; exact ⟨d, cs, e, hb.steps hs⟩⟩⟩ ⟨_, rfl, hu⟩ ⟨_, _, _, _, rfl⟩
  rintro _ ⟨x3_1, x3_2, x3_3, x3_4, rfl⟩
  refine Reg.RC_at (b := ⟨#[_,_,_,_,_,_,_,_,_,_,_,_,_,_,_,_,_,_,_,_,_,_,_,_], _⟩) rfl ?_
  apply Reg.RC_pure (hc := rfl) (hst := rfl) (hw := rfl) (t := 13) (hd := rfl) (ht := Nat.le_of_ble_eq_true rfl)
  · intro D v' W' hc hj hf K hK
    go_step
    exact hK.out
  · rfl
  apply Reg.RC_pure (hc := rfl) (hst := rfl) (hw := rfl) (t := 14) (hd := rfl) (ht := Nat.le_of_ble_eq_true rfl)
  · intro D v' W' hc hj hf K hK
    go_step
    exact hK.out
  · rfl
  refine Reg.RC_call rfl (by intro t ht; cases ht; exact Nat.le_of_ble_eq_true rfl) rfl (fun D v' W' hc hj hf K hK => ?_) ?_
  · obtain ⟨j0, jk, jn, b_a, b_b, b_p, b_q⟩ := hj
    have g6 : GNuE (r.num * s.den + s.num * r.den) 0 _ W' := (hf (6, some 12) (.head _) rfl).2.2
    have g6 := g6.get
    clear hf
    go_step
    refine (fmust W' g6).mono ?_
    rintro e W2 ⟨u, rfl, hu, hs⟩
    obtain ⟨N1, N2, N3, N4, rfl⟩ := hu.shape
    exact hK.out _ W2 (Keeps.steps hs) ⟨below_steps j0 (Nat.le_refl _) hs, jk.then_ hs, Nat.le_trans jn hs.size, b_a.steps hs, b_b.steps hs, ⟨fun h => (b_p.1 h).steps hs, fun h => Bool.noConfusion ((hc.2 18 (by decide)).symm.trans h)⟩, ⟨fun h => (b_q.1 h).steps hs, fun h => by obtain ⟨d, cs, e, hb⟩ := b_q.2 h; exact ⟨d, cs, e, hb.steps hs⟩⟩⟩ hu ⟨_, _, _, _, rfl⟩
  rintro _ ⟨N1, N2, N3, N4, rfl⟩
  refine Reg.RC_at (b := ⟨#[_,_,_,_,_,_,_,_,_,_,_,_,_,_,_,_,_,_,_,_,_,_,_,_], _⟩) rfl ?_
  apply Reg.RC_pure (hc := rfl) (hst := rfl) (hw := rfl) (t := 16) (hd := rfl) (ht := Nat.le_of_ble_eq_true rfl)
  · intro D v' W' hc hj hf K hK
    go_step
    exact hK.out
  · rfl
  apply Reg.RC_pure (hc := rfl) (hst := rfl) (hw := rfl) (t := 17) (hd := rfl) (ht := Nat.le_of_ble_eq_true rfl)
  · intro D v' W' hc hj hf K hK
    obtain ⟨j0, jk, jn, b_a, b_b, b_p, b_q⟩ := hj
    have c0 : W'.cell? ⟨w.heap.size, 0, none⟩ = some (.bool ga) := b_a.c 0 rfl
    have c1 : W'.cell? ⟨w.heap.size, 1, none⟩ = some (.slice a2 a3 a4) := b_a.c 1 rfl
    have c2 : W'.cell? ⟨w.heap.size, 2, none⟩ = some (.bool false) := b_a.c 2 rfl
    have c3 : W'.cell? ⟨w.heap.size, 3, none⟩ = some (.slice a6 a7 a8) := b_a.c 3 rfl
    go_step
    exact hK.out
  · rfl
  apply Reg.RC_pure (hc := rfl) (hst := rfl) (hw := rfl) (t := 18) (hd := rfl) (ht := Nat.le_of_ble_eq_true rfl)
  · intro D v' W' hc hj hf K hK
    go_step
    exact hK.out
  · rfl
  apply Reg.RC_pure (hc := rfl) (hst := rfl) (hw := rfl) (t := 19) (hd := rfl) (ht := Nat.le_of_ble_eq_true rfl)
  · intro D v' W' hc hj hf K hK
    obtain ⟨j0, jk, jn, b_a, b_b, b_p, b_q⟩ := hj
    have c0 : W'.cell? ⟨w.heap.size + 1, 0, none⟩ = some (.bool gb) := b_b.c 0 rfl
    have c1 : W'.cell? ⟨w.heap.size + 1, 1, none⟩ = some (.slice b2 b3 b4) := b_b.c 1 rfl
    have c2 : W'.cell? ⟨w.heap.size + 1, 2, none⟩ = some (.bool false) := b_b.c 2 rfl
    have c3 : W'.cell? ⟨w.heap.size + 1, 3, none⟩ = some (.slice b6 b7 b8) := b_b.c 3 rfl
    go_step
    exact hK.out
  · rfl
  refine Reg.RC_call rfl (by intro t ht; cases ht; exact Nat.le_of_ble_eq_true rfl) rfl (fun D v' W' hc hj hf K hK => ?_) ?_
  · obtain ⟨j0, jk, jn, b_a, b_b, b_p, b_q⟩ := hj
    clear hf
    go_step
    refine (m2 W' _ _ (Fda.out.keeps jk) (Fdb.out.keeps jk)).mono ?_
    rintro e W2 ⟨u, rfl, hu, hs⟩
    obtain ⟨x4_1, x4_2, x4_3, x4_4, rfl⟩ := hu.shape
    exact hK.out _ W2 (Keeps.steps hs) ⟨below_steps j0 (Nat.le_refl _) hs, jk.then_ hs, Nat.le_trans jn hs.size, b_a.steps hs, b_b.steps hs, ⟨fun h => (b_p.1 h).steps hs, fun h => by obtain ⟨d, cs, e, hb⟩ := b_p.2 h; exact ⟨d, cs, e, hb.steps hs⟩⟩, ⟨fun h => (b_q.1 h).steps hs, fun h => by obtain ⟨d, cs, e, hb⟩ := b_q.2 h; exact ⟨d, cs, e, hb.steps hs⟩⟩⟩ ⟨_, rfl, hu⟩ ⟨_, _, _, _, rfl⟩
  rintro _ ⟨x4_1, x4_2, x4_3, x4_4, rfl⟩
  refine Reg.RC_at (b := ⟨#[_,_,_,_,_,_,_,_,_,_,_,_,_,_,_,_,_,_,_,_,_,_,_,_], _⟩) rfl ?_
  apply Reg.RC_pure (hc := rfl) (hst := rfl) (hw := rfl) (t := 21) (hd := rfl) (ht := Nat.le_of_ble_eq_true rfl)
  · intro D v' W' hc hj hf K hK
    go_step
    exact hK.out
  · rfl
  apply Reg.RC_pure (hc := rfl) (hst := rfl) (hw := rfl) (t := 22) (hd := rfl) (ht := Nat.le_of_ble_eq_true rfl)
  · intro D v' W' hc hj hf K hK
    go_step
    exact hK.out
  · rfl
  refine Reg.RC_call rfl (by intro t ht; cases ht; exact Nat.le_of_ble_eq_true rfl) rfl (fun D v' W' hc hj hf K hK => ?_) ?_
  · obtain ⟨j0, jk, jn, b_a, b_b, b_p, b_q⟩ := hj
    have g14 : GNuE (r.den * s.den) 0 _ W' := (hf (14, some 20) (.head _) rfl).2.2
    have g14 := g14.get
    clear hf
    go_step
    refine (fmust W' g14).mono ?_
    rintro e W2 ⟨u, rfl, hu, hs⟩
    obtain ⟨D1, D2, D3, D4, rfl⟩ := hu.shape
    exact hK.out _ W2 (Keeps.steps hs) ⟨below_steps j0 (Nat.le_refl _) hs, jk.then_ hs, Nat.le_trans jn hs.size, b_a.steps hs, b_b.steps hs, ⟨fun h => (b_p.1 h).steps hs, fun h => by obtain ⟨d, cs, e, hb⟩ := b_p.2 h; exact ⟨d, cs, e, hb.steps hs⟩⟩, ⟨fun h => (b_q.1 h).steps hs, fun h => Bool.noConfusion ((hc.2 19 (by decide)).symm.trans h)⟩⟩ hu ⟨_, _, _, _, rfl⟩
  rintro _ ⟨D1, D2, D3, D4, rfl⟩
  refine Reg.RC_at (b := ⟨#[_,_,_,_,_,_,_,_,_,_,_,_,_,_,_,_,_,_,_,_,_,_,_,_], _⟩) rfl ?_
  refine Reg.RC_call rfl (by intro t ht; cases ht) rfl (fun D v' W' hc hj hf K hK => ?_) (fun _ _ => Reg.RC_at (b := ⟨_, _⟩) rfl ?_)
  · obtain ⟨j0, jk, jn, b_a, b_b, b_p, b_q⟩ := hj
    have hb := b_p.1 hc.1
    have e2 : w.heap.size ≤ w.heap.size + 1 + 1 := by omega
    have fc := hf (9, some 15) (.head _) rfl
    have ec : v' 9 = .agg #[.bool N1, .slice N2 N3 N4] := fc.2.1
    have ff := hb.fr
    have cc0 : W'.cell? ⟨w.heap.size + 1 + 1, 0, none⟩ = some (.bool false) := hb.c 0 rfl
    have cc1 : W'.cell? ⟨w.heap.size + 1 + 1, 1, none⟩ = some (.slice none 0 0) := hb.c 1 rfl
    go_step
    exact hK.out undef _ (Keeps.only hb rfl ((Only.refl _ _).set.set)) ⟨(Below.setCell (p := ⟨w.heap.size + 1 + 1, 1, none⟩) (Below.setCell (p := ⟨w.heap.size + 1 + 1, 0, none⟩) j0 (by show w.heap.size ≤ w.heap.size + 1 + 1; omega) _) (by show w.heap.size ≤ w.heap.size + 1 + 1; omega) _), jk.trans (Keeps.only hb rfl ((Only.refl _ _).set.set)), by simpa using jn, ((b_a).far' (show w.heap.size ≠ w.heap.size + 1 + 1 by omega)).far' (show w.heap.size ≠ w.heap.size + 1 + 1 by omega), ((b_b).far' (show w.heap.size + 1 ≠ w.heap.size + 1 + 1 by omega)).far' (show w.heap.size + 1 ≠ w.heap.size + 1 + 1 by omega), ⟨fun h => Bool.noConfusion h, fun _ => ⟨fc.1, _, ec, (Blk.set2 (cs' := #[.bool N1, .slice N2 N3 N4]) (Blk.set2 (cs' := #[.bool N1, .slice none 0 0]) hb (i := 0) rfl) (i := 1) rfl)⟩⟩, ⟨fun h => ((b_q.1 h).far' (show w.heap.size + 1 + 1 + 1 ≠ w.heap.size + 1 + 1 by omega)).far' (show w.heap.size + 1 + 1 + 1 ≠ w.heap.size + 1 + 1 by omega), fun h => by obtain ⟨d, cs, e, hb2⟩ := b_q.2 h; exact ⟨d, cs, e, ((hb2).far' (show w.heap.size + 1 + 1 + 1 ≠ w.heap.size + 1 + 1 by omega)).far' (show w.heap.size + 1 + 1 + 1 ≠ w.heap.size + 1 + 1 by omega)⟩⟩⟩ trivial trivial
  refine Reg.RC_call rfl (by intro t ht; cases ht) rfl (fun D v' W' hc hj hf K hK => ?_) (fun _ _ => Reg.RC_at (b := ⟨_, _⟩) rfl ?_)
  · obtain ⟨j0, jk, jn, b_a, b_b, b_p, b_q⟩ := hj
    have hb := b_q.1 hc.1
    have e2 : w.heap.size ≤ w.heap.size + 1 + 1 + 1 := by omega
    have fc := hf (17, some 23) (.head _) rfl
    have ec : v' 17 = .agg #[.bool D1, .slice D2 D3 D4] := fc.2.1
    have ff := hb.fr
    have cc0 : W'.cell? ⟨w.heap.size + 1 + 1 + 1, 0, none⟩ = some (.bool false) := hb.c 0 rfl
    have cc1 : W'.cell? ⟨w.heap.size + 1 + 1 + 1, 1, none⟩ = some (.slice none 0 0) := hb.c 1 rfl
    go_step
    exact hK.out undef _ (Keeps.only hb rfl ((Only.refl _ _).set.set)) ⟨(Below.setCell (p := ⟨w.heap.size + 1 + 1 + 1, 1, none⟩) (Below.setCell (p := ⟨w.heap.size + 1 + 1 + 1, 0, none⟩) j0 (by show w.heap.size ≤ w.heap.size + 1 + 1 + 1; omega) _) (by show w.heap.size ≤ w.heap.size + 1 + 1 + 1; omega) _), jk.trans (Keeps.only hb rfl ((Only.refl _ _).set.set)), by simpa using jn, ((b_a).far' (show w.heap.size ≠ w.heap.size + 1 + 1 + 1 by omega)).far' (show w.heap.size ≠ w.heap.size + 1 + 1 + 1 by omega), ((b_b).far' (show w.heap.size + 1 ≠ w.heap.size + 1 + 1 + 1 by omega)).far' (show w.heap.size + 1 ≠ w.heap.size + 1 + 1 + 1 by omega), ⟨fun h => ((b_p.1 h).far' (show w.heap.size + 1 + 1 ≠ w.heap.size + 1 + 1 + 1 by omega)).far' (show w.heap.size + 1 + 1 ≠ w.heap.size + 1 + 1 + 1 by omega), fun h => by obtain ⟨d, cs, e, hb2⟩ := b_p.2 h; exact ⟨d, cs, e, ((hb2).far' (show w.heap.size + 1 + 1 ≠ w.heap.size + 1 + 1 + 1 by omega)).far' (show w.heap.size + 1 + 1 ≠ w.heap.size + 1 + 1 + 1 by omega)⟩⟩, ⟨fun h => Bool.noConfusion h, fun _ => ⟨fc.1, _, ec, (Blk.set2 (cs' := #[.bool D1, .slice D2 D3 D4]) (Blk.set2 (cs' := #[.bool D1, .slice none 0 0]) hb (i := 0) rfl) (i := 1) rfl)⟩⟩⟩ trivial trivial
  refine Reg.RC_end (fun Dn v' w1 hd hj hf => ?_)
  obtain ⟨j0, jk, jn, b_a, b_b, b_p, b_q⟩ := hj
  have B := j0
  have oa := b_a
  clear b_a
  have ob := b_b
  clear b_b
  obtain ⟨-, cs_, ee, op⟩ := b_p.2 (hd 18 (Nat.le_of_ble_eq_true rfl))
  have ef : v' 9 = .agg #[.bool N1, .slice N2 N3 N4] := (hf (9, some 15) (.tail _ (.tail _ (.tail _ (.head _)))) rfl).2.1
  obtain rfl : #[.bool N1, .slice N2 N3 N4] = cs_ := by have := ef.symm.trans ee; simpa only [Value.tuple.injEq, Value.agg.injEq, Array.mk.injEq, List.cons.injEq, and_true, true_and] using this
  clear b_p ee ef
  obtain ⟨-, cs_, ee, oq⟩ := b_q.2 (hd 19 (Nat.le_of_ble_eq_true rfl))
  have ef : v' 17 = .agg #[.bool D1, .slice D2 D3 D4] := (hf (17, some 23) (.tail _ (.tail _ (.tail _ (.tail _ (.tail _ (.head _)))))) rfl).2.1
  obtain rfl : #[.bool D1, .slice D2 D3 D4] = cs_ := by have := ef.symm.trans ee; simpa only [Value.tuple.injEq, Value.agg.injEq, Array.mk.injEq, List.cons.injEq, and_true, true_and] using this
  clear b_q ee ef
  have FN : Hid (Num w1 (.agg #[.bool N1, .slice N2 N3 N4]) (r.num * s.den + s.num * r.den)) := (hf (9, some 15) (.tail _ (.tail _ (.tail _ (.head _)))) rfl).2.2
  have FD : Hid (Num w1 (.agg #[.bool D1, .slice D2 D3 D4]) (r.den * s.den)) := (hf (17, some 23) (.tail _ (.tail _ (.tail _ (.tail _ (.tail _ (.head _)))))) rfl).2.2
  replace Fa := Hid.mk_ (Fa.out.keeps jk)
  replace Fb := Hid.mk_ (Fb.out.keeps jk)
  replace Fna := Hid.mk_ (Fna.out.keeps jk)
  replace Fda := Hid.mk_ (Fda.out.keeps jk)
  replace Fnb := Hid.mk_ (Fnb.out.keeps jk)
  replace Fdb := Hid.mk_ (Fdb.out.keeps jk)
  clear hd hf jk j0
  refine hQ _ _ ?_
  clear hQ hops Q' ops'
  have la := oa.lt
  have lb := ob.lt
  have cp0 := op.q0
  have cp1 := op.q1
  have lp := op.lt
  have cq0 := oq.q0
  have cq1 := oq.q1
  have lq := oq.lt
  go_wp2_with fail
  refine bodyPost_ret (by simp [results, Try.results44, go_sem, la, lb, cp0, cp1, lp, cq0, cq1, lq]; rfl) rfl ?_
  exact ⟨_, _, rfl, FN.out.keeps keepsB, FD.out.keeps keepsB, belowB⟩
set_option maxHeartbeats 6400000 in
set_option maxRecDepth 1000000 in
theorem fAdd2 {va vb : Value} {r s : Rat} (w : World) (ha : FR w va r) (hb : FR w vb s) (g1 : fits (r.num * s.den)) (g2 : fits (s.num * r.den)) (g3 : fits (r.num * s.den + s.num * r.den)) (g4 : fits (r.den * s.den)) :
    Calls Try.prog 43 #[va, vb, .func (.func 44) #[] #[]] w fun e w' => ∃ v, e = .returned (.tuple #[v, .int .i64 0]) ∧ FR w' v (r + s) ∧ Steps w w' := by
  have cl : ∀ w' u v, FR w' u r → FR w' v s → Calls Try.prog 44 #[u, v] w' fun e w2 => ∃ u v, e = .returned (.tuple #[u, v]) ∧ Num w2 u (r.num * s.den + s.num * r.den) ∧ Num w2 v (r.den * s.den) ∧ Steps w' w2 := fun w' u v h1 h2 => fAdd1 w' h1 h2 g1 g2 g3 g4
  have rd : ∀ w' u v, Num w' u (r.num * s.den + s.num * r.den) → Num w' v (r.den * s.den) → Calls Try.prog 73 #[u, v] w' fun e w2 => ∃ v, e = .returned v ∧ FR w2 v (r + s) ∧ Steps w' w2 := fun w' u v h1 h2 => by
    have := freduce w' h1 h2 g3 g4 (dens_ne r s)
    rw [add_frac] at this
    exact this
  obtain ⟨a1, a2, a3, a4, a5, a6, a7, a8, rfl⟩ := ha.shape
  obtain ⟨b1, b2, b3, b4, b5, b6, b7, b8, rfl⟩ := hb.shape
  have Fa := Hid.mk_ ha
  have Fb := Hid.mk_ hb
  clear ha hb g3 g4 g1 g2
  go_enter_defers Try.func43, Try.ntmps43
  go_wp2_with fail
  refine (fcheck_q _ (Fa.out.keeps keepsB)).mono ?_
  rintro e w1 ⟨rfl, hb1⟩
  have st : Steps _ w1 := hb1
  have B : Below w.heap.size w w1 := belowA st
  have kp : Keeps w w1 := Keeps.then_ keepsB st
  have na : Blk w1 (w.heap.size) 28 #[.bool a1, .slice a2 a3 a4, .bool a5, .slice a6 a7 a8] := Blk.stepsK st
  have nb : Blk w1 (w.heap.size + 1) 28 #[.bool b1, .slice b2 b3 b4, .bool b5, .slice b6 b7 b8] := Blk.stepsK st
  have nr : Blk w1 (w.heap.size + 1 + 1) 28 #[.bool false, .slice none 0 0, .bool false, .slice none 0 0] := Blk.stepsK st
  have ne : Blk w1 (w.heap.size + 1 + 1 + 1) 32 #[.int .i64 0] := Blk.stepsK st
  have oa := na
  clear na
  have ob := nb
  clear nb
  have or := nr
  clear nr
  have oe := ne
  clear ne
  replace Fa := Hid.mk_ (Fa.out.keeps kp)
  replace Fb := Hid.mk_ (Fb.out.keeps kp)
  clear kp
  clear st
  go_wp2_with fail
  refine (fwant0s _).mono ?_
  rintro e w2 ⟨rfl, hb2⟩
  have st : Steps _ w2 := hb2
  have sk : Below w1.heap.size w1 w2 := belowA st
  replace B := below_steps B (Nat.le_refl _) sk
  replace oa := oa.steps sk
  replace ob := ob.steps sk
  replace or := or.steps sk
  replace oe := oe.steps sk
  replace Fa := Hid.mk_ (Fa.out.steps sk)
  replace Fb := Hid.mk_ (Fb.out.steps sk)
  clear st sk
  have la := oa.lt
  have cb0 := ob.q0
  have cb1 := ob.q1
  have cb2 := ob.q2
  have cb3 := ob.q3
  have lb := ob.lt
  have lr := or.lt
  have le := oe.lt
  go_wp2_with fail
  refine (fcheck_q _ (Fb.out.keeps keepsB)).mono ?_
  rintro e w3 ⟨rfl, hb3⟩
  have st : Steps _ w3 := hb3
  have sk : Below w2.heap.size w2 w3 := belowA st
  replace B := below_steps B (Nat.le_refl _) sk
  replace oa := oa.steps sk
  replace ob := ob.steps sk
  replace or := or.steps sk
  replace oe := oe.steps sk
  replace Fa := Hid.mk_ (Fa.out.steps sk)
  replace Fb := Hid.mk_ (Fb.out.steps sk)
  clear st sk la cb0 cb1 cb2 cb3 lb lr le
  go_wp2_with fail
  refine (fwant0s _).mono ?_
  rintro e w4 ⟨rfl, hb4⟩
  have st : Steps _ w4 := hb4
  have sk : Below w3.heap.size w3 w4 := belowA st
  replace B := below_steps B (Nat.le_refl _) sk
  replace oa := oa.steps sk
  replace ob := ob.steps sk
  replace or := or.steps sk
  replace oe := oe.steps sk
  replace Fa := Hid.mk_ (Fa.out.steps sk)
  replace Fb := Hid.mk_ (Fb.out.steps sk)
  clear st sk
  have ca0 := oa.q0
  have ca1 := oa.q1
  have ca2 := oa.q2
  have ca3 := oa.q3
  have la := oa.lt
  have cb0 := ob.q0
  have cb1 := ob.q1
  have cb2 := ob.q2
  have cb3 := ob.q3
  have lb := ob.lt
  have lr := or.lt
  have le := oe.lt
  go_wp2_with fail
  refine (cl _ _ _ (Fa.out.keeps keepsB) (Fb.out.keeps keepsB)).mono ?_
  rintro e w5 ⟨vn, vd, rfl, hvn, hvd, hb5⟩
  have st : Steps _ w5 := hb5
  have sk : Below w4.heap.size w4 w5 := belowA st
  replace B := below_steps B (Nat.le_refl _) sk
  replace oa := oa.steps sk
  replace ob := ob.steps sk
  replace or := or.steps sk
  replace oe := oe.steps sk
  replace Fa := Hid.mk_ (Fa.out.steps sk)
  replace Fb := Hid.mk_ (Fb.out.steps sk)
  clear st sk ca0 ca1 ca2 ca3 la cb0 cb1 cb2 cb3 lb lr le
  obtain ⟨n1, n2, n3, n4, rfl⟩ := hvn.shape
  obtain ⟨d1, d2, d3, d4, rfl⟩ := hvd.shape
  have Fn := Hid.mk_ hvn
  clear hvn
  have Fd := Hid.mk_ hvd
  clear hvd
  go_wp2_with fail
  refine (rd _ _ _ (Fn.out.keeps keepsB) (Fd.out.keeps keepsB)).mono ?_
  rintro e w6 ⟨vq, rfl, hvq, hb6⟩
  have st : Steps _ w6 := hb6
  have sk : Below w5.heap.size w5 w6 := belowA st
  replace B := below_steps B (Nat.le_refl _) sk
  replace oa := oa.steps sk
  replace ob := ob.steps sk
  replace or := or.steps sk
  replace oe := oe.steps sk
  replace Fa := Hid.mk_ (Fa.out.steps sk)
  replace Fb := Hid.mk_ (Fb.out.steps sk)
  replace Fn := Hid.mk_ (Fn.out.steps sk)
  replace Fd := Hid.mk_ (Fd.out.steps sk)
  clear st sk
  have la := oa.lt
  have lb := ob.lt
  have cr0 := or.q0
  have cr1 := or.q1
  have cr2 := or.q2
  have cr3 := or.q3
  have fr := or.fr
  have lr := or.lt
  have ce0 := oe.q0
  have fe := oe.fr
  have le := oe.lt
  obtain ⟨q1, q2, q3, q4, q5, q6, q7, q8, rfl⟩ := hvq.shape
  have Fq := Hid.mk_ hvq
  clear hvq
  go_wp2_with fail
  refine leaves_cons (f := 70) (args := #[.pointer (some ⟨w.heap.size + 1 + 1 + 1, 0, none⟩)]) (by simp) (by simp [go_sem]) ?_
  refine (fcatch_idle _ _).mono ?_
  rintro e u' w'' ⟨rfl, rfl, rfl⟩
  refine ⟨_, by simp [results, Try.results43, go_sem, la, lb, cr0, cr1, cr2, cr3, fr, lr, ce0, fe, le]; rfl, ?_⟩
  exact ⟨_, rfl, Fq.out.keeps keepsB, belowB⟩
set_option maxHeartbeats 6400000 in
set_option maxRecDepth 1000000 in
theorem fAddQ {va vb : Value} {r s : Rat} {i j : Nat} (w : World) (ha : FR w va r) (hb : FR w vb s) (hr : sz r i) (hs : sz s j) (hk : i + j ≤ 4094) :
    Calls Try.prog 25 #[va, vb] w fun e w' => ∃ v, e = .returned (.tuple #[v, .int .i64 0]) ∧ FR w' v (r + s) ∧ Steps w w' := by
  obtain ⟨h1, h2, h3⟩ := sum_size hr hs
  have g1 := fits_bp h1 (by omega)
  have g2 := fits_bp h2 (by omega)
  have g4 := fits_bp h3 (by omega)
  have g3 := fits_bp (absN_add_le h1 h2) (by omega)
  have bo : ∀ w' u v, FR w' u r → FR w' v s → Calls Try.prog 43 #[u, v, .func (.func 44) #[] #[]] w' fun e w2 => ∃ v, e = .returned (.tuple #[v, .int .i64 0]) ∧ FR w2 v (r + s) ∧ Steps w' w2 := fun w' u v h1 h2 => fAdd2 w' h1 h2 g1 g2 g3 g4
  obtain ⟨a1, a2, a3, a4, a5, a6, a7, a8, rfl⟩ := ha.shape
  obtain ⟨b1, b2, b3, b4, b5, b6, b7, b8, rfl⟩ := hb.shape
  have Fa := Hid.mk_ ha
  have Fb := Hid.mk_ hb
  clear ha hb hr hs hk g1 g2 g3 g4
  clear h1 h2 h3
  go_enter Try.func25, Try.ntmps25
  go_wp2_with fail
  refine (bo _ _ _ (Fa.out.keeps keepsB) (Fb.out.keeps keepsB)).mono ?_
  rintro e w1 ⟨vq, rfl, hvq, hb1⟩
  have st : Steps _ w1 := hb1
  have B : Below w.heap.size w w1 := belowA st
  have kp : Keeps w w1 := Keeps.then_ keepsB st
  have na : Blk w1 (w.heap.size) 28 #[.bool a1, .slice a2 a3 a4, .bool a5, .slice a6 a7 a8] := Blk.stepsK st
  have nb : Blk w1 (w.heap.size + 1) 28 #[.bool b1, .slice b2 b3 b4, .bool b5, .slice b6 b7 b8] := Blk.stepsK st
  have nr : Blk w1 (w.heap.size + 1 + 1) 28 #[.bool false, .slice none 0 0, .bool false, .slice none 0 0] := Blk.stepsK st
  have oa := na
  clear na
  have ob := nb
  clear nb
  have or := nr
  clear nr
  replace Fa := Hid.mk_ (Fa.out.keeps kp)
  replace Fb := Hid.mk_ (Fb.out.keeps kp)
  clear kp
  clear st
  have la := oa.lt
  have lb := ob.lt
  have cr0 := or.q0
  have cr1 := or.q1
  have cr2 := or.q2
  have cr3 := or.q3
  have fr := or.fr
  have lr := or.lt
  obtain ⟨q1, q2, q3, q4, q5, q6, q7, q8, rfl⟩ := hvq.shape
  have Fq := Hid.mk_ hvq
  clear hvq
  go_wp2_with fail
  refine bodyPost_ret (by simp [results, Try.results25, go_sem, la, lb, cr0, cr1, cr2, cr3, fr, lr]; rfl) rfl ?_
  exact ⟨_, rfl, Fq.out.keeps keepsB, belowB⟩
set_option maxHeartbeats 6400000 in
set_option maxRecDepth 1000000 in
theorem fSub1 {va vb : Value} {r s : Rat} (w : World) (ha : FR w va r) (hb : FR w vb s) (g1 : fits (r.num * s.den)) (g2 : fits (s.num * r.den)) (g3 : fits (r.num * s.den - s.num * r.den)) (g4 : fits (r.den * s.den)) :
    Calls Try.prog 51 #[va, vb] w fun e w' => ∃ u v, e = .returned (.tuple #[u, v]) ∧ Num w' u (r.num * s.den - s.num * r.den) ∧ Num w' v (r.den * s.den) ∧ Steps w w' := by
  have fa := ha.fit
  have fb := hb.fit
  have m2 : ∀ w' u v, Num w' u (r.den) → Num w' v (s.den) → Calls Try.prog 48 #[u, v] w' fun e w2 => ∃ v, e = .returned (.tuple #[v, .int .i64 0]) ∧ Num w2 v (r.den * s.den) ∧ Steps w' w2 := fun w' u v h1 h2 => by
    have := wMul w' h1 h2 fa.2 fb.2
    rw [errN_fits g4, clipN_fits g4] at this
    exact this
  have cr1 : ∀ w' u v, FR w' u r → FR w' v s → Calls Try.prog 47 #[u, v] w' fun e w2 => ∃ v, e = .returned v ∧ Num w2 v (r.num * s.den) ∧ Steps w' w2 := fun w' u v h1 h2 => fcross w' h1 h2 g1
  have cr2 : ∀ w' u v, FR w' u s → FR w' v r → Calls Try.prog 47 #[u, v] w' fun e w2 => ∃ v, e = .returned v ∧ Num w2 v (s.num * r.den) ∧ Steps w' w2 := fun w' u v h1 h2 => fcross w' h1 h2 g2
  have ad : ∀ w' u v, Num w' u (r.num * s.den) → Num w' v (s.num * r.den) → Calls Try.prog 52 #[u, v] w' fun e w2 => ∃ v, e = .returned (.tuple #[v, .int .i64 0]) ∧ Num w2 v (r.num * s.den - s.num * r.den) ∧ Steps w' w2 := fun w' u v h1 h2 => by
    have := wSub w' h1 h2 g1 g2
    rw [errN_fits g3, clipN_fits g3] at this
    exact this
  have ha0 := ha
  have hb0 := hb
  obtain ⟨a2, a3, a4, a6, a7, a8, rfl, na, da, -⟩ := ha.nums
  obtain ⟨b2, b3, b4, b6, b7, b8, rfl, nb', db, -⟩ := hb.nums
  obtain ⟨ga, hga⟩ : ∃ g, decide (r < 0) = g := ⟨_, rfl⟩
  obtain ⟨gb, hgb⟩ : ∃ g, decide (s < 0) = g := ⟨_, rfl⟩
  rw [hga] at na ha0 ⊢
  rw [hgb] at nb' hb0 ⊢
  have Fa := Hid.mk_ ha0
  have Fb := Hid.mk_ hb0
  have Fna := Hid.mk_ na
  have Fnb := Hid.mk_ nb'
  have Fda := Hid.mk_ da
  have Fdb := Hid.mk_ db
  clear hga hgb na da nb' db ha hb ha0 hb0 fa fb
  clear g3 g4 g1 g2
  go_enter Try.func51, Try.ntmps51
  go_upto_region 1 with fail
  refine Reg.wp_chain_n (fun N0 D v W => Below w.heap.size w W ∧ Keeps w W ∧ N0 ≤ W.heap.size ∧ Blk W (w.heap.size) 28 #[.bool ga, .slice a2 a3 a4, .bool false, .slice a6 a7 a8] ∧ Blk W (w.heap.size + 1) 28 #[.bool gb, .slice b2 b3 b4, .bool false, .slice b6 b7 b8] ∧ ((D 18 = false → Blk W (w.heap.size + 1 + 1) 26 #[.bool false, .slice none 0 0]) ∧ (D 18 = true → D 9 = true ∧ ∃ cs, v 9 = .agg cs ∧ Blk W (w.heap.size + 1 + 1) 26 cs)) ∧ ((D 19 = false → Blk W (w.heap.size + 1 + 1 + 1) 26 #[.bool false, .slice none 0 0]) ∧ (D 19 = true → D 17 = true ∧ ∃ cs, v 17 = .agg cs ∧ Blk W (w.heap.size + 1 + 1 + 1) 26 cs)))
    (Reg.inl [2, 5, 6, 9, 14, 17, 18, 19]) (Reg.gv [(2, IsNu), (5, IsNu), (6, IsNuE 0), (9, IsNu), (14, IsNuE 0), (17, IsNu)]) (gw [(2, GNu (r.num * s.den)), (5, GNu (s.num * r.den)), (6, GNuE (r.num * s.den - s.num * r.den) 0), (9, GNu (r.num * s.den - s.num * r.den)), (14, GNuE (r.den * s.den) 0), (17, GNu (r.den * s.den))]) (fun _ => Keeps) (fun _ _ => False) (Reg.pl [(6, [(2, some 8), (5, some 11)]), (9, [(6, some 12)]), (17, [(14, some 20)]), (18, [(9, some 15)]), (19, [(17, some 23)]), (20, [(2, some 8), (5, some 11), (6, some 12), (9, some 15), (14, some 20), (17, some 23)])]) (Reg.pl [(9, [18]), (17, [19])])
    (by kernel_rfl) (by kernel_rfl) (by kernel_rfl) (Reg.gv_some _ (by intro p hp; simp only [List.mem_cons, List.not_mem_nil, or_false] at hp; rcases hp with rfl | rfl | rfl | rfl | rfl | rfl <;> first | exact ⟨_, rfl⟩ | exact ⟨_, 0, rfl⟩ | exact ⟨_, none, 0, 0, rfl⟩ | exact ⟨_, false, none, 0, 0, rfl⟩ | exact ⟨_, false, none, 0, 0, false, none, 0, 0, rfl⟩)) (fun N0 hN0 => ⟨fun v => ?_, fun D v v' W hv hj => ?_, fun D v k j W W' x _ _ _ _ hk hg => gw_keeps _ (by intro p hp; simp only [List.mem_cons, List.not_mem_nil, or_false] at hp; rcases hp with rfl | rfl | rfl | rfl | rfl | rfl <;> first | exact GFr.keeps | exact GFrE.keeps | exact GNu.keeps | exact GNuE.keeps | exact GLi.keeps) hk hg, fun _ _ _ _ h => h.elim, fun ops' Q' hops hQ => ?_⟩)
  · exact ⟨belowB, keepsB, Nat.le_of_eq hN0.out, ownK, ownK, ⟨fun _ => ownK, (fun h => Bool.noConfusion h)⟩, ⟨fun _ => ownK, (fun h => Bool.noConfusion h)⟩⟩
  · obtain ⟨j0, jk, jn, b_a, b_b, b_p, b_q⟩ := hj
    exact ⟨j0, jk, jn, b_a, b_b, ⟨b_p.1, fun h => by obtain ⟨d, cs, e, hb⟩ := b_p.2 h; exact ⟨d, cs, (hv 9 d) ▸ e, hb⟩⟩, ⟨b_q.1, fun h => by obtain ⟨d, cs, e, hb⟩ := b_q.2 h; exact ⟨d, cs, (hv 17 d) ▸ e, hb⟩⟩⟩
  have i_a : w.heap.size < N0 := by have e := hN0.out; (try simp only [World.size_alloc, World.size_setCell, World.size_drew, World.heap_drewN] at e); first | omega | (have h := oa.lt; omega)
  have i_b : w.heap.size + 1 < N0 := by have e := hN0.out; (try simp only [World.size_alloc, World.size_setCell, World.size_drew, World.heap_drewN] at e); first | omega | (have h := ob.lt; omega)
  have i_p : w.heap.size + 1 + 1 < N0 := by have e := hN0.out; (try simp only [World.size_alloc, World.size_setCell, World.size_drew, World.heap_drewN] at e); first | omega | (have h := op.lt; omega)
  have i_q : w.heap.size + 1 + 1 + 1 < N0 := by have e := hN0.out; (try simp only [World.size_alloc, World.size_setCell, World.size_drew, World.heap_drewN] at e); first | omega | (have h := oq.lt; omega)
  have iw : w.heap.size ≤ N0 := by have e := hN0.out; (try simp only [World.size_alloc, World.size_setCell, World.size_drew, World.heap_drewN] at e); first | omega | (have h := B.size; omega)
  clear hN0
  apply Reg.RC_pure (hc := rfl) (hst := rfl) (hw := rfl) (t := 6) (hd := rfl) (ht := Nat.le_of_ble_eq_true rfl)
  · intro D v' W' hc hj hf K hK
    obtain ⟨j0, jk, jn, b_a, b_b, b_p, b_q⟩ := hj
    have c0 : W'.cell? ⟨w.heap.size, 0, none⟩ = some (.bool ga) := b_a.c 0 rfl
    have c1 : W'.cell? ⟨w.heap.size, 1, none⟩ = some (.slice a2 a3 a4) := b_a.c 1 rfl
    have c2 : W'.cell? ⟨w.heap.size, 2, none⟩ = some (.bool false) := b_a.c 2 rfl
    have c3 : W'.cell? ⟨w.heap.size, 3, none⟩ = some (.slice a6 a7 a8) := b_a.c 3 rfl
    go_step
    exact hK.out
  · rfl
  apply Reg.RC_pure (hc := rfl) (hst := rfl) (hw := rfl) (t := 7) (hd := rfl) (ht := Nat.le_of_ble_eq_true rfl)
  · intro D v' W' hc hj hf K hK
    obtain ⟨j0, jk, jn, b_a, b_b, b_p, b_q⟩ := hj
    have c0 : W'.cell? ⟨w.heap.size + 1, 0, none⟩ = some (.bool gb) := b_b.c 0 rfl
    have c1 : W'.cell? ⟨w.heap.size + 1, 1, none⟩ = some (.slice b2 b3 b4) := b_b.c 1 rfl
    have c2 : W'.cell? ⟨w.heap.size + 1, 2, none⟩ = some (.bool false) := b_b.c 2 rfl
    have c3 : W'.cell? ⟨w.heap.size + 1, 3, none⟩ = some (.slice b6 b7 b8) := b_b.c 3 rfl
    go_step
    exact hK.out
  · rfl
  refine Reg.RC_call rfl (by intro t ht; cases ht; exact Nat.le_of_ble_eq_true rfl) rfl (fun D v' W' hc hj hf K hK => ?_) ?_
  · obtain ⟨j0, jk, jn, b_a, b_b, b_p, b_q⟩ := hj
    clear hf
    go_step
    refine (cr1 W' _ _ (Fa.out.keeps jk) (Fb.out.keeps jk)).mono ?_
    rintro e W2 ⟨u, rfl, hu, hs⟩
    obtain ⟨x1_1, x1_2, x1_3, x1_4, rfl⟩ := hu.shape
    exact hK.out _ W2 (Keeps.steps hs) ⟨below_steps j0 (Nat.le_refl _) hs, jk.then_ hs, Nat.le_trans jn hs.size, b_a.steps hs, b_b.steps hs, ⟨fun h => (b_p.1 h).steps hs, fun h => by obtain ⟨d, cs, e, hb⟩ := b_p.2 h; exact ⟨d, cs, e, hb.steps hs⟩⟩, ⟨fun h => (b_q.1 h).steps hs, fun h => by obtain ⟨d, cs, e, hb⟩ := b_q.2 h; exact ⟨d, cs, e, hb.steps hs⟩⟩⟩ hu ⟨_, _, _, _, rfl⟩
  rintro _ ⟨x1_1, x1_2, x1_3, x1_4, rfl⟩
  refine Reg.RC_at (b := ⟨#[_,_,_,_,_,_,_,_,_,_,_,_,_,_,_,_,_,_,_,_,_,_,_,_], _⟩) rfl ?_
  apply Reg.RC_pure (hc := rfl) (hst := rfl) (hw := rfl) (t := 9) (hd := rfl) (ht := Nat.le_of_ble_eq_true rfl)
  · intro D v' W' hc hj hf K hK
    obtain ⟨j0, jk, jn, b_a, b_b, b_p, b_q⟩ := hj
    have c0 : W'.cell? ⟨w.heap.size + 1, 0, none⟩ = some (.bool gb) := b_b.c 0 rfl
    have c1 : W'.cell? ⟨w.heap.size + 1, 1, none⟩ = some (.slice b2 b3 b4) := b_b.c 1 rfl
    have c2 : W'.cell? ⟨w.heap.size + 1, 2, none⟩ = some (.bool false) := b_b.c 2 rfl
    have c3 : W'.cell? ⟨w.heap.size + 1, 3, none⟩ = some (.slice b6 b7 b8) := b_b.c 3 rfl
    go_step
    exact hK.out
  · rfl
  apply Reg.RC_pure (hc := rfl) (hst := rfl) (hw := rfl) (t := 10) (hd := rfl) (ht := Nat.le_of_ble_eq_true rfl)
  · intro D v' W' hc hj hf K hK
    obtain ⟨j0, jk, jn, b_a, b_b, b_p, b_q⟩ := hj
    have c0 : W'.cell? ⟨w.heap.size, 0, none⟩ = some (.bool ga) := b_a.c 0 rfl
    have c1 : W'.cell? ⟨w.heap.size, 1, none⟩ = some (.slice a2 a3 a4) := b_a.c 1 rfl
    have c2 : W'.cell? ⟨w.heap.size, 2, none⟩ = some (.bool false) := b_a.c 2 rfl
    have c3 : W'.cell? ⟨w.heap.size, 3, none⟩ = some (.slice a6 a7 a8) := b_a.c 3 rfl
    go_step
    exact hK.out
  · rfl
  refine Reg.RC_call rfl (by intro t ht; cases ht; exact Nat.le_of_ble_eq_true rfl) rfl (fun D v' W' hc hj hf K hK => ?_) ?_
  · obtain ⟨j0, jk, jn, b_a, b_b, b_p, b_q⟩ := hj
    clear hf
    go_step
    refine (cr2 W' _ _ (Fb.out.keeps jk) (Fa.out.keeps jk)).mono ?_
    rintro e W2 ⟨u, rfl, hu, hs⟩
    obtain ⟨x2_1, x2_2, x2_3, x2_4, rfl⟩ := hu.shape
    exact hK.out _ W2 (Keeps.steps hs) ⟨below_steps j0 (Nat.le_refl _) hs, jk.then_ hs, Nat.le_trans jn hs.size, b_a.steps hs, b_b.steps hs, ⟨fun h => (b_p.1 h).steps hs, fun h => by obtain ⟨d, cs, e, hb⟩ := b_p.2 h; exact ⟨d, cs, e, hb.steps hs⟩⟩, ⟨fun h => (b_q.1 h).steps hs, fun h => by obtain ⟨d, cs, e, hb⟩ := b_q.2 h; exact ⟨d, cs, e, hb.steps hs⟩⟩⟩ hu ⟨_, _, _, _, rfl⟩
  rintro _ ⟨x2_1, x2_2, x2_3, x2_4, rfl⟩
  refine Reg.RC_at (b := ⟨#[_,_,_,_,_,_,_,_,_,_,_,_,_,_,_,_,_,_,_,_,_,_,_,_], _⟩) rfl ?_
  refine Reg.RC_call rfl (by intro t ht; cases ht; exact Nat.le_of_ble_eq_true rfl) rfl (fun D v' W' hc hj hf K hK => ?_) ?_
  · obtain ⟨j0, jk, jn, b_a, b_b, b_p, b_q⟩ := hj
    have g2 : GNu (r.num * s.den) _ W' := (hf (2, some 8) (.head _) rfl).2.2
    have g2 : Num W' _ (r.num * s.den) := g2
    have g5 : GNu (s.num * r.den) _ W' := (hf (5, some 11) (.tail _ (.head _)) rfl).2.2
    have g5 : Num W' _ (s.num * r.den) := g5
    clear hf
    go_step
    refine (ad W' _ _ g2 g5).mono ?_
    rintro e W2 ⟨u, rfl, hu, hs⟩
    obtain ⟨x3_1, x3_2, x3_3, x3_4, rfl⟩ := hu.shape
    exact hK.out _ W2 (Keeps.steps hs) ⟨below_steps j0 (Nat.le_refl _) hs, jk.then_ hs, Nat.le_trans jn hs.size, b_a.steps hs, b_b.steps hs, ⟨fun h => (b_p.1 h).steps hs, fun h => by obtain ⟨d, cs, e, hb⟩ := b_p.2 h; exact ⟨d, cs, e, hb.steps hs⟩⟩, ⟨fun h => (b_q.1 h).steps hs, fun h => by obtain ⟨d, cs, e, hb⟩ := b_q.2 h; exact ⟨d, cs, e, hb.steps hs⟩⟩⟩ ⟨_, rfl, hu⟩ ⟨_, _, _, _, rfl⟩
  rintro _ ⟨x3_1, x3_2, x3_3, x3_4, rfl⟩
  refine Reg.RC_at (b := ⟨#[_,_,_,_,_,_,_,_,_,_,_,_,_,_,_,_,_,_,_,_,_,_,_,_], _⟩) rfl ?_
  apply Reg.RC_pure (hc := rfl) (hst := rfl) (hw := rfl) (t := 13) (hd := rfl) (ht := Nat.le_of_ble_eq_true rfl)
  · intro D v' W' hc hj hf K hK
    go_step
    exact hK.out
  · rfl
  apply Reg.RC_pure (hc := rfl) (hst := rfl) (hw := rfl) (t := 14) (hd := rfl) (ht := Nat.le_of_ble_eq_true rfl)
  · intro D v' W' hc hj hf K hK
    go_step
    exact hK.out
  · rfl
  refine Reg.RC_call rfl (by intro t ht; cases ht; exact Nat.le_of_ble_eq_true rfl) rfl (fun D v' W' hc hj hf K hK => ?_) ?_
  · obtain ⟨j0, jk, jn, b_a, b_b, b_p, b_q⟩ := hj
    have g6 : GNuE (r.num * s.den - s.num * r.den) 0 _ W' := (hf (6, some 12) (.head _) rfl).2.2
    have g6 := g6.get
    clear hf
    go_step
    refine (fmust W' g6).mono ?_
    rintro e W2 ⟨u, rfl, hu, hs⟩
    obtain ⟨N1, N2, N3, N4, rfl⟩ := hu.shape
    exact hK.out _ W2 (Keeps.steps hs) ⟨below_steps j0 (Nat.le_refl _) hs, jk.then_ hs, Nat.le_trans jn hs.size, b_a.steps hs, b_b.steps hs, ⟨fun h => (b_p.1 h).steps hs, fun h => Bool.noConfusion ((hc.2 18 (by decide)).symm.trans h)⟩, ⟨fun h => (b_q.1 h).steps hs, fun h => by obtain ⟨d, cs, e, hb⟩ := b_q.2 h; exact ⟨d, cs, e, hb.steps hs⟩⟩⟩ hu ⟨_, _, _, _, rfl⟩
  rintro _ ⟨N1, N2, N3, N4, rfl⟩
  refine Reg.RC_at (b := ⟨#[_,_,_,_,_,_,_,_,_,_,_,_,_,_,_,_,_,_,_,_,_,_,_,_], _⟩) rfl ?_
  apply Reg.RC_pure (hc := rfl) (hst := rfl) (hw := rfl) (t := 16) (hd := rfl) (ht := Nat.le_of_ble_eq_true rfl)
  · intro D v' W' hc hj hf K hK
    go_step
    exact hK.out
  · rfl
  apply Reg.RC_pure (hc := rfl) (hst := rfl) (hw := rfl) (t := 17) (hd := rfl) (ht := Nat.le_of_ble_eq_true rfl)
  · intro D v' W' hc hj hf K hK
    obtain ⟨j0, jk, jn, b_a, b_b, b_p, b_q⟩ := hj
    have c0 : W'.cell? ⟨w.heap.size, 0, none⟩ = some (.bool ga) := b_a.c 0 rfl
    have c1 : W'.cell? ⟨w.heap.size, 1, none⟩ = some (.slice a2 a3 a4) := b_a.c 1 rfl
    have c2 : W'.cell? ⟨w.heap.size, 2, none⟩ = some (.bool false) := b_a.c 2 rfl
    have c3 : W'.cell? ⟨w.heap.size, 3, none⟩ = some (.slice a6 a7 a8) := b_a.c 3 rfl
    go_step
    exact hK.out
  · rfl
  apply Reg.RC_pure (hc := rfl) (hst := rfl) (hw := rfl) (t := 18) (hd := rfl) (ht := Nat.le_of_ble_eq_true rfl)
  · intro D v' W' hc hj hf K hK
    go_step
    exact hK.out
  · rfl
  apply Reg.RC_pure (hc := rfl) (hst := rfl) (hw := rfl) (t := 19) (hd := rfl) (ht := Nat.le_of_ble_eq_true rfl)
  · intro D v' W' hc hj hf K hK
    obtain ⟨j0, jk, jn, b_a, b_b, b_p, b_q⟩ := hj
    have c0 : W'.cell? ⟨w.heap.size + 1, 0, none⟩ = some (.bool gb) := b_b.c 0 rfl
    have c1 : W'.cell? ⟨w.heap.size + 1, 1, none⟩ = some (.slice b2 b3 b4) := b_b.c 1 rfl
    have c2 : W'.cell? ⟨w.heap.size + 1, 2, none⟩ = some (.bool false) := b_b.c 2 rfl
    have c3 : W'.cell? ⟨w.heap.size + 1, 3, none⟩ = some (.slice b6 b7 b8) := b_b.c 3 rfl
    go_step
    exact hK.out
  · rfl
  refine Reg.RC_call rfl (by intro t ht; cases ht; exact Nat.le_of_ble_eq_true rfl) rfl (fun D v' W' hc hj hf K hK => ?_) ?_
  · obtain ⟨j0, jk, jn, b_a, b_b, b_p, b_q⟩ := hj
    clear hf
    go_step
    refine (m2 W' _ _ (Fda.out.keeps jk) (Fdb.out.keeps jk)).mono ?_
    rintro e W2 ⟨u, rfl, hu, hs⟩
    obtain ⟨x4_1, x4_2, x4_3, x4_4, rfl⟩ := hu.shape
    exact hK.out _ W2 (Keeps.steps hs) ⟨below_steps j0 (Nat.le_refl _) hs, jk.then_ hs, Nat.le_trans jn hs.size, b_a.steps hs, b_b.steps hs, ⟨fun h => (b_p.1 h).steps hs, fun h => by obtain ⟨d, cs, e, hb⟩ := b_p.2 h; exact ⟨d, cs, e, hb.steps hs⟩⟩, ⟨fun h => (b_q.1 h).steps hs, fun h => by obtain ⟨d, cs, e, hb⟩ := b_q.2 h; exact ⟨d, cs, e, hb.steps hs⟩⟩⟩ ⟨_, rfl, hu⟩ ⟨_, _, _, _, rfl⟩
  rintro _ ⟨x4_1, x4_2, x4_3, x4_4, rfl⟩
  refine Reg.RC_at (b := ⟨#[_,_,_,_,_,_,_,_,_,_,_,_,_,_,_,_,_,_,_,_,_,_,_,_], _⟩) rfl ?_
  apply Reg.RC_pure (hc := rfl) (hst := rfl) (hw := rfl) (t := 21) (hd := rfl) (ht := Nat.le_of_ble_eq_true rfl)
  · intro D v' W' hc hj hf K hK
    go_step
    exact hK.out
  · rfl
  apply Reg.RC_pure (hc := rfl) (hst := rfl) (hw := rfl) (t := 22) (hd := rfl) (ht := Nat.le_of_ble_eq_true rfl)
  · intro D v' W' hc hj hf K hK
    go_step
    exact hK.out
  · rfl
  refine Reg.RC_call rfl (by intro t ht; cases ht; exact Nat.le_of_ble_eq_true rfl) rfl (fun D v' W' hc hj hf K hK => ?_) ?_
  · obtain ⟨j0, jk, jn, b_a, b_b, b_p, b_q⟩ := hj
    have g14 : GNuE (r.den * s.den) 0 _ W' := (hf (14, some 20) (.head _) rfl).2.2
    have g14 := g14.get
    clear hf
    go_step
    refine (fmust W' g14).mono ?_
    rintro e W2 ⟨u, rfl, hu, hs⟩
    obtain ⟨D1, D2, D3, D4, rfl⟩ := hu.shape
    exact hK.out _ W2 (Keeps.steps hs) ⟨below_steps j0 (Nat.le_refl _) hs, jk.then_ hs, Nat.le_trans jn hs.size, b_a.steps hs, b_b.steps hs, ⟨fun h => (b_p.1 h).steps hs, fun h => by obtain ⟨d, cs, e, hb⟩ := b_p.2 h; exact ⟨d, cs, e, hb.steps hs⟩⟩, ⟨fun h => (b_q.1 h).steps hs, fun h => Bool.noConfusion ((hc.2 19 (by decide)).symm.trans h)⟩⟩ hu ⟨_, _, _, _, rfl⟩
  rintro _ ⟨D1, D2, D3, D4, rfl⟩
  refine Reg.RC_at (b := ⟨#[_,_,_,_,_,_,_,_,_,_,_,_,_,_,_,_,_,_,_,_,_,_,_,_], _⟩) rfl ?_
  refine Reg.RC_call rfl (by intro t ht; cases ht) rfl (fun D v' W' hc hj hf K hK => ?_) (fun _ _ => Reg.RC_at (b := ⟨_, _⟩) rfl ?_)
  · obtain ⟨j0, jk, jn, b_a, b_b, b_p, b_q⟩ := hj
    have hb := b_p.1 hc.1
    have e2 : w.heap.size ≤ w.heap.size + 1 + 1 := by omega
    have fc := hf (9, some 15) (.head _) rfl
    have ec : v' 9 = .agg #[.bool N1, .slice N2 N3 N4] := fc.2.1
    have ff := hb.fr
    have cc0 : W'.cell? ⟨w.heap.size + 1 + 1, 0, none⟩ = some (.bool false) := hb.c 0 rfl
    have cc1 : W'.cell? ⟨w.heap.size + 1 + 1, 1, none⟩ = some (.slice none 0 0) := hb.c 1 rfl
    go_step
    exact hK.out undef _ (Keeps.only hb rfl ((Only.refl _ _).set.set)) ⟨(Below.setCell (p := ⟨w.heap.size + 1 + 1, 1, none⟩) (Below.setCell (p := ⟨w.heap.size + 1 + 1, 0, none⟩) j0 (by show w.heap.size ≤ w.heap.size + 1 + 1; omega) _) (by show w.heap.size ≤ w.heap.size + 1 + 1; omega) _), jk.trans (Keeps.only hb rfl ((Only.refl _ _).set.set)), by simpa using jn, ((b_a).far' (show w.heap.size ≠ w.heap.size + 1 + 1 by omega)).far' (show w.heap.size ≠ w.heap.size + 1 + 1 by omega), ((b_b).far' (show w.heap.size + 1 ≠ w.heap.size + 1 + 1 by omega)).far' (show w.heap.size + 1 ≠ w.heap.size + 1 + 1 by omega), ⟨fun h => Bool.noConfusion h, fun _ => ⟨fc.1, _, ec, (Blk.set2 (cs' := #[.bool N1, .slice N2 N3 N4]) (Blk.set2 (cs' := #[.bool N1, .slice none 0 0]) hb (i := 0) rfl) (i := 1) rfl)⟩⟩, ⟨fun h => ((b_q.1 h).far' (show w.heap.size + 1 + 1 + 1 ≠ w.heap.size + 1 + 1 by omega)).far' (show w.heap.size + 1 + 1 + 1 ≠ w.heap.size + 1 + 1 by omega), fun h => by obtain ⟨d, cs, e, hb2⟩ := b_q.2 h; exact ⟨d, cs, e, ((hb2).far' (show w.heap.size + 1 + 1 + 1 ≠ w.heap.size + 1 + 1 by omega)).far' (show w.heap.size + 1 + 1 + 1 ≠ w.heap.size + 1 + 1 by omega)⟩⟩⟩ trivial trivial
  refine Reg.RC_call rfl (by intro t ht; cases ht) rfl (fun D v' W' hc hj hf K hK => ?_) (fun _ _ => Reg.RC_at (b := ⟨_, _⟩) rfl ?_)
  · obtain ⟨j0, jk, jn, b_a, b_b, b_p, b_q⟩ := hj
    have hb := b_q.1 hc.1
    have e2 : w.heap.size ≤ w.heap.size + 1 + 1 + 1 := by omega
    have fc := hf (17, some 23) (.head _) rfl
    have ec : v' 17 = .agg #[.bool D1, .slice D2 D3 D4] := fc.2.1
    have ff := hb.fr
    have cc0 : W'.cell? ⟨w.heap.size + 1 + 1 + 1, 0, none⟩ = some (.bool false) := hb.c 0 rfl
    have cc1 : W'.cell? ⟨w.heap.size + 1 + 1 + 1, 1, none⟩ = some (.slice none 0 0) := hb.c 1 rfl
    go_step
    exact hK.out undef _ (Keeps.only hb rfl ((Only.refl _ _).set.set)) ⟨(Below.setCell (p := ⟨w.heap.size + 1 + 1 + 1, 1, none⟩) (Below.setCell (p := ⟨w.heap.size + 1 + 1 + 1, 0, none⟩) j0 (by show w.heap.size ≤ w.heap.size + 1 + 1 + 1; omega) _) (by show w.heap.size ≤ w.heap.size + 1 + 1 + 1; omega) _), jk.trans (Keeps.only hb rfl ((Only.refl _ _).set.set)), by simpa using jn, ((b_a).far' (show w.heap.size ≠ w.heap.size + 1 + 1 + 1 by omega)).far' (show w.heap.size ≠ w.heap.size + 1 + 1 + 1 by omega), ((b_b).far' (show w.heap.size + 1 ≠ w.heap.size + 1 + 1 + 1 by omega)).far' (show w.heap.size + 1 ≠ w.heap.size + 1 + 1 + 1 by omega), ⟨fun h => ((b_p.1 h).far' (show w.heap.size + 1 + 1 ≠ w.heap.size + 1 + 1 + 1 by omega)).far' (show w.heap.size + 1 + 1 ≠ w.heap.size + 1 + 1 + 1 by omega), fun h => by obtain ⟨d, cs, e, hb2⟩ := b_p.2 h; exact ⟨d, cs, e, ((hb2).far' (show w.heap.size + 1 + 1 ≠ w.heap.size + 1 + 1 + 1 by omega)).far' (show w.heap.size + 1 + 1 ≠ w.heap.size + 1 + 1 + 1 by omega)⟩⟩, ⟨fun h => Bool.noConfusion h, fun _ => ⟨fc.1, _, ec, (Blk.set2 (cs' := #[.bool D1, .slice D2 D3 D4]) (Blk.set2 (cs' := #[.bool D1, .slice none 0 0]) hb (i := 0) rfl) (i := 1) rfl)⟩⟩⟩ trivial trivial
  refine Reg.RC_end (fun Dn v' w1 hd hj hf => ?_)
  obtain ⟨j0, jk, jn, b_a, b_b, b_p, b_q⟩ := hj
  have B := j0
  have oa := b_a
  clear b_a
  have ob := b_b
  clear b_b
  obtain ⟨-, cs_, ee, op⟩ := b_p.2 (hd 18 (Nat.le_of_ble_eq_true rfl))
  have ef : v' 9 = .agg #[.bool N1, .slice N2 N3 N4] := (hf (9, some 15) (.tail _ (.tail _ (.tail _ (.head _)))) rfl).2.1
  obtain rfl : #[.bool N1, .slice N2 N3 N4] = cs_ := by have := ef.symm.trans ee; simpa only [Value.tuple.injEq, Value.agg.injEq, Array.mk.injEq, List.cons.injEq, and_true, true_and] using this
  clear b_p ee ef
  obtain ⟨-, cs_, ee, oq⟩ := b_q.2 (hd 19 (Nat.le_of_ble_eq_true rfl))
  have ef : v' 17 = .agg #[.bool D1, .slice D2 D3 D4] := (hf (17, some 23) (.tail _ (.tail _ (.tail _ (.tail _ (.tail _ (.head _)))))) rfl).2.1
  obtain rfl : #[.bool D1, .slice D2 D3 D4] = cs_ := by have := ef.symm.trans ee; simpa only [Value.tuple.injEq, Value.agg.injEq, Array.mk.injEq, List.cons.injEq, and_true, true_and] using this
  clear b_q ee ef
  have FN : Hid (Num w1 (.agg #[.bool N1, .slice N2 N3 N4]) (r.num * s.den - s.num * r.den)) := (hf (9, some 15) (.tail _ (.tail _ (.tail _ (.head _)))) rfl).2.2
  have FD : Hid (Num w1 (.agg #[.bool D1, .slice D2 D3 D4]) (r.den * s.den)) := (hf (17, some 23) (.tail _ (.tail _ (.tail _ (.tail _ (.tail _ (.head _)))))) rfl).2.2
  replace Fa := Hid.mk_ (Fa.out.keeps jk)
  replace Fb := Hid.mk_ (Fb.out.keeps jk)
  replace Fna := Hid.mk_ (Fna.out.keeps jk)
  replace Fda := Hid.mk_ (Fda.out.keeps jk)
  replace Fnb := Hid.mk_ (Fnb.out.keeps jk)
  replace Fdb := Hid.mk_ (Fdb.out.keeps jk)
  clear hd hf jk j0
  refine hQ _ _ ?_
  clear hQ hops Q' ops'
  have la := oa.lt
  have lb := ob.lt
  have cp0 := op.q0
  have cp1 := op.q1
  have lp := op.lt
  have cq0 := oq.q0
  have cq1 := oq.q1
  have lq := oq.lt
  go_wp2_with fail
  refine bodyPost_ret (by simp [results, Try.results51, go_sem, la, lb, cp0, cp1, lp, cq0, cq1, lq]; rfl) rfl ?_
  exact ⟨_, _, rfl, FN.out.keeps keepsB, FD.out.keeps keepsB, belowB⟩
set_option maxHeartbeats 6400000 in
set_option maxRecDepth 1000000 in
theorem fSub2 {va vb : Value} {r s : Rat} (w : World) (ha : FR w va r) (hb : FR w vb s) (g1 : fits (r.num * s.den)) (g2 : fits (s.num * r.den)) (g3 : fits (r.num * s.den - s.num * r.den)) (g4 : fits (r.den * s.den)) :
    Calls Try.prog 43 #[va, vb, .func (.func 51) #[] #[]] w fun e w' => ∃ v, e = .returned (.tuple #[v, .int .i64 0]) ∧ FR w' v (r - s) ∧ Steps w w' := by
  have cl : ∀ w' u v, FR w' u r → FR w' v s → Calls Try.prog 51 #[u, v] w' fun e w2 => ∃ u v, e = .returned (.tuple #[u, v]) ∧ Num w2 u (r.num * s.den - s.num * r.den) ∧ Num w2 v (r.den * s.den) ∧ Steps w' w2 := fun w' u v h1 h2 => fSub1 w' h1 h2 g1 g2 g3 g4
  have rd : ∀ w' u v, Num w' u (r.num * s.den - s.num * r.den) → Num w' v (r.den * s.den) → Calls Try.prog 73 #[u, v] w' fun e w2 => ∃ v, e = .returned v ∧ FR w2 v (r - s) ∧ Steps w' w2 := fun w' u v h1 h2 => by
    have := freduce w' h1 h2 g3 g4 (dens_ne r s)
    rw [sub_frac] at this
    exact this
  obtain ⟨a1, a2, a3, a4, a5, a6, a7, a8, rfl⟩ := ha.shape
  obtain ⟨b1, b2, b3, b4, b5, b6, b7, b8, rfl⟩ := hb.shape
  have Fa := Hid.mk_ ha
  have Fb := Hid.mk_ hb
  clear ha hb g3 g4 g1 g2
  go_enter_defers Try.func43, Try.ntmps43
  go_wp2_with fail
  refine (fcheck_q _ (Fa.out.keeps keepsB)).mono ?_
  rintro e w1 ⟨rfl, hb1⟩
  have st : Steps _ w1 := hb1
  have B : Below w.heap.size w w1 := belowA st
  have kp : Keeps w w1 := Keeps.then_ keepsB st
  have na : Blk w1 (w.heap.size) 28 #[.bool a1, .slice a2 a3 a4, .bool a5, .slice a6 a7 a8] := Blk.stepsK st
  have nb : Blk w1 (w.heap.size + 1) 28 #[.bool b1, .slice b2 b3 b4, .bool b5, .slice b6 b7 b8] := Blk.stepsK st
  have nr : Blk w1 (w.heap.size + 1 + 1) 28 #[.bool false, .slice none 0 0, .bool false, .slice none 0 0] := Blk.stepsK st
  have ne : Blk w1 (w.heap.size + 1 + 1 + 1) 32 #[.int .i64 0] := Blk.stepsK st
  have oa := na
  clear na
  have ob := nb
  clear nb
  have or := nr
  clear nr
  have oe := ne
  clear ne
  replace Fa := Hid.mk_ (Fa.out.keeps kp)
  replace Fb := Hid.mk_ (Fb.out.keeps kp)
  clear kp
  clear st
  go_wp2_with fail
  refine (fwant0s _).mono ?_
  rintro e w2 ⟨rfl, hb2⟩
  have st : Steps _ w2 := hb2
  have sk : Below w1.heap.size w1 w2 := belowA st
  replace B := below_steps B (Nat.le_refl _) sk
  replace oa := oa.steps sk
  replace ob := ob.steps sk
  replace or := or.steps sk
  replace oe := oe.steps sk
  replace Fa := Hid.mk_ (Fa.out.steps sk)
  replace Fb := Hid.mk_ (Fb.out.steps sk)
  clear st sk
  have la := oa.lt
  have cb0 := ob.q0
  have cb1 := ob.q1
  have cb2 := ob.q2
  have cb3 := ob.q3
  have lb := ob.lt
  have lr := or.lt
  have le := oe.lt
  go_wp2_with fail
  refine (fcheck_q _ (Fb.out.keeps keepsB)).mono ?_
  rintro e w3 ⟨rfl, hb3⟩
  have st : Steps _ w3 := hb3
  have sk : Below w2.heap.size w2 w3 := belowA st
  replace B := below_steps B (Nat.le_refl _) sk
  replace oa := oa.steps sk
  replace ob := ob.steps sk
  replace or := or.steps sk
  replace oe := oe.steps sk
  replace Fa := Hid.mk_ (Fa.out.steps sk)
  replace Fb := Hid.mk_ (Fb.out.steps sk)
  clear st sk la cb0 cb1 cb2 cb3 lb lr le
  go_wp2_with fail
  refine (fwant0s _).mono ?_
  rintro e w4 ⟨rfl, hb4⟩
  have st : Steps _ w4 := hb4
  have sk : Below w3.heap.size w3 w4 := belowA st
  replace B := below_steps B (Nat.le_refl _) sk
  replace oa := oa.steps sk
  replace ob := ob.steps sk
  replace or := or.steps sk
  replace oe := oe.steps sk
  replace Fa := Hid.mk_ (Fa.out.steps sk)
  replace Fb := Hid.mk_ (Fb.out.steps sk)
  clear st sk
  have ca0 := oa.q0
  have ca1 := oa.q1
  have ca2 := oa.q2
  have ca3 := oa.q3
  have la := oa.lt
  have cb0 := ob.q0
  have cb1 := ob.q1
  have cb2 := ob.q2
  have cb3 := ob.q3
  have lb := ob.lt
  have lr := or.lt
  have le := oe.lt
  go_wp2_with fail
  refine (cl _ _ _ (Fa.out.keeps keepsB) (Fb.out.keeps keepsB)).mono ?_
  rintro e w5 ⟨vn, vd, rfl, hvn, hvd, hb5⟩
  have st : Steps _ w5 := hb5
  have sk : Below w4.heap.size w4 w5 := belowA st
  replace B := below_steps B (Nat.le_refl _) sk
  replace oa := oa.steps sk
  replace ob := ob.steps sk
  replace or := or.steps sk
  replace oe := oe.steps sk
  replace Fa := Hid.mk_ (Fa.out.steps sk)
  replace Fb := Hid.mk_ (Fb.out.steps sk)
  clear st sk ca0 ca1 ca2 ca3 la cb0 cb1 cb2 cb3 lb lr le
  obtain ⟨n1, n2, n3, n4, rfl⟩ := hvn.shape
  obtain ⟨d1, d2, d3, d4, rfl⟩ := hvd.shape
  have Fn := Hid.mk_ hvn
  clear hvn
  have Fd := Hid.mk_ hvd
  clear hvd
  go_wp2_with fail
  refine (rd _ _ _ (Fn.out.keeps keepsB) (Fd.out.keeps keepsB)).mono ?_
  rintro e w6 ⟨vq, rfl, hvq, hb6⟩
  have st : Steps _ w6 := hb6
  have sk : Below w5.heap.size w5 w6 := belowA st
  replace B := below_steps B (Nat.le_refl _) sk
  replace oa := oa.steps sk
  replace ob := ob.steps sk
  replace or := or.steps sk
  replace oe := oe.steps sk
  replace Fa := Hid.mk_ (Fa.out.steps sk)
  replace Fb := Hid.mk_ (Fb.out.steps sk)
  replace Fn := Hid.mk_ (Fn.out.steps sk)
  replace Fd := Hid.mk_ (Fd.out.steps sk)
  clear st sk
  have la := oa.lt
  have lb := ob.lt
  have cr0 := or.q0
  have cr1 := or.q1
  have cr2 := or.q2
  have cr3 := or.q3
  have fr := or.fr
  have lr := or.lt
  have ce0 := oe.q0
  have fe := oe.fr
  have le := oe.lt
  obtain ⟨q1, q2, q3, q4, q5, q6, q7, q8, rfl⟩ := hvq.shape
  have Fq := Hid.mk_ hvq
  clear hvq
  go_wp2_with fail
  refine leaves_cons (f := 70) (args := #[.pointer (some ⟨w.heap.size + 1 + 1 + 1, 0, none⟩)]) (by simp) (by simp [go_sem]) ?_
  refine (fcatch_idle _ _).mono ?_
  rintro e u' w'' ⟨rfl, rfl, rfl⟩
  refine ⟨_, by simp [results, Try.results43, go_sem, la, lb, cr0, cr1, cr2, cr3, fr, lr, ce0, fe, le]; rfl, ?_⟩
  exact ⟨_, rfl, Fq.out.keeps keepsB, belowB⟩
set_option maxHeartbeats 6400000 in
set_option maxRecDepth 1000000 in
theorem fSubQ {va vb : Value} {r s : Rat} {i j : Nat} (w : World) (ha : FR w va r) (hb : FR w vb s) (hr : sz r i) (hs : sz s j) (hk : i + j ≤ 4094) :
    Calls Try.prog 28 #[va, vb] w fun e w' => ∃ v, e = .returned (.tuple #[v, .int .i64 0]) ∧ FR w' v (r - s) ∧ Steps w w' := by
  obtain ⟨h1, h2, h3⟩ := sum_size hr hs
  have g1 := fits_bp h1 (by omega)
  have g2 := fits_bp h2 (by omega)
  have g4 := fits_bp h3 (by omega)
  have g3 : fits (r.num * s.den - s.num * r.den) := by rw [Int.sub_eq_add_neg]; exact fits_bp (absN_add_le h1 (by rw [absN_neg]; exact h2)) (by omega)
  have bo : ∀ w' u v, FR w' u r → FR w' v s → Calls Try.prog 43 #[u, v, .func (.func 51) #[] #[]] w' fun e w2 => ∃ v, e = .returned (.tuple #[v, .int .i64 0]) ∧ FR w2 v (r - s) ∧ Steps w' w2 := fun w' u v h1 h2 => fSub2 w' h1 h2 g1 g2 g3 g4
  obtain ⟨a1, a2, a3, a4, a5, a6, a7, a8, rfl⟩ := ha.shape
  obtain ⟨b1, b2, b3, b4, b5, b6, b7, b8, rfl⟩ := hb.shape
  have Fa := Hid.mk_ ha
  have Fb := Hid.mk_ hb
  clear ha hb hr hs hk g1 g2 g3 g4
  clear h1 h2 h3
  go_enter Try.func28, Try.ntmps28
  go_wp2_with fail
  refine (bo _ _ _ (Fa.out.keeps keepsB) (Fb.out.keeps keepsB)).mono ?_
  rintro e w1 ⟨vq, rfl, hvq, hb1⟩
  have st : Steps _ w1 := hb1
  have B : Below w.heap.size w w1 := belowA st
  have kp : Keeps w w1 := Keeps.then_ keepsB st
  have na : Blk w1 (w.heap.size) 28 #[.bool a1, .slice a2 a3 a4, .bool a5, .slice a6 a7 a8] := Blk.stepsK st
  have nb : Blk w1 (w.heap.size + 1) 28 #[.bool b1, .slice b2 b3 b4, .bool b5, .slice b6 b7 b8] := Blk.stepsK st
  have nr : Blk w1 (w.heap.size + 1 + 1) 28 #[.bool false, .slice none 0 0, .bool false, .slice none 0 0] := Blk.stepsK st
  have oa := na
  clear na
  have ob := nb
  clear nb
  have or := nr
  clear nr
  replace Fa := Hid.mk_ (Fa.out.keeps kp)
  replace Fb := Hid.mk_ (Fb.out.keeps kp)
  clear kp
  clear st
  have la := oa.lt
  have lb := ob.lt
  have cr0 := or.q0
  have cr1 := or.q1
  have cr2 := or.q2
  have cr3 := or.q3
  have fr := or.fr
  have lr := or.lt
  obtain ⟨q1, q2, q3, q4, q5, q6, q7, q8, rfl⟩ := hvq.shape
  have Fq := Hid.mk_ hvq
  clear hvq
  go_wp2_with fail
  refine bodyPost_ret (by simp [results, Try.results28, go_sem, la, lb, cr0, cr1, cr2, cr3, fr, lr]; rfl) rfl ?_
  exact ⟨_, rfl, Fq.out.keeps keepsB, belowB⟩
set_option maxHeartbeats 6400000 in
set_option maxRecDepth 1000000 in
theorem fMul1 {va vb : Value} {r s : Rat} (w : World) (ha : FR w va r) (hb : FR w vb s) (g3 : fits (r.num * s.num)) (g4 : fits (r.den * s.den)) :
    Calls Try.prog 50 #[va, vb] w fun e w' => ∃ u v, e = .returned (.tuple #[u, v]) ∧ Num w' u (r.num * s.num) ∧ Num w' v (r.den * s.den) ∧ Steps w w' := by
  have fa := ha.fit
  have fb := hb.fit
  have m2 : ∀ w' u v, Num w' u (r.den) → Num w' v (s.den) → Calls Try.prog 48 #[u, v] w' fun e w2 => ∃ v, e = .returned (.tuple #[v, .int .i64 0]) ∧ Num w2 v (r.den * s.den) ∧ Steps w' w2 := fun w' u v h1 h2 => by
    have := wMul w' h1 h2 fa.2 fb.2
    rw [errN_fits g4, clipN_fits g4] at this
    exact this
  have m1 : ∀ w' u v, Num w' u (r.num) → Num w' v (s.num) → Calls Try.prog 48 #[u, v] w' fun e w2 => ∃ v, e = .returned (.tuple #[v, .int .i64 0]) ∧ Num w2 v (r.num * s.num) ∧ Steps w' w2 := fun w' u v h1 h2 => by
    have := wMul w' h1 h2 fa.1 fb.1
    rw [errN_fits g3, clipN_fits g3] at this
    exact this
  have ha0 := ha
  have hb0 := hb
  obtain ⟨a2, a3, a4, a6, a7, a8, rfl, na, da, -⟩ := ha.nums
  obtain ⟨b2, b3, b4, b6, b7, b8, rfl, nb', db, -⟩ := hb.nums
  obtain ⟨ga, hga⟩ : ∃ g, decide (r < 0) = g := ⟨_, rfl⟩
  obtain ⟨gb, hgb⟩ : ∃ g, decide (s < 0) = g := ⟨_, rfl⟩
  rw [hga] at na ha0 ⊢
  rw [hgb] at nb' hb0 ⊢
  have Fa := Hid.mk_ ha0
  have Fb := Hid.mk_ hb0
  have Fna := Hid.mk_ na
  have Fnb := Hid.mk_ nb'
  have Fda := Hid.mk_ da
  have Fdb := Hid.mk_ db
  clear hga hgb na da nb' db ha hb ha0 hb0 fa fb
  clear g3 g4
  go_enter Try.func50, Try.ntmps50
  go_upto_region 1 with fail
  refine Reg.wp_chain_n (fun N0 D v W => Below w.heap.size w W ∧ Keeps w W ∧ N0 ≤ W.heap.size ∧ Blk W (w.heap.size) 28 #[.bool ga, .slice a2 a3 a4, .bool false, .slice a6 a7 a8] ∧ Blk W (w.heap.size + 1) 28 #[.bool gb, .slice b2 b3 b4, .bool false, .slice b6 b7 b8] ∧ ((D 16 = false → Blk W (w.heap.size + 1 + 1) 26 #[.bool false, .slice none 0 0]) ∧ (D 16 = true → D 7 = true ∧ ∃ cs, v 7 = .agg cs ∧ Blk W (w.heap.size + 1 + 1) 26 cs)) ∧ ((D 17 = false → Blk W (w.heap.size + 1 + 1 + 1) 26 #[.bool false, .slice none 0 0]) ∧ (D 17 = true → D 15 = true ∧ ∃ cs, v 15 = .agg cs ∧ Blk W (w.heap.size + 1 + 1 + 1) 26 cs)))
    (Reg.inl [4, 7, 12, 15, 16, 17]) (Reg.gv [(4, IsNuE 0), (7, IsNu), (12, IsNuE 0), (15, IsNu)]) (gw [(4, GNuE (r.num * s.num) 0), (7, GNu (r.num * s.num)), (12, GNuE (r.den * s.den) 0), (15, GNu (r.den * s.den))]) (fun _ => Keeps) (fun _ _ => False) (Reg.pl [(7, [(4, some 10)]), (15, [(12, some 18)]), (16, [(7, some 13)]), (17, [(15, some 21)]), (18, [(4, some 10), (7, some 13), (12, some 18), (15, some 21)])]) (Reg.pl [(7, [16]), (15, [17])])
    (by kernel_rfl) (by kernel_rfl) (by kernel_rfl) (Reg.gv_some _ (by intro p hp; simp only [List.mem_cons, List.not_mem_nil, or_false] at hp; rcases hp with rfl | rfl | rfl | rfl <;> first | exact ⟨_, rfl⟩ | exact ⟨_, 0, rfl⟩ | exact ⟨_, none, 0, 0, rfl⟩ | exact ⟨_, false, none, 0, 0, rfl⟩ | exact ⟨_, false, none, 0, 0, false, none, 0, 0, rfl⟩)) (fun N0 hN0 => ⟨fun v => ?_, fun D v v' W hv hj => ?_, fun D v k j W W' x _ _ _ _ hk hg => gw_keeps _ (by intro p hp; simp only [List.mem_cons, List.not_mem_nil, or_false] at hp; rcases hp with rfl | rfl | rfl | rfl <;> first | exact GFr.keeps | exact GFrE.keeps | exact GNu.keeps | exact GNuE.keeps | exact GLi.keeps) hk hg, fun _ _ _ _ h => h.elim, fun ops' Q' hops hQ => ?_⟩)
  · exact ⟨belowB, keepsB, Nat.le_of_eq hN0.out, ownK, ownK, ⟨fun _ => ownK, (fun h => Bool.noConfusion h)⟩, ⟨fun _ => ownK, (fun h => Bool.noConfusion h)⟩⟩
  · obtain ⟨j0, jk, jn, b_a, b_b, b_p, b_q⟩ := hj
    exact ⟨j0, jk, jn, b_a, b_b, ⟨b_p.1, fun h => by obtain ⟨d, cs, e, hb⟩ := b_p.2 h; exact ⟨d, cs, (hv 7 d) ▸ e, hb⟩⟩, ⟨b_q.1, fun h => by obtain ⟨d, cs, e, hb⟩ := b_q.2 h; exact ⟨d, cs, (hv 15 d) ▸ e, hb⟩⟩⟩
  have i_a : w.heap.size < N0 := by have e := hN0.out; (try simp only [World.size_alloc, World.size_setCell, World.size_drew, World.heap_drewN] at e); first | omega | (have h := oa.lt; omega)
  have i_b : w.heap.size + 1 < N0 := by have e := hN0.out; (try simp only [World.size_alloc, World.size_setCell, World.size_drew, World.heap_drewN] at e); first | omega | (have h := ob.lt; omega)
  have i_p : w.heap.size + 1 + 1 < N0 := by have e := hN0.out; (try simp only [World.size_alloc, World.size_setCell, World.size_drew, World.heap_drewN] at e); first | omega | (have h := op.lt; omega)
  have i_q : w.heap.size + 1 + 1 + 1 < N0 := by have e := hN0.out; (try simp only [World.size_alloc, World.size_setCell, World.size_drew, World.heap_drewN] at e); first | omega | (have h := oq.lt; omega)
  have iw : w.heap.size ≤ N0 := by have e := hN0.out; (try simp only [World.size_alloc, World.size_setCell, World.size_drew, World.heap_drewN] at e); first | omega | (have h := B.size; omega)
  clear hN0
  apply Reg.RC_pure (hc := rfl) (hst := rfl) (hw := rfl) (t := 6) (hd := rfl) (ht := Nat.le_of_ble_eq_true rfl)
  · intro D v' W' hc hj hf K hK
    go_step
    exact hK.out
  · rfl
  apply Reg.RC_pure (hc := rfl) (hst := rfl) (hw := rfl) (t := 7) (hd := rfl) (ht := Nat.le_of_ble_eq_true rfl)
  · intro D v' W' hc hj hf K hK
    obtain ⟨j0, jk, jn, b_a, b_b, b_p, b_q⟩ := hj
    have c0 : W'.cell? ⟨w.heap.size, 0, none⟩ = some (.bool ga) := b_a.c 0 rfl
    have c1 : W'.cell? ⟨w.heap.size, 1, none⟩ = some (.slice a2 a3 a4) := b_a.c 1 rfl
    have c2 : W'.cell? ⟨w.heap.size, 2, none⟩ = some (.bool false) := b_a.c 2 rfl
    have c3 : W'.cell? ⟨w.heap.size, 3, none⟩ = some (.slice a6 a7 a8) := b_a.c 3 rfl
    go_step
    exact hK.out
  · rfl
  apply Reg.RC_pure (hc := rfl) (hst := rfl) (hw := rfl) (t := 8) (hd := rfl) (ht := Nat.le_of_ble_eq_true rfl)
  · intro D v' W' hc hj hf K hK
    go_step
    exact hK.out
  · rfl
  apply Reg.RC_pure (hc := rfl) (hst := rfl) (hw := rfl) (t := 9) (hd := rfl) (ht := Nat.le_of_ble_eq_true rfl)
  · intro D v' W' hc hj hf K hK
    obtain ⟨j0, jk, jn, b_a, b_b, b_p, b_q⟩ := hj
    have c0 : W'.cell? ⟨w.heap.size + 1, 0, none⟩ = some (.bool gb) := b_b.c 0 rfl
    have c1 : W'.cell? ⟨w.heap.size + 1, 1, none⟩ = some (.slice b2 b3 b4) := b_b.c 1 rfl
    have c2 : W'.cell? ⟨w.heap.size + 1, 2, none⟩ = some (.bool false) := b_b.c 2 rfl
    have c3 : W'.cell? ⟨w.heap.size + 1, 3, none⟩ = some (.slice b6 b7 b8) := b_b.c 3 rfl
    go_step
    exact hK.out
  · rfl
  refine Reg.RC_call rfl (by intro t ht; cases ht; exact Nat.le_of_ble_eq_true rfl) rfl (fun D v' W' hc hj hf K hK => ?_) ?_
  · obtain ⟨j0, jk, jn, b_a, b_b, b_p, b_q⟩ := hj
    clear hf
    go_step
    refine (m1 W' _ _ (Fna.out.keeps jk) (Fnb.out.keeps jk)).mono ?_
    rintro e W2 ⟨u, rfl, hu, hs⟩
    obtain ⟨x1_1, x1_2, x1_3, x1_4, rfl⟩ := hu.shape
    exact hK.out _ W2 (Keeps.steps hs) ⟨below_steps j0 (Nat.le_refl _) hs, jk.then_ hs, Nat.le_trans jn hs.size, b_a.steps hs, b_b.steps hs, ⟨fun h => (b_p.1 h).steps hs, fun h => by obtain ⟨d, cs, e, hb⟩ := b_p.2 h; exact ⟨d, cs, e, hb.steps hs⟩⟩, ⟨fun h => (b_q.1 h).steps hs, fun h => by obtain ⟨d, cs, e, hb⟩ := b_q.2 h; exact ⟨d, cs, e, hb.steps hs⟩⟩⟩ ⟨_, rfl, hu⟩ ⟨_, _, _, _, rfl⟩
  rintro _ ⟨x1_1, x1_2, x1_3, x1_4, rfl⟩
  refine Reg.RC_at (b := ⟨#[_,_,_,_,_,_,_,_,_,_,_,_,_,_,_,_,_,_,_,_,_,_], _⟩) rfl ?_
  apply Reg.RC_pure (hc := rfl) (hst := rfl) (hw := rfl) (t := 11) (hd := rfl) (ht := Nat.le_of_ble_eq_true rfl)
  · intro D v' W' hc hj hf K hK
    go_step
    exact hK.out
  · rfl
  apply Reg.RC_pure (hc := rfl) (hst := rfl) (hw := rfl) (t := 12) (hd := rfl) (ht := Nat.le_of_ble_eq_true rfl)
  · intro D v' W' hc hj hf K hK
    go_step
    exact hK.out
  · rfl
  refine Reg.RC_call rfl (by intro t ht; cases ht; exact Nat.le_of_ble_eq_true rfl) rfl (fun D v' W' hc hj hf K hK => ?_) ?_
  · obtain ⟨j0, jk, jn, b_a, b_b, b_p, b_q⟩ := hj
    have g4 : GNuE (r.num * s.num) 0 _ W' := (hf (4, some 10) (.head _) rfl).2.2
    have g4 := g4.get
    clear hf
    go_step
    refine (fmust W' g4).mono ?_
    rintro e W2 ⟨u, rfl, hu, hs⟩
    obtain ⟨N1, N2, N3, N4, rfl⟩ := hu.shape
    exact hK.out _ W2 (Keeps.steps hs) ⟨below_steps j0 (Nat.le_refl _) hs, jk.then_ hs, Nat.le_trans jn hs.size, b_a.steps hs, b_b.steps hs, ⟨fun h => (b_p.1 h).steps hs, fun h => Bool.noConfusion ((hc.2 16 (by decide)).symm.trans h)⟩, ⟨fun h => (b_q.1 h).steps hs, fun h => by obtain ⟨d, cs, e, hb⟩ := b_q.2 h; exact ⟨d, cs, e, hb.steps hs⟩⟩⟩ hu ⟨_, _, _, _, rfl⟩
  rintro _ ⟨N1, N2, N3, N4, rfl⟩
  refine Reg.RC_at (b := ⟨#[_,_,_,_,_,_,_,_,_,_,_,_,_,_,_,_,_,_,_,_,_,_], _⟩) rfl ?_
  apply Reg.RC_pure (hc := rfl) (hst := rfl) (hw := rfl) (t := 14) (hd := rfl) (ht := Nat.le_of_ble_eq_true rfl)
  · intro D v' W' hc hj hf K hK
    go_step
    exact hK.out
  · rfl
  apply Reg.RC_pure (hc := rfl) (hst := rfl) (hw := rfl) (t := 15) (hd := rfl) (ht := Nat.le_of_ble_eq_true rfl)
  · intro D v' W' hc hj hf K hK
    obtain ⟨j0, jk, jn, b_a, b_b, b_p, b_q⟩ := hj
    have c0 : W'.cell? ⟨w.heap.size, 0, none⟩ = some (.bool ga) := b_a.c 0 rfl
    have c1 : W'.cell? ⟨w.heap.size, 1, none⟩ = some (.slice a2 a3 a4) := b_a.c 1 rfl
    have c2 : W'.cell? ⟨w.heap.size, 2, none⟩ = some (.bool false) := b_a.c 2 rfl
    have c3 : W'.cell? ⟨w.heap.size, 3, none⟩ = some (.slice a6 a7 a8) := b_a.c 3 rfl
    go_step
    exact hK.out
  · rfl
  apply Reg.RC_pure (hc := rfl) (hst := rfl) (hw := rfl) (t := 16) (hd := rfl) (ht := Nat.le_of_ble_eq_true rfl)
  · intro D v' W' hc hj hf K hK
    go_step
    exact hK.out
  · rfl
  apply Reg.RC_pure (hc := rfl) (hst := rfl) (hw := rfl) (t := 17) (hd := rfl) (ht := Nat.le_of_ble_eq_true rfl)
  · intro D v' W' hc hj hf K hK
    obtain ⟨j0, jk, jn, b_a, b_b, b_p, b_q⟩ := hj
    have c0 : W'.cell? ⟨w.heap.size + 1, 0, none⟩ = some (.bool gb) := b_b.c 0 rfl
    have c1 : W'.cell? ⟨w.heap.size + 1, 1, none⟩ = some (.slice b2 b3 b4) := b_b.c 1 rfl
    have c2 : W'.cell? ⟨w.heap.size + 1, 2, none⟩ = some (.bool false) := b_b.c 2 rfl
    have c3 : W'.cell? ⟨w.heap.size + 1, 3, none⟩ = some (.slice b6 b7 b8) := b_b.c 3 rfl
    go_step
    exact hK.out
  · rfl
  refine Reg.RC_call rfl (by intro t ht; cases ht; exact Nat.le_of_ble_eq_true rfl) rfl (fun D v' W' hc hj hf K hK => ?_) ?_
  · obtain ⟨j0, jk, jn, b_a, b_b, b_p, b_q⟩ := hj
    clear hf
    go_step
    refine (m2 W' _ _ (Fda.out.keeps jk) (Fdb.out.keeps jk)).mono ?_
    rintro e W2 ⟨u, rfl, hu, hs⟩
    obtain ⟨x2_1, x2_2, x2_3, x2_4, rfl⟩ := hu.shape
    exact hK.out _ W2 (Keeps.steps hs) ⟨below_steps j0 (Nat.le_refl _) hs, jk.then_ hs, Nat.le_trans jn hs.size, b_a.steps hs, b_b.steps hs, ⟨fun h => (b_p.1 h).steps hs, fun h => by obtain ⟨d, cs, e, hb⟩ := b_p.2 h; exact ⟨d, cs, e, hb.steps hs⟩⟩, ⟨fun h => (b_q.1 h).steps hs, fun h => by obtain ⟨d, cs, e, hb⟩ := b_q.2 h; exact ⟨d, cs, e, hb.steps hs⟩⟩⟩ ⟨_, rfl, hu⟩ ⟨_, _, _, _, rfl⟩
  rintro _ ⟨x2_1, x2_2, x2_3, x2_4, rfl⟩
  refine Reg.RC_at (b := ⟨#[_,_,_,_,_,_,_,_,_,_,_,_,_,_,_,_,_,_,_,_,_,_], _⟩) rfl ?_
  apply Reg.RC_pure (hc := rfl) (hst := rfl) (hw := rfl) (t := 19) (hd := rfl) (ht := Nat.le_of_ble_eq_true rfl)
  · intro D v' W' hc hj hf K hK
    go_step
    exact hK.out
  · rfl
  apply Reg.RC_pure (hc := rfl) (hst := rfl) (hw := rfl) (t := 20) (hd := rfl) (ht := Nat.le_of_ble_eq_true rfl)
  · intro D v' W' hc hj hf K hK
    go_step
    exact hK.out
  · rfl
  refine Reg.RC_call rfl (by intro t ht; cases ht; exact Nat.le_of_ble_eq_true rfl) rfl (fun D v' W' hc hj hf K hK => ?_) ?_
  · obtain ⟨j0, jk, jn, b_a, b_b, b_p, b_q⟩ := hj
    have g12 : GNuE (r.den * s.den) 0 _ W' := (hf (12, some 18) (.head _) rfl).2.2
    have g12 := g12.get
    clear hf
    go_step
    refine (fmust W' g12).mono ?_
    rintro e W2 ⟨u, rfl, hu, hs⟩
    obtain ⟨D1, D2, D3, D4, rfl⟩ := hu.shape
    exact hK.out _ W2 (Keeps.steps hs) ⟨below_steps j0 (Nat.le_refl _) hs, jk.then_ hs, Nat.le_trans jn hs.size, b_a.steps hs, b_b.steps hs, ⟨fun h => (b_p.1 h).steps hs, fun h => by obtain ⟨d, cs, e, hb⟩ := b_p.2 h; exact ⟨d, cs, e, hb.steps hs⟩⟩, ⟨fun h => (b_q.1 h).steps hs, fun h => Bool.noConfusion ((hc.2 17 (by decide)).symm.trans h)⟩⟩ hu ⟨_, _, _, _, rfl⟩
  rintro _ ⟨D1, D2, D3, D4, rfl⟩
  refine Reg.RC_at (b := ⟨#[_,_,_,_,_,_,_,_,_,_,_,_,_,_,_,_,_,_,_,_,_,_], _⟩) rfl ?_
  refine Reg.RC_call rfl (by intro t ht; cases ht) rfl (fun D v' W' hc hj hf K hK => ?_) (fun _ _ => Reg.RC_at (b := ⟨_, _⟩) rfl ?_)
  · obtain ⟨j0, jk, jn, b_a, b_b, b_p, b_q⟩ := hj
    have hb := b_p.1 hc.1
    have e2 : w.heap.size ≤ w.heap.size + 1 + 1 := by omega
    have fc := hf (7, some 13) (.head _) rfl
    have ec : v' 7 = .agg #[.bool N1, .slice N2 N3 N4] := fc.2.1
    have ff := hb.fr
    have cc0 : W'.cell? ⟨w.heap.size + 1 + 1, 0, none⟩ = some (.bool false) := hb.c 0 rfl
    have cc1 : W'.cell? ⟨w.heap.size + 1 + 1, 1, none⟩ = some (.slice none 0 0) := hb.c 1 rfl
    go_step
    exact hK.out undef _ (Keeps.only hb rfl ((Only.refl _ _).set.set)) ⟨(Below.setCell (p := ⟨w.heap.size + 1 + 1, 1, none⟩) (Below.setCell (p := ⟨w.heap.size + 1 + 1, 0, none⟩) j0 (by show w.heap.size ≤ w.heap.size + 1 + 1; omega) _) (by show w.heap.size ≤ w.heap.size + 1 + 1; omega) _), jk.trans (Keeps.only hb rfl ((Only.refl _ _).set.set)), by simpa using jn, ((b_a).far' (show w.heap.size ≠ w.heap.size + 1 + 1 by omega)).far' (show w.heap.size ≠ w.heap.size + 1 + 1 by omega), ((b_b).far' (show w.heap.size + 1 ≠ w.heap.size + 1 + 1 by omega)).far' (show w.heap.size + 1 ≠ w.heap.size + 1 + 1 by omega), ⟨fun h => Bool.noConfusion h, fun _ => ⟨fc.1, _, ec, (Blk.set2 (cs' := #[.bool N1, .slice N2 N3 N4]) (Blk.set2 (cs' := #[.bool N1, .slice none 0 0]) hb (i := 0) rfl) (i := 1) rfl)⟩⟩, ⟨fun h => ((b_q.1 h).far' (show w.heap.size + 1 + 1 + 1 ≠ w.heap.size + 1 + 1 by omega)).far' (show w.heap.size + 1 + 1 + 1 ≠ w.heap.size + 1 + 1 by omega), fun h => by obtain ⟨d, cs, e, hb2⟩ := b_q.2 h; exact ⟨d, cs, e, ((hb2).far' (show w.heap.size + 1 + 1 + 1 ≠ w.heap.size + 1 + 1 by omega)).far' (show w.heap.size + 1 + 1 + 1 ≠ w.heap.size + 1 + 1 by omega)⟩⟩⟩ trivial trivial
  refine Reg.RC_call rfl (by intro t ht; cases ht) rfl (fun D v' W' hc hj hf K hK => ?_) (fun _ _ => Reg.RC_at (b := ⟨_, _⟩) rfl ?_)
  · obtain ⟨j0, jk, jn, b_a, b_b, b_p, b_q⟩ := hj
    have hb := b_q.1 hc.1
    have e2 : w.heap.size ≤ w.heap.size + 1 + 1 + 1 := by omega
    have fc := hf (15, some 21) (.head _) rfl
    have ec : v' 15 = .agg #[.bool D1, .slice D2 D3 D4] := fc.2.1
    have ff := hb.fr
    have cc0 : W'.cell? ⟨w.heap.size + 1 + 1 + 1, 0, none⟩ = some (.bool false) := hb.c 0 rfl
    have cc1 : W'.cell? ⟨w.heap.size + 1 + 1 + 1, 1, none⟩ = some (.slice none 0 0) := hb.c 1 rfl
    go_step
    exact hK.out undef _ (Keeps.only hb rfl ((Only.refl _ _).set.set)) ⟨(Below.setCell (p := ⟨w.heap.size + 1 + 1 + 1, 1, none⟩) (Below.setCell (p := ⟨w.heap.size + 1 + 1 + 1, 0, none⟩) j0 (by show w.heap.size ≤ w.heap.size + 1 + 1 + 1; omega) _) (by show w.heap.size ≤ w.heap.size + 1 + 1 + 1; omega) _), jk.trans (Keeps.only hb rfl ((Only.refl _ _).set.set)), by simpa using jn, ((b_a).far' (show w.heap.size ≠ w.heap.size + 1 + 1 + 1 by omega)).far' (show w.heap.size ≠ w.heap.size + 1 + 1 + 1 by omega), ((b_b).far' (show w.heap.size + 1 ≠ w.heap.size + 1 + 1 + 1 by omega)).far' (show w.heap.size + 1 ≠ w.heap.size + 1 + 1 + 1 by omega), ⟨fun h => ((b_p.1 h).far' (show w.heap.size + 1 + 1 ≠ w.heap.size + 1 + 1 + 1 by omega)).far' (show w.heap.size + 1 + 1 ≠ w.heap.size + 1 + 1 + 1 by omega), fun h => by obtain ⟨d, cs, e, hb2⟩ := b_p.2 h; exact ⟨d, cs, e, ((hb2).far' (show w.heap.size + 1 + 1 ≠ w.heap.size + 1 + 1 + 1 by omega)).far' (show w.heap.size + 1 + 1 ≠ w.heap.size + 1 + 1 + 1 by omega)⟩⟩, ⟨fun h => Bool.noConfusion h, fun _ => ⟨fc.1, _, ec, (Blk.set2 (cs' := #[.bool D1, .slice D2 D3 D4]) (Blk.set2 (cs' := #[.bool D1, .slice none 0 0]) hb (i := 0) rfl) (i := 1) rfl)⟩⟩⟩ trivial trivial
  refine Reg.RC_end (fun Dn v' w1 hd hj hf => ?_)
  obtain ⟨j0, jk, jn, b_a, b_b, b_p, b_q⟩ := hj
  have B := j0
  have oa := b_a
  clear b_a
  have ob := b_b
  clear b_b
  obtain ⟨-, cs_, ee, op⟩ := b_p.2 (hd 16 (Nat.le_of_ble_eq_true rfl))
  have ef : v' 7 = .agg #[.bool N1, .slice N2 N3 N4] := (hf (7, some 13) (.tail _ (.head _)) rfl).2.1
  obtain rfl : #[.bool N1, .slice N2 N3 N4] = cs_ := by have := ef.symm.trans ee; simpa only [Value.tuple.injEq, Value.agg.injEq, Array.mk.injEq, List.cons.injEq, and_true, true_and] using this
  clear b_p ee ef
  obtain ⟨-, cs_, ee, oq⟩ := b_q.2 (hd 17 (Nat.le_of_ble_eq_true rfl))
  have ef : v' 15 = .agg #[.bool D1, .slice D2 D3 D4] := (hf (15, some 21) (.tail _ (.tail _ (.tail _ (.head _)))) rfl).2.1
  obtain rfl : #[.bool D1, .slice D2 D3 D4] = cs_ := by have := ef.symm.trans ee; simpa only [Value.tuple.injEq, Value.agg.injEq, Array.mk.injEq, List.cons.injEq, and_true, true_and] using this
  clear b_q ee ef
  have FN : Hid (Num w1 (.agg #[.bool N1, .slice N2 N3 N4]) (r.num * s.num)) := (hf (7, some 13) (.tail _ (.head _)) rfl).2.2
  have FD : Hid (Num w1 (.agg #[.bool D1, .slice D2 D3 D4]) (r.den * s.den)) := (hf (15, some 21) (.tail _ (.tail _ (.tail _ (.head _)))) rfl).2.2
  replace Fa := Hid.mk_ (Fa.out.keeps jk)
  replace Fb := Hid.mk_ (Fb.out.keeps jk)
  replace Fna := Hid.mk_ (Fna.out.keeps jk)
  replace Fda := Hid.mk_ (Fda.out.keeps jk)
  replace Fnb := Hid.mk_ (Fnb.out.keeps jk)
  replace Fdb := Hid.mk_ (Fdb.out.keeps jk)
  clear hd hf jk j0
  refine hQ _ _ ?_
  clear hQ hops Q' ops'
  have la := oa.lt
  have lb := ob.lt
  have cp0 := op.q0
  have cp1 := op.q1
  have lp := op.lt
  have cq0 := oq.q0
  have cq1 := oq.q1
  have lq := oq.lt
  go_wp2_with fail
  refine bodyPost_ret (by simp [results, Try.results50, go_sem, la, lb, cp0, cp1, lp, cq0, cq1, lq]; rfl) rfl ?_
  exact ⟨_, _, rfl, FN.out.keeps keepsB, FD.out.keeps keepsB, belowB⟩
set_option maxHeartbeats 6400000 in
set_option maxRecDepth 1000000 in
theorem fMul2 {va vb : Value} {r s : Rat} (w : World) (ha : FR w va r) (hb : FR w vb s) (g3 : fits (r.num * s.num)) (g4 : fits (r.den * s.den)) :
    Calls Try.prog 43 #[va, vb, .func (.func 50) #[] #[]] w fun e w' => ∃ v, e = .returned (.tuple #[v, .int .i64 0]) ∧ FR w' v (r * s) ∧ Steps w w' := by
  have cl : ∀ w' u v, FR w' u r → FR w' v s → Calls Try.prog 50 #[u, v] w' fun e w2 => ∃ u v, e = .returned (.tuple #[u, v]) ∧ Num w2 u (r.num * s.num) ∧ Num w2 v (r.den * s.den) ∧ Steps w' w2 := fun w' u v h1 h2 => fMul1 w' h1 h2 g3 g4
  have rd : ∀ w' u v, Num w' u (r.num * s.num) → Num w' v (r.den * s.den) → Calls Try.prog 73 #[u, v] w' fun e w2 => ∃ v, e = .returned v ∧ FR w2 v (r * s) ∧ Steps w' w2 := fun w' u v h1 h2 => by
    have := freduce w' h1 h2 g3 g4 (dens_ne r s)
    rw [mul_frac] at this
    exact this
  obtain ⟨a1, a2, a3, a4, a5, a6, a7, a8, rfl⟩ := ha.shape
  obtain ⟨b1, b2, b3, b4, b5, b6, b7, b8, rfl⟩ := hb.shape
  have Fa := Hid.mk_ ha
  have Fb := Hid.mk_ hb
  clear ha hb g3 g4
  go_enter_defers Try.func43, Try.ntmps43
  go_wp2_with fail
  refine (fcheck_q _ (Fa.out.keeps keepsB)).mono ?_
  rintro e w1 ⟨rfl, hb1⟩
  have st : Steps _ w1 := hb1
  have B : Below w.heap.size w w1 := belowA st
  have kp : Keeps w w1 := Keeps.then_ keepsB st
  have na : Blk w1 (w.heap.size) 28 #[.bool a1, .slice a2 a3 a4, .bool a5, .slice a6 a7 a8] := Blk.stepsK st
  have nb : Blk w1 (w.heap.size + 1) 28 #[.bool b1, .slice b2 b3 b4, .bool b5, .slice b6 b7 b8] := Blk.stepsK st
  have nr : Blk w1 (w.heap.size + 1 + 1) 28 #[.bool false, .slice none 0 0, .bool false, .slice none 0 0] := Blk.stepsK st
  have ne : Blk w1 (w.heap.size + 1 + 1 + 1) 32 #[.int .i64 0] := Blk.stepsK st
  have oa := na
  clear na
  have ob := nb
  clear nb
  have or := nr
  clear nr
  have oe := ne
  clear ne
  replace Fa := Hid.mk_ (Fa.out.keeps kp)
  replace Fb := Hid.mk_ (Fb.out.keeps kp)
  clear kp
  clear st
  go_wp2_with fail
  refine (fwant0s _).mono ?_
  rintro e w2 ⟨rfl, hb2⟩
  have st : Steps _ w2 := hb2
  have sk : Below w1.heap.size w1 w2 := belowA st
  replace B := below_steps B (Nat.le_refl _) sk
  replace oa := oa.steps sk
  replace ob := ob.steps sk
  replace or := or.steps sk
  replace oe := oe.steps sk
  replace Fa := Hid.mk_ (Fa.out.steps sk)
  replace Fb := Hid.mk_ (Fb.out.steps sk)
  clear st sk
  have la := oa.lt
  have cb0 := ob.q0
  have cb1 := ob.q1
  have cb2 := ob.q2
  have cb3 := ob.q3
  have lb := ob.lt
  have lr := or.lt
  have le := oe.lt
  go_wp2_with fail
  refine (fcheck_q _ (Fb.out.keeps keepsB)).mono ?_
  rintro e w3 ⟨rfl, hb3⟩
  have st : Steps _ w3 := hb3
  have sk : Below w2.heap.size w2 w3 := belowA st
  replace B := below_steps B (Nat.le_refl _) sk
  replace oa := oa.steps sk
  replace ob := ob.steps sk
  replace or := or.steps sk
  replace oe := oe.steps sk
  replace Fa := Hid.mk_ (Fa.out.steps sk)
  replace Fb := Hid.mk_ (Fb.out.steps sk)
  clear st sk la cb0 cb1 cb2 cb3 lb lr le
  go_wp2_with fail
  refine (fwant0s _).mono ?_
  rintro e w4 ⟨rfl, hb4⟩
  have st : Steps _ w4 := hb4
  have sk : Below w3.heap.size w3 w4 := belowA st
  replace B := below_steps B (Nat.le_refl _) sk
  replace oa := oa.steps sk
  replace ob := ob.steps sk
  replace or := or.steps sk
  replace oe := oe.steps sk
  replace Fa := Hid.mk_ (Fa.out.steps sk)
  replace Fb := Hid.mk_ (Fb.out.steps sk)
  clear st sk
  have ca0 := oa.q0
  have ca1 := oa.q1
  have ca2 := oa.q2
  have ca3 := oa.q3
  have la := oa.lt
  have cb0 := ob.q0
  have cb1 := ob.q1
  have cb2 := ob.q2
  have cb3 := ob.q3
  have lb := ob.lt
  have lr := or.lt
  have le := oe.lt
  go_wp2_with fail
  refine (cl _ _ _ (Fa.out.keeps keepsB) (Fb.out.keeps keepsB)).mono ?_
  rintro e w5 ⟨vn, vd, rfl, hvn, hvd, hb5⟩
  have st : Steps _ w5 := hb5
  have sk : Below w4.heap.size w4 w5 := belowA st
  replace B := below_steps B (Nat.le_refl _) sk
  replace oa := oa.steps sk
  replace ob := ob.steps sk
  replace or := or.steps sk
  replace oe := oe.steps sk
  replace Fa := Hid.mk_ (Fa.out.steps sk)
  replace Fb := Hid.mk_ (Fb.out.steps sk)
  clear st sk ca0 ca1 ca2 ca3 la cb0 cb1 cb2 cb3 lb lr le
  obtain ⟨n1, n2, n3, n4, rfl⟩ := hvn.shape
  obtain ⟨d1, d2, d3, d4, rfl⟩ := hvd.shape
  have Fn := Hid.mk_ hvn
  clear hvn
  have Fd := Hid.mk_ hvd
  clear hvd
  go_wp2_with fail
  refine (rd _ _ _ (Fn.out.keeps keepsB) (Fd.out.keeps keepsB)).mono ?_
  rintro e w6 ⟨vq, rfl, hvq, hb6⟩
  have st : Steps _ w6 := hb6
  have sk : Below w5.heap.size w5 w6 := belowA st
  replace B := below_steps B (Nat.le_refl _) sk
  replace oa := oa.steps sk
  replace ob := ob.steps sk
  replace or := or.steps sk
  replace oe := oe.steps sk
  replace Fa := Hid.mk_ (Fa.out.steps sk)
  replace Fb := Hid.mk_ (Fb.out.steps sk)
  replace Fn := Hid.mk_ (Fn.out.steps sk)
  replace Fd := Hid.mk_ (Fd.out.steps sk)
  clear st sk
  have la := oa.lt
  have lb := ob.lt
  have cr0 := or.q0
  have cr1 := or.q1
  have cr2 := or.q2
  have cr3 := or.q3
  have fr := or.fr
  have lr := or.lt
  have ce0 := oe.q0
  have fe := oe.fr
  have le := oe.lt
  obtain ⟨q1, q2, q3, q4, q5, q6, q7, q8, rfl⟩ := hvq.shape
  have Fq := Hid.mk_ hvq
  clear hvq
  go_wp2_with fail
  refine leaves_cons (f := 70) (args := #[.pointer (some ⟨w.heap.size + 1 + 1 + 1, 0, none⟩)]) (by simp) (by simp [go_sem]) ?_
  refine (fcatch_idle _ _).mono ?_
  rintro e u' w'' ⟨rfl, rfl, rfl⟩
  refine ⟨_, by simp [results, Try.results43, go_sem, la, lb, cr0, cr1, cr2, cr3, fr, lr, ce0, fe, le]; rfl, ?_⟩
  exact ⟨_, rfl, Fq.out.keeps keepsB, belowB⟩
set_option maxHeartbeats 6400000 in
set_option maxRecDepth 1000000 in
theorem fMulQ {va vb : Value} {r s : Rat} {i j : Nat} (w : World) (ha : FR w va r) (hb : FR w vb s) (hr : sz r i) (hs : sz s j) (hk : i + j ≤ 4095) :
    Calls Try.prog 27 #[va, vb] w fun e w' => ∃ v, e = .returned (.tuple #[v, .int .i64 0]) ∧ FR w' v (r * s) ∧ Steps w w' := by
  have d1 : absN (r.den : Int) ≤ bp i := by rw [den_abs]; exact hr.2
  have d2 : absN (s.den : Int) ≤ bp j := by rw [den_abs]; exact hs.2
  have g3 := fits_bp (absN_mul_le hr.1 hs.1) hk
  have g4 := fits_bp (absN_mul_le d1 d2) hk
  have bo : ∀ w' u v, FR w' u r → FR w' v s → Calls Try.prog 43 #[u, v, .func (.func 50) #[] #[]] w' fun e w2 => ∃ v, e = .returned (.tuple #[v, .int .i64 0]) ∧ FR w2 v (r * s) ∧ Steps w' w2 := fun w' u v h1 h2 => fMul2 w' h1 h2 g3 g4
  obtain ⟨a1, a2, a3, a4, a5, a6, a7, a8, rfl⟩ := ha.shape
  obtain ⟨b1, b2, b3, b4, b5, b6, b7, b8, rfl⟩ := hb.shape
  have Fa := Hid.mk_ ha
  have Fb := Hid.mk_ hb
  clear ha hb hr hs hk g3 g4
  clear d1 d2
  go_enter Try.func27, Try.ntmps27
  go_wp2_with fail
  refine (bo _ _ _ (Fa.out.keeps keepsB) (Fb.out.keeps keepsB)).mono ?_
  rintro e w1 ⟨vq, rfl, hvq, hb1⟩
  have st : Steps _ w1 := hb1
  have B : Below w.heap.size w w1 := belowA st
  have kp : Keeps w w1 := Keeps.then_ keepsB st
  have na : Blk w1 (w.heap.size) 28 #[.bool a1, .slice a2 a3 a4, .bool a5, .slice a6 a7 a8] := Blk.stepsK st
  have nb : Blk w1 (w.heap.size + 1) 28 #[.bool b1, .slice b2 b3 b4, .bool b5, .slice b6 b7 b8] := Blk.stepsK st
  have nr : Blk w1 (w.heap.size + 1 + 1) 28 #[.bool false, .slice none 0 0, .bool false, .slice none 0 0] := Blk.stepsK st
  have oa := na
  clear na
  have ob := nb
  clear nb
  have or := nr
  clear nr
  replace Fa := Hid.mk_ (Fa.out.keeps kp)
  replace Fb := Hid.mk_ (Fb.out.keeps kp)
  clear kp
  clear st
  have la := oa.lt
  have lb := ob.lt
  have cr0 := or.q0
  have cr1 := or.q1
  have cr2 := or.q2
  have cr3 := or.q3
  have fr := or.fr
  have lr := or.lt
  obtain ⟨q1, q2, q3, q4, q5, q6, q7, q8, rfl⟩ := hvq.shape
  have Fq := Hid.mk_ hvq
  clear hvq
  go_wp2_with fail
  refine bodyPost_ret (by simp [results, Try.results27, go_sem, la, lb, cr0, cr1, cr2, cr3, fr, lr]; rfl) rfl ?_
  exact ⟨_, rfl, Fq.out.keeps keepsB, belowB⟩
set_option maxHeartbeats 6400000 in
set_option maxRecDepth 1000000 in
theorem fCmpQ {va vb : Value} {r s : Rat} {i j : Nat} (w : World) (ha : FR w va r) (hb : FR w vb s) (hr : sz r i) (hs : sz s j) (hk : i + j ≤ 4095) :
    Calls Try.prog 42 #[va, vb] w fun e w' => e = .returned (.tuple #[.int .i64 (cmpQ r s), .int .i64 0]) ∧ Steps w w' := by
  obtain ⟨h1, h2, h3⟩ := sum_size hr hs
  have g1 := fits_bp h1 hk
  have g2 := fits_bp h2 hk
  have cr1 : ∀ w' u v, FR w' u r → FR w' v s → Calls Try.prog 47 #[u, v] w' fun e w2 => ∃ v, e = .returned v ∧ Num w2 v (r.num * s.den) ∧ Steps w' w2 := fun w' u v h1 h2 => fcross w' h1 h2 g1
  have cr2 : ∀ w' u v, FR w' u s → FR w' v r → Calls Try.prog 47 #[u, v] w' fun e w2 => ∃ v, e = .returned v ∧ Num w2 v (s.num * r.den) ∧ Steps w' w2 := fun w' u v h1 h2 => fcross w' h1 h2 g2
  have cm : ∀ w' v u, Num w' v (r.num * s.den) → Num w' u (s.num * r.den) → Calls Try.prog 72 #[v, u] w' fun e w2 => e = .returned (.tuple #[.int .i64 (cmpQ r s), .int .i64 0]) ∧ Steps w' w2 := fun w' v u h1 h2 => by
    have := wCmp w' h1 h2 g1 g2
    rw [cmpI_rat] at this
    exact this
  obtain ⟨c, hc⟩ : ∃ c, cmpQ r s = c := ⟨_, rfl⟩
  rw [hc] at cm ⊢
  obtain ⟨a1, a2, a3, a4, a5, a6, a7, a8, rfl⟩ := ha.shape
  obtain ⟨b1, b2, b3, b4, b5, b6, b7, b8, rfl⟩ := hb.shape
  have Fa := Hid.mk_ ha
  have Fb := Hid.mk_ hb
  clear ha hb hr hs hk g1 g2 h1 h2 h3 hc
  go_enter_defers Try.func42, Try.ntmps42
  go_wp2_with fail
  refine (fcheck_q _ (Fa.out.keeps keepsB)).mono ?_
  rintro e w1 ⟨rfl, hb1⟩
  have st : Steps _ w1 := hb1
  have B : Below w.heap.size w w1 := belowA st
  have kp : Keeps w w1 := Keeps.then_ keepsB st
  have na : Blk w1 (w.heap.size) 28 #[.bool a1, .slice a2 a3 a4, .bool a5, .slice a6 a7 a8] := Blk.stepsK st
  have nb : Blk w1 (w.heap.size + 1) 28 #[.bool b1, .slice b2 b3 b4, .bool b5, .slice b6 b7 b8] := Blk.stepsK st
  have ne : Blk w1 (w.heap.size + 1 + 1) 32 #[.int .i64 0] := Blk.stepsK st
  have oa := na
  clear na
  have ob := nb
  clear nb
  have oe := ne
  clear ne
  replace Fa := Hid.mk_ (Fa.out.keeps kp)
  replace Fb := Hid.mk_ (Fb.out.keeps kp)
  clear kp
  clear st
  go_wp2_with fail
  refine (fwant0s _).mono ?_
  rintro e w2 ⟨rfl, hb2⟩
  have st : Steps _ w2 := hb2
  have sk : Below w1.heap.size w1 w2 := belowA st
  replace B := below_steps B (Nat.le_refl _) sk
  replace oa := oa.steps sk
  replace ob := ob.steps sk
  replace oe := oe.steps sk
  replace Fa := Hid.mk_ (Fa.out.steps sk)
  replace Fb := Hid.mk_ (Fb.out.steps sk)
  clear st sk
  have la := oa.lt
  have cb0 := ob.q0
  have cb1 := ob.q1
  have cb2 := ob.q2
  have cb3 := ob.q3
  have lb := ob.lt
  have le := oe.lt
  go_wp2_with fail
  refine (fcheck_q _ (Fb.out.keeps keepsB)).mono ?_
  rintro e w3 ⟨rfl, hb3⟩
  have st : Steps _ w3 := hb3
  have sk : Below w2.heap.size w2 w3 := belowA st
  replace B := below_steps B (Nat.le_refl _) sk
  replace oa := oa.steps sk
  replace ob := ob.steps sk
  replace oe := oe.steps sk
  replace Fa := Hid.mk_ (Fa.out.steps sk)
  replace Fb := Hid.mk_ (Fb.out.steps sk)
  clear st sk la cb0 cb1 cb2 cb3 lb le
  go_wp2_with fail
  refine (fwant0s _).mono ?_
  rintro e w4 ⟨rfl, hb4⟩
  have st : Steps _ w4 := hb4
  have sk : Below w3.heap.size w3 w4 := belowA st
  replace B := below_steps B (Nat.le_refl _) sk
  replace oa := oa.steps sk
  replace ob := ob.steps sk
  replace oe := oe.steps sk
  replace Fa := Hid.mk_ (Fa.out.steps sk)
  replace Fb := Hid.mk_ (Fb.out.steps sk)
  clear st sk
  have ca0 := oa.q0
  have ca1 := oa.q1
  have ca2 := oa.q2
  have ca3 := oa.q3
  have la := oa.lt
  have cb0 := ob.q0
  have cb1 := ob.q1
  have cb2 := ob.q2
  have cb3 := ob.q3
  have lb := ob.lt
  have le := oe.lt
  have ze : w.heap.size + 1 + 1 < w4.heap.size := oe.lt
  have zz4 := B.size
  go_upto_region 4 with fail
  refine Reg.wp_chain_n (fun N0 D v W => Below w.heap.size w W ∧ Keeps w4 W ∧ N0 ≤ W.heap.size ∧ Blk W (w.heap.size) 28 #[.bool a1, .slice a2 a3 a4, .bool a5, .slice a6 a7 a8] ∧ Blk W (w.heap.size + 1) 28 #[.bool b1, .slice b2 b3 b4, .bool b5, .slice b6 b7 b8] ∧ ((D 10 = false → Blk W (w.heap.size + 1 + 1) 32 #[.int .i64 0]) ∧ (D 10 = true → Blk W (w.heap.size + 1 + 1) 32 #[.int .i64 0])))
    (Reg.inl [2, 5, 6, 10]) (Reg.gv [(2, IsNu), (5, IsNu), (6, fun z_ => z_ = .tuple #[.int .i64 c, .int .i64 0])]) (gw [(2, GNu (r.num * s.den)), (5, GNu (s.num * r.den))]) (fun _ => Keeps) (fun _ _ => False) (Reg.pl [(6, [(2, some 14), (5, some 17)]), (10, [(6, some 18)]), (11, [(2, some 14), (5, some 17), (6, some 18)])]) (Reg.pl [])
    (by kernel_rfl) (by kernel_rfl) (by kernel_rfl) (Reg.gv_some _ (by intro p hp; simp only [List.mem_cons, List.not_mem_nil, or_false] at hp; rcases hp with rfl | rfl | rfl <;> first | exact ⟨_, rfl⟩ | exact ⟨_, 0, rfl⟩ | exact ⟨_, none, 0, 0, rfl⟩ | exact ⟨_, false, none, 0, 0, rfl⟩ | exact ⟨_, false, none, 0, 0, false, none, 0, 0, rfl⟩)) (fun N0 hN0 => ⟨fun v => ?_, fun D v v' W hv hj => ?_, fun D v k j W W' x _ _ _ _ hk hg => gw_keeps _ (by intro p hp; simp only [List.mem_cons, List.not_mem_nil, or_false] at hp; rcases hp with rfl | rfl <;> first | exact GFr.keeps | exact GFrE.keeps | exact GNu.keeps | exact GNuE.keeps | exact GLi.keeps) hk hg, fun _ _ _ _ h => h.elim, fun ops' Q' hops hQ => ?_⟩)
  · exact ⟨belowB, keepsB, Nat.le_of_eq hN0.out, ownK, ownK, ⟨fun _ => ownK, (fun h => Bool.noConfusion h)⟩⟩
  · obtain ⟨j0, jk, jn, b_a, b_b, b_e⟩ := hj
    exact ⟨j0, jk, jn, b_a, b_b, b_e⟩
  have i_a : w.heap.size < N0 := by have e := hN0.out; (try simp only [World.size_alloc, World.size_setCell, World.size_drew, World.heap_drewN] at e); first | omega | (have h := oa.lt; omega)
  have i_b : w.heap.size + 1 < N0 := by have e := hN0.out; (try simp only [World.size_alloc, World.size_setCell, World.size_drew, World.heap_drewN] at e); first | omega | (have h := ob.lt; omega)
  have i_e : w.heap.size + 1 + 1 < N0 := by have e := hN0.out; (try simp only [World.size_alloc, World.size_setCell, World.size_drew, World.heap_drewN] at e); first | omega | (have h := oe.lt; omega)
  have iw : w.heap.size ≤ N0 := by have e := hN0.out; (try simp only [World.size_alloc, World.size_setCell, World.size_drew, World.heap_drewN] at e); first | omega | (have h := B.size; omega)
  clear ca0 ca1 ca2 ca3 la cb0 cb1 cb2 cb3 lb le
  clear hN0
  apply Reg.RC_pure (hc := rfl) (hst := rfl) (hw := rfl) (t := 12) (hd := rfl) (ht := Nat.le_of_ble_eq_true rfl)
  · intro D v' W' hc hj hf K hK
    obtain ⟨j0, jk, jn, b_a, b_b, b_e⟩ := hj
    have c0 : W'.cell? ⟨w.heap.size, 0, none⟩ = some (.bool a1) := b_a.c 0 rfl
    have c1 : W'.cell? ⟨w.heap.size, 1, none⟩ = some (.slice a2 a3 a4) := b_a.c 1 rfl
    have c2 : W'.cell? ⟨w.heap.size, 2, none⟩ = some (.bool a5) := b_a.c 2 rfl
    have c3 : W'.cell? ⟨w.heap.size, 3, none⟩ = some (.slice a6 a7 a8) := b_a.c 3 rfl
    go_step
    exact hK.out
  · rfl
  apply Reg.RC_pure (hc := rfl) (hst := rfl) (hw := rfl) (t := 13) (hd := rfl) (ht := Nat.le_of_ble_eq_true rfl)
  · intro D v' W' hc hj hf K hK
    obtain ⟨j0, jk, jn, b_a, b_b, b_e⟩ := hj
    have c0 : W'.cell? ⟨w.heap.size + 1, 0, none⟩ = some (.bool b1) := b_b.c 0 rfl
    have c1 : W'.cell? ⟨w.heap.size + 1, 1, none⟩ = some (.slice b2 b3 b4) := b_b.c 1 rfl
    have c2 : W'.cell? ⟨w.heap.size + 1, 2, none⟩ = some (.bool b5) := b_b.c 2 rfl
    have c3 : W'.cell? ⟨w.heap.size + 1, 3, none⟩ = some (.slice b6 b7 b8) := b_b.c 3 rfl
    go_step
    exact hK.out
  · rfl
  refine Reg.RC_call rfl (by intro t ht; cases ht; exact Nat.le_of_ble_eq_true rfl) rfl (fun D v' W' hc hj hf K hK => ?_) ?_
  · obtain ⟨j0, jk, jn, b_a, b_b, b_e⟩ := hj
    clear hf
    go_step
    refine (cr1 W' _ _ (Fa.out.keeps jk) (Fb.out.keeps jk)).mono ?_
    rintro e W2 ⟨u, rfl, hu, hs⟩
    obtain ⟨x1, x2, x3, x4, rfl⟩ := hu.shape
    exact hK.out _ W2 (Keeps.steps hs) ⟨below_steps j0 (Nat.le_refl _) hs, jk.then_ hs, Nat.le_trans jn hs.size, b_a.steps hs, b_b.steps hs, ⟨fun h => (b_e.1 h).steps hs, fun h => (b_e.2 h).steps hs⟩⟩ hu ⟨_, _, _, _, rfl⟩
  rintro _ ⟨x1, x2, x3, x4, rfl⟩
  refine Reg.RC_at (b := ⟨#[_,_,_,_,_,_,_,_,_,_,_,_,_,_,_,_,_,_,_,_,_], _⟩) rfl ?_
  apply Reg.RC_pure (hc := rfl) (hst := rfl) (hw := rfl) (t := 15) (hd := rfl) (ht := Nat.le_of_ble_eq_true rfl)
  · intro D v' W' hc hj hf K hK
    obtain ⟨j0, jk, jn, b_a, b_b, b_e⟩ := hj
    have c0 : W'.cell? ⟨w.heap.size + 1, 0, none⟩ = some (.bool b1) := b_b.c 0 rfl
    have c1 : W'.cell? ⟨w.heap.size + 1, 1, none⟩ = some (.slice b2 b3 b4) := b_b.c 1 rfl
    have c2 : W'.cell? ⟨w.heap.size + 1, 2, none⟩ = some (.bool b5) := b_b.c 2 rfl
    have c3 : W'.cell? ⟨w.heap.size + 1, 3, none⟩ = some (.slice b6 b7 b8) := b_b.c 3 rfl
    go_step
    exact hK.out
  · rfl
  apply Reg.RC_pure (hc := rfl) (hst := rfl) (hw := rfl) (t := 16) (hd := rfl) (ht := Nat.le_of_ble_eq_true rfl)
  · intro D v' W' hc hj hf K hK
    obtain ⟨j0, jk, jn, b_a, b_b, b_e⟩ := hj
    have c0 : W'.cell? ⟨w.heap.size, 0, none⟩ = some (.bool a1) := b_a.c 0 rfl
    have c1 : W'.cell? ⟨w.heap.size, 1, none⟩ = some (.slice a2 a3 a4) := b_a.c 1 rfl
    have c2 : W'.cell? ⟨w.heap.size, 2, none⟩ = some (.bool a5) := b_a.c 2 rfl
    have c3 : W'.cell? ⟨w.heap.size, 3, none⟩ = some (.slice a6 a7 a8) := b_a.c 3 rfl
    go_step
    exact hK.out
  · rfl
  refine Reg.RC_call rfl (by intro t ht; cases ht; exact Nat.le_of_ble_eq_true rfl) rfl (fun D v' W' hc hj hf K hK => ?_) ?_
  · obtain ⟨j0, jk, jn, b_a, b_b, b_e⟩ := hj
    clear hf
    go_step
    refine (cr2 W' _ _ (Fb.out.keeps jk) (Fa.out.keeps jk)).mono ?_
    rintro e W2 ⟨u, rfl, hu, hs⟩
    obtain ⟨y1, y2, y3, y4, rfl⟩ := hu.shape
    exact hK.out _ W2 (Keeps.steps hs) ⟨below_steps j0 (Nat.le_refl _) hs, jk.then_ hs, Nat.le_trans jn hs.size, b_a.steps hs, b_b.steps hs, ⟨fun h => (b_e.1 h).steps hs, fun h => (b_e.2 h).steps hs⟩⟩ hu ⟨_, _, _, _, rfl⟩
  rintro _ ⟨y1, y2, y3, y4, rfl⟩
  refine Reg.RC_at (b := ⟨#[_,_,_,_,_,_,_,_,_,_,_,_,_,_,_,_,_,_,_,_,_], _⟩) rfl ?_
  refine Reg.RC_call rfl (by intro t ht; cases ht; exact Nat.le_of_ble_eq_true rfl) rfl (fun D v' W' hc hj hf K hK => ?_) ?_
  · obtain ⟨j0, jk, jn, b_a, b_b, b_e⟩ := hj
    have g2 : GNu (r.num * s.den) _ W' := (hf (2, some 14) (.head _) rfl).2.2
    have g2 : Num W' _ (r.num * s.den) := g2
    have g5 : GNu (s.num * r.den) _ W' := (hf (5, some 17) (.tail _ (.head _)) rfl).2.2
    have g5 : Num W' _ (s.num * r.den) := g5
    clear hf
    go_step
    refine (cm W' _ _ g2 g5).mono ?_
    rintro e W2 ⟨rfl, hs⟩
    exact hK.out _ W2 (Keeps.steps hs) ⟨below_steps j0 (Nat.le_refl _) hs, jk.then_ hs, Nat.le_trans jn hs.size, b_a.steps hs, b_b.steps hs, ⟨fun h => (b_e.1 h).steps hs, fun h => (b_e.2 h).steps hs⟩⟩ trivial rfl
  rintro _ rfl
  refine Reg.RC_at (b := ⟨#[_,_,_,_,_,_,_,_,_,_,_,_,_,_,_,_,_,_,_,_,_], _⟩) rfl ?_
  apply Reg.RC_pure (hc := rfl) (hst := rfl) (hw := rfl) (t := 19) (hd := rfl) (ht := Nat.le_of_ble_eq_true rfl)
  · intro D v' W' hc hj hf K hK
    go_step
    exact hK.out
  · rfl
  apply Reg.RC_pure (hc := rfl) (hst := rfl) (hw := rfl) (t := 20) (hd := rfl) (ht := Nat.le_of_ble_eq_true rfl)
  · intro D v' W' hc hj hf K hK
    go_step
    exact hK.out
  · rfl
  apply Reg.RC_pure (hc := rfl) (hst := rfl) (hw := rfl) (t := 4) (hd := rfl) (ht := Nat.le_of_ble_eq_true rfl)
  · intro D v' W' hc hj hf K hK
    go_step
    exact hK.out
  · rfl
  refine Reg.RC_call rfl (by intro t ht; cases ht) rfl (fun D v' W' hc hj hf K hK => ?_) (fun _ _ => Reg.RC_at (b := ⟨_, _⟩) rfl ?_)
  · obtain ⟨j0, jk, jn, b_a, b_b, b_e⟩ := hj
    have hb := b_e.1 hc.1
    have e2 : w.heap.size ≤ w.heap.size + 1 + 1 := by omega
    have ff := hb.fr
    have cc0 : W'.cell? ⟨w.heap.size + 1 + 1, 0, none⟩ = some (.int .i64 0) := hb.c 0 rfl
    go_step
    exact hK.out undef _ (Keeps.only hb rfl ((Only.refl _ _).set)) ⟨(Below.setCell (p := ⟨w.heap.size + 1 + 1, 0, none⟩) j0 (by show w.heap.size ≤ w.heap.size + 1 + 1; omega) _), jk.trans (Keeps.only hb rfl ((Only.refl _ _).set)), by simpa using jn, (b_a).far' (show w.heap.size ≠ w.heap.size + 1 + 1 by omega), (b_b).far' (show w.heap.size + 1 ≠ w.heap.size + 1 + 1 by omega), ⟨fun h => Bool.noConfusion h, fun _ => (Blk.set2 (cs' := #[.int .i64 0]) hb (i := 0) rfl)⟩⟩ trivial trivial
  refine Reg.RC_end (fun Dn v' w5 hd hj hf => ?_)
  obtain ⟨j0, jk, jn, b_a, b_b, b_e⟩ := hj
  have B := j0
  have oa := b_a
  clear b_a
  have ob := b_b
  clear b_b
  have oe := b_e.2 (hd 10 (Nat.le_of_ble_eq_true rfl))
  clear b_e
  replace Fa := Hid.mk_ (Fa.out.keeps jk)
  replace Fb := Hid.mk_ (Fb.out.keeps jk)
  clear hd hf jk j0
  refine hQ _ _ ?_
  clear hQ hops Q' ops'
  have la := oa.lt
  have lb := ob.lt
  have ce0 := oe.q0
  have le := oe.lt
  go_wp2_with fail
  refine leaves_cons (f := 70) (args := #[.pointer (some ⟨w.heap.size + 1 + 1, 0, none⟩)]) (by simp) (by simp [go_sem]) ?_
  refine (fcatch_idle _ _).mono ?_
  rintro e u' w'' ⟨rfl, rfl, rfl⟩
  refine ⟨_, by simp [results, Try.results42, go_sem, la, lb, ce0, le]; rfl, ?_⟩
  exact ⟨rfl, belowB⟩
end Go.Proofs.Ytibdehlmflaodaa
