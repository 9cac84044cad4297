import Derived.Test.YtibdehlmflaodaaCQp
namespace Go.Proofs.Ytibdehlmflaodaa
open Go.RowKit
def kA (a : Arr) (i : Nat) : Int := match i with | 0 => a.k0 | 1 => a.k1 | 2 => a.k2 | _ => a.k3
def cA (a : Arr) (i : Nat) : Int := match i with | 0 => a.a1 | 1 => a.a2 | 2 => a.b1 | _ => a.b2
def rA (a : Arr) (i : Nat) : Rat := (cA a i : Rat) / (a.n : Rat)
def IsFF (x : Value) : Prop := ∃ u v, IsFr u ∧ IsFr v ∧ x = .tuple #[u, v]
def GFF (r s : Rat) (x : Value) (W : World) : Prop := ∃ u v, x = .tuple #[u, v] ∧ FR W u r ∧ FR W v s
theorem GFF.keeps {r s : Rat} (x : Value) (W W' : World) (k : Keeps W W') (h : GFF r s x W) : GFF r s x W' := by obtain ⟨u, v, e, h1, h2⟩ := h; exact ⟨u, v, e, h1.keeps k, h2.keeps k⟩
theorem GFF.get {r s : Rat} {u v : Value} {W : World} (h : GFF r s (.tuple #[u, v]) W) : FR W u r ∧ FR W v s := by
  obtain ⟨u', v', e, h1, h2⟩ := h
  simp only [Value.tuple.injEq, Array.mk.injEq, List.cons.injEq, and_true] at e
  obtain ⟨rfl, rfl⟩ := e
  exact ⟨h1, h2⟩
theorem tup2 {x y x' y' : Array Value} (h : Value.tuple #[.agg x, .agg y] = .tuple #[.agg x', .agg y']) : x = x' ∧ y = y' := by
  simp only [Value.tuple.injEq, Value.agg.injEq, Array.mk.injEq, List.cons.injEq, and_true] at h
  exact h
set_option maxHeartbeats 6400000 in
set_option maxRecDepth 1000000 in
theorem rarr0 {ao : Option Addr} {cap len : Nat} (a b c d b0 o0 : Nat) (xa ya xb yb xc yc xd yd : Int) (r1 r2 r3 r4 : Rat) (w : World) (hlen : len ≤ cap) (e0 : ao = some ⟨b0, o0, none⟩) (hb0 : b0 < w.heap.size) (ha : a < len) (hb : b < len) (hc : c < len) (hd : d < len)
    (ca0 : w.cell? ⟨b0, o0 + a * 2, none⟩ = some (.int .i64 xa)) (ca1 : w.cell? ⟨b0, o0 + a * 2 + 1, none⟩ = some (.int .i64 ya)) (cb0 : w.cell? ⟨b0, o0 + b * 2, none⟩ = some (.int .i64 xb)) (cb1 : w.cell? ⟨b0, o0 + b * 2 + 1, none⟩ = some (.int .i64 yb))
    (cc0 : w.cell? ⟨b0, o0 + c * 2, none⟩ = some (.int .i64 xc)) (cc1 : w.cell? ⟨b0, o0 + c * 2 + 1, none⟩ = some (.int .i64 yc)) (cd0 : w.cell? ⟨b0, o0 + d * 2, none⟩ = some (.int .i64 xd)) (cd1 : w.cell? ⟨b0, o0 + d * 2 + 1, none⟩ = some (.int .i64 yd))
    (q1 : ∀ w', Calls Try.prog 90 #[.agg #[.int .i64 xa, .int .i64 ya], .agg #[.int .i64 xb, .int .i64 yb], .agg #[.int .i64 xc, .int .i64 yc]] w' fun e w2 => ∃ u v, e = .returned (.tuple #[u, v]) ∧ FR w2 u r1 ∧ FR w2 v r2 ∧ Steps w' w2)
    (q2 : ∀ w', Calls Try.prog 90 #[.agg #[.int .i64 xa, .int .i64 ya], .agg #[.int .i64 xb, .int .i64 yb], .agg #[.int .i64 xd, .int .i64 yd]] w' fun e w2 => ∃ u v, e = .returned (.tuple #[u, v]) ∧ FR w2 u r3 ∧ FR w2 v r4 ∧ Steps w' w2) :
    Calls Try.prog 60 #[.slice ao len cap, .agg #[.int .i64 a, .int .i64 b, .int .i64 c, .int .i64 d]] w fun e w' => ∃ u1 u2 u3 u4 u5 u6 u7 u8 v1 v2 v3 v4 v5 v6 v7 v8 s1 s2 s3 s4 s5 s6 s7 s8 t1 t2 t3 t4 t5 t6 t7 t8, e = .returned (.agg #[.int .i64 a, .int .i64 b, .int .i64 c, .int .i64 d, .bool u1, .slice u2 u3 u4, .bool u5, .slice u6 u7 u8, .bool v1, .slice v2 v3 v4, .bool v5, .slice v6 v7 v8, .bool s1, .slice s2 s3 s4, .bool s5, .slice s6 s7 s8, .bool t1, .slice t2 t3 t4, .bool t5, .slice t6 t7 t8]) ∧ (FR w' (.agg #[.bool u1, .slice u2 u3 u4, .bool u5, .slice u6 u7 u8]) r1 ∧ FR w' (.agg #[.bool v1, .slice v2 v3 v4, .bool v5, .slice v6 v7 v8]) r2 ∧ FR w' (.agg #[.bool s1, .slice s2 s3 s4, .bool s5, .slice s6 s7 s8]) r3 ∧ FR w' (.agg #[.bool t1, .slice t2 t3 t4, .bool t5, .slice t6 t7 t8]) r4) ∧ Steps w w' := by
  subst e0
  go_enter Try.func60, Try.ntmps60
  go_wp2_with (first | (refine build_big rfl 31 #[(0, .tmp 6)] rfl #[.int .i64 a, .int .i64 b, .int .i64 c, .int .i64 d, .bool false, .slice none 0 0, .bool false, .slice none 0 0, .bool false, .slice none 0 0, .bool false, .slice none 0 0, .bool false, .slice none 0 0, .bool false, .slice none 0 0, .bool false, .slice none 0 0, .bool false, .slice none 0 0] (by kernel_rfl) ?_) | (refine store_big rfl 31 (.tmp 5) (.tmp 7) rfl (w.heap.size + 1 + 1) #[.int .i64 a, .int .i64 b, .int .i64 c, .int .i64 d, .bool false, .slice none 0 0, .bool false, .slice none 0 0, .bool false, .slice none 0 0, .bool false, .slice none 0 0, .bool false, .slice none 0 0, .bool false, .slice none 0 0, .bool false, .slice none 0 0, .bool false, .slice none 0 0] rfl rfl 31 #[.int .i64 0, .int .i64 0, .int .i64 0, .int .i64 0, .bool false, .slice none 0 0, .bool false, .slice none 0 0, .bool false, .slice none 0 0, .bool false, .slice none 0 0, .bool false, .slice none 0 0, .bool false, .slice none 0 0, .bool false, .slice none 0 0, .bool false, .slice none 0 0] ownK (by kernel_rfl) rfl (by simp [Value.oneCell']) (fun w1 rr => ?_)))
  have B : Below w.heap.size w w1 := rr.below belowB (by omega)
  have oa : Blk w1 (w.heap.size) 23 #[.int .i64 a, .int .i64 b, .int .i64 c, .int .i64 d] := rr.far ownK (by omega)
  have or : Blk w1 (w.heap.size + 1) 31 #[.int .i64 0, .int .i64 0, .int .i64 0, .int .i64 0, .bool false, .slice none 0 0, .bool false, .slice none 0 0, .bool false, .slice none 0 0, .bool false, .slice none 0 0, .bool false, .slice none 0 0, .bool false, .slice none 0 0, .bool false, .slice none 0 0, .bool false, .slice none 0 0] := rr.far ownK (by omega)
  have oq : Blk w1 (w.heap.size + 1 + 1) 31 #[.int .i64 a, .int .i64 b, .int .i64 c, .int .i64 d, .bool false, .slice none 0 0, .bool false, .slice none 0 0, .bool false, .slice none 0 0, .bool false, .slice none 0 0, .bool false, .slice none 0 0, .bool false, .slice none 0 0, .bool false, .slice none 0 0, .bool false, .slice none 0 0] := rr.blk
  clear rr
  refine Reg.wp_chain (fun D v W => Below w.heap.size w W ∧ Keeps w1 W ∧ Blk W (w.heap.size) 23 #[.int .i64 a, .int .i64 b, .int .i64 c, .int .i64 d] ∧ Blk W (w.heap.size + 1) 31 #[.int .i64 0, .int .i64 0, .int .i64 0, .int .i64 0, .bool false, .slice none 0 0, .bool false, .slice none 0 0, .bool false, .slice none 0 0, .bool false, .slice none 0 0, .bool false, .slice none 0 0, .bool false, .slice none 0 0, .bool false, .slice none 0 0, .bool false, .slice none 0 0] ∧ ∃ x y : Array Value, (D 15 = true → v 15 = .tuple #[.agg x, .agg y]) ∧ Blk W (w.heap.size + 1 + 1) 31 #[.int .i64 a, .int .i64 b, .int .i64 c, .int .i64 d, Reg.sel (D 21) (.bool false) (x.getD 0 undef), Reg.sel (D 21) (.slice none 0 0) (x.getD 1 undef), Reg.sel (D 21) (.bool false) (x.getD 2 undef), Reg.sel (D 21) (.slice none 0 0) (x.getD 3 undef), Reg.sel (D 24) (.bool false) (y.getD 0 undef), Reg.sel (D 24) (.slice none 0 0) (y.getD 1 undef), Reg.sel (D 24) (.bool false) (y.getD 2 undef), Reg.sel (D 24) (.slice none 0 0) (y.getD 3 undef), .bool false, .slice none 0 0, .bool false, .slice none 0 0, .bool false, .slice none 0 0, .bool false, .slice none 0 0]) (Reg.inl [15, 21, 24]) (Reg.gv [(15, IsFF)]) (gw [(15, GFF (r1) (r2))]) (fun _ => Keeps) (fun _ _ => False) (Reg.pl [(21, [(15, some 24)]), (24, [(15, some 24)]), (25, [(15, some 24)])]) (Reg.pl [(15, [21, 24]), (21, [24])])
    (by kernel_rfl) (by kernel_rfl) (by kernel_rfl) (Reg.gv_some _ (by intro p hp; simp only [List.mem_cons, List.not_mem_nil, or_false] at hp; rcases hp with rfl; exact ⟨_, _, _, ⟨false, none, 0, 0, false, none, 0, 0, rfl⟩, ⟨false, none, 0, 0, false, none, 0, 0, rfl⟩, rfl⟩))
    (fun _ => ⟨belowB, keepsB, ownK, ownK, #[], #[], (fun h => by cases h), (show Blk _ _ _ #[.int .i64 a, .int .i64 b, .int .i64 c, .int .i64 d, .bool false, .slice none 0 0, .bool false, .slice none 0 0, .bool false, .slice none 0 0, .bool false, .slice none 0 0, .bool false, .slice none 0 0, .bool false, .slice none 0 0, .bool false, .slice none 0 0, .bool false, .slice none 0 0] from ownK)⟩)
    (fun D v v' W hv hj => by obtain ⟨j0, jk, oa, or, x, y, h, oq⟩ := hj; exact ⟨j0, jk, oa, or, x, y, fun hd => (hv 15 hd) ▸ h hd, oq⟩)
    (fun _ _ _ _ _ _ _ _ _ _ _ hk hg => gw_keeps _ (by intro p hp; simp only [List.mem_cons, List.not_mem_nil, or_false] at hp; rcases hp with rfl; exact GFF.keeps) hk hg) (fun _ _ _ _ h => h.elim) (fun ops' Q' hops hQ => ?_)
  clear B oa or oq
  apply Reg.RC_pure (hc := rfl) (hst := rfl) (hw := rfl) (t := 9) (hd := rfl) (ht := Nat.le_of_ble_eq_true rfl)
  · intro D v W hc hj hf K' hK'
    go_step
    exact hK'.out
  · rfl
  apply Reg.RC_pure (hc := rfl) (hst := rfl) (hw := rfl) (t := 10) (hd := rfl) (ht := Nat.le_of_ble_eq_true rfl)
  · intro D v W hc hj hf K' hK'
    go_step
    exact hK'.out
  · rfl
  apply Reg.RC_pure (hc := rfl) (hst := rfl) (hw := rfl) (t := 11) (hd := rfl) (ht := Nat.le_of_ble_eq_true rfl)
  · intro D v W hc hj hf K' hK'
    obtain ⟨j0, jk, oa, or, x, y, hv, oq⟩ := hj
    have c0 := oa.q0
    go_step
    exact hK'.out
  · rfl
  apply Reg.RC_pure (hc := rfl) (hst := rfl) (hw := rfl) (t := 12) (hd := rfl) (ht := Nat.le_of_ble_eq_true rfl)
  · intro D v W hc hj hf K' hK'
    go_step
    exact hK'.out
  · rfl
  apply Reg.RC_pure (hc := rfl) (hst := rfl) (hw := rfl) (t := 13) (hd := rfl) (ht := Nat.le_of_ble_eq_true rfl)
  · intro D v W hc hj hf K' hK'
    obtain ⟨j0, jk, oa, or, x, y, hv, oq⟩ := hj
    have c0 : World.cell? W ⟨b0, o0 + a * 2, none⟩ = _ := (j0.cell (p := ⟨b0, o0 + a * 2, none⟩) hb0).trans ca0
    have c1 : World.cell? W ⟨b0, o0 + a * 2 + 1, none⟩ = _ := (j0.cell (p := ⟨b0, o0 + a * 2 + 1, none⟩) hb0).trans ca1
    go_step
    exact hK'.out
  · rfl
  apply Reg.RC_pure (hc := rfl) (hst := rfl) (hw := rfl) (t := 14) (hd := rfl) (ht := Nat.le_of_ble_eq_true rfl)
  · intro D v W hc hj hf K' hK'
    go_step
    exact hK'.out
  · rfl
  apply Reg.RC_pure (hc := rfl) (hst := rfl) (hw := rfl) (t := 15) (hd := rfl) (ht := Nat.le_of_ble_eq_true rfl)
  · intro D v W hc hj hf K' hK'
    go_step
    exact hK'.out
  · rfl
  apply Reg.RC_pure (hc := rfl) (hst := rfl) (hw := rfl) (t := 16) (hd := rfl) (ht := Nat.le_of_ble_eq_true rfl)
  · intro D v W hc hj hf K' hK'
    obtain ⟨j0, jk, oa, or, x, y, hv, oq⟩ := hj
    have c0 := oa.q1
    go_step
    exact hK'.out
  · rfl
  apply Reg.RC_pure (hc := rfl) (hst := rfl) (hw := rfl) (t := 17) (hd := rfl) (ht := Nat.le_of_ble_eq_true rfl)
  · intro D v W hc hj hf K' hK'
    go_step
    exact hK'.out
  · rfl
  apply Reg.RC_pure (hc := rfl) (hst := rfl) (hw := rfl) (t := 18) (hd := rfl) (ht := Nat.le_of_ble_eq_true rfl)
  · intro D v W hc hj hf K' hK'
    obtain ⟨j0, jk, oa, or, x, y, hv, oq⟩ := hj
    have c0 : World.cell? W ⟨b0, o0 + b * 2, none⟩ = _ := (j0.cell (p := ⟨b0, o0 + b * 2, none⟩) hb0).trans cb0
    have c1 : World.cell? W ⟨b0, o0 + b * 2 + 1, none⟩ = _ := (j0.cell (p := ⟨b0, o0 + b * 2 + 1, none⟩) hb0).trans cb1
    go_step
    exact hK'.out
  · rfl
  apply Reg.RC_pure (hc := rfl) (hst := rfl) (hw := rfl) (t := 19) (hd := rfl) (ht := Nat.le_of_ble_eq_true rfl)
  · intro D v W hc hj hf K' hK'
    go_step
    exact hK'.out
  · rfl
  apply Reg.RC_pure (hc := rfl) (hst := rfl) (hw := rfl) (t := 20) (hd := rfl) (ht := Nat.le_of_ble_eq_true rfl)
  · intro D v W hc hj hf K' hK'
    go_step
    exact hK'.out
  · rfl
  apply Reg.RC_pure (hc := rfl) (hst := rfl) (hw := rfl) (t := 21) (hd := rfl) (ht := Nat.le_of_ble_eq_true rfl)
  · intro D v W hc hj hf K' hK'
    obtain ⟨j0, jk, oa, or, x, y, hv, oq⟩ := hj
    have c0 := oa.q2
    go_step
    exact hK'.out
  · rfl
  apply Reg.RC_pure (hc := rfl) (hst := rfl) (hw := rfl) (t := 22) (hd := rfl) (ht := Nat.le_of_ble_eq_true rfl)
  · intro D v W hc hj hf K' hK'
    go_step
    exact hK'.out
  · rfl
  apply Reg.RC_pure (hc := rfl) (hst := rfl) (hw := rfl) (t := 23) (hd := rfl) (ht := Nat.le_of_ble_eq_true rfl)
  · intro D v W hc hj hf K' hK'
    obtain ⟨j0, jk, oa, or, x, y, hv, oq⟩ := hj
    have c0 : World.cell? W ⟨b0, o0 + c * 2, none⟩ = _ := (j0.cell (p := ⟨b0, o0 + c * 2, none⟩) hb0).trans cc0
    have c1 : World.cell? W ⟨b0, o0 + c * 2 + 1, none⟩ = _ := (j0.cell (p := ⟨b0, o0 + c * 2 + 1, none⟩) hb0).trans cc1
    go_step
    exact hK'.out
  · rfl
  refine Reg.RC_call rfl (by intro t ht; cases ht; exact Nat.le_of_ble_eq_true rfl) rfl (fun D v W hc hj hf K' hK' => ?_) ?_
  · obtain ⟨j0, jk, oa, or, x, y, hv, oq⟩ := hj
    have hs1 : D 21 = false := hc.2 21 (by decide)
    have hs2 : D 24 = false := hc.2 24 (by decide)
    simp only [hs1, hs2, Reg.sel_false] at oq
    go_step
    refine (q1 _).mono ?_
    rintro e W2 ⟨uu, vv, rfl, hu, hv2, hs⟩
    obtain ⟨u1, u2, u3, u4, u5, u6, u7, u8, rfl⟩ := hu.shape
    obtain ⟨v1, v2, v3, v4, v5, v6, v7, v8, rfl⟩ := hv2.shape
    exact hK'.out _ W2 (Keeps.steps hs) ⟨below_steps j0 (Nat.le_refl _) hs, jk.then_ hs, oa.steps hs, or.steps hs, #[.bool u1, .slice u2 u3 u4, .bool u5, .slice u6 u7 u8], #[.bool v1, .slice v2 v3 v4, .bool v5, .slice v6 v7 v8], fun _ => rfl, (by show Blk _ _ _ #[.int .i64 a, .int .i64 b, .int .i64 c, .int .i64 d, Reg.sel (D 21) (.bool false) (.bool u1), Reg.sel (D 21) (.slice none 0 0) (.slice u2 u3 u4), Reg.sel (D 21) (.bool false) (.bool u5), Reg.sel (D 21) (.slice none 0 0) (.slice u6 u7 u8), Reg.sel (D 24) (.bool false) (.bool v1), Reg.sel (D 24) (.slice none 0 0) (.slice v2 v3 v4), Reg.sel (D 24) (.bool false) (.bool v5), Reg.sel (D 24) (.slice none 0 0) (.slice v6 v7 v8), .bool false, .slice none 0 0, .bool false, .slice none 0 0, .bool false, .slice none 0 0, .bool false, .slice none 0 0]; simp only [hs1, hs2, Reg.sel_false]; exact oq.steps hs)⟩ ⟨_, _, rfl, hu, hv2⟩ ⟨_, _, ⟨_, _, _, _, _, _, _, _, rfl⟩, ⟨_, _, _, _, _, _, _, _, rfl⟩, rfl⟩
  rintro _ ⟨_, _, ⟨u1, u2, u3, u4, u5, u6, u7, u8, rfl⟩, ⟨v1, v2, v3, v4, v5, v6, v7, v8, rfl⟩, rfl⟩
  refine Reg.RC_at (b := ⟨#[_,_,_,_,_,_,_,_,_,_,_,_,_,_,_,_,_,_,_,_,_,_,_,_,_,_,_,_,_,_,_,_,_,_,_,_,_,_,_,_,_,_,_,_,_,_,_,_,_,_,_,_,_,_,_], _⟩) rfl ?_
  apply Reg.RC_pure (hc := rfl) (hst := rfl) (hw := rfl) (t := 8) (hd := rfl) (ht := Nat.le_of_ble_eq_true rfl)
  · intro D v W hc hj hf K' hK'
    go_step
    exact hK'.out
  · rfl
  apply Reg.RC_pure (hc := rfl) (hst := rfl) (hw := rfl) (t := 25) (hd := rfl) (ht := Nat.le_of_ble_eq_true rfl)
  · intro D v W hc hj hf K' hK'
    go_step
    exact hK'.out
  · rfl
  apply Reg.RC_pure (hc := rfl) (hst := rfl) (hw := rfl) (t := 26) (hd := rfl) (ht := Nat.le_of_ble_eq_true rfl)
  · intro D v W hc hj hf K' hK'
    go_step
    exact hK'.out
  · rfl
  apply Reg.RC_pure (hc := rfl) (hst := rfl) (hw := rfl) (t := 27) (hd := rfl) (ht := Nat.le_of_ble_eq_true rfl)
  · intro D v W hc hj hf K' hK'
    go_step
    exact hK'.out
  · rfl
  apply Reg.RC_pure (hc := rfl) (hst := rfl) (hw := rfl) (t := 28) (hd := rfl) (ht := Nat.le_of_ble_eq_true rfl)
  · intro D v W hc hj hf K' hK'
    go_step
    exact hK'.out
  · rfl
  refine Reg.RC_call rfl (by intro t ht; cases ht) rfl (fun D v W hc hj hf K' hK' => ?_) (fun _ _ => Reg.RC_at (b := ⟨#[_,_,_,_,_,_,_,_,_,_,_,_,_,_,_,_,_,_,_,_,_,_,_,_,_,_,_,_,_,_,_,_,_,_,_,_,_,_,_,_,_,_,_,_,_,_,_,_,_,_,_,_,_,_,_], _⟩) rfl ?_)
  · obtain ⟨j0, jk, oa, or, x, y, hv, oq⟩ := hj
    have f := hf (15, some 24) (.head _) rfl
    obtain ⟨rfl, rfl⟩ := tup2 ((hv f.1).symm.trans (f.2.1 : v 15 = .tuple #[.agg #[.bool u1, .slice u2 u3 u4, .bool u5, .slice u6 u7 u8], .agg #[.bool v1, .slice v2 v3 v4, .bool v5, .slice v6 v7 v8]]))
    replace oq : Blk W (w.heap.size + 1 + 1) 31 #[.int .i64 a, .int .i64 b, .int .i64 c, .int .i64 d, Reg.sel (D 21) (.bool false) (.bool u1), Reg.sel (D 21) (.slice none 0 0) (.slice u2 u3 u4), Reg.sel (D 21) (.bool false) (.bool u5), Reg.sel (D 21) (.slice none 0 0) (.slice u6 u7 u8), Reg.sel (D 24) (.bool false) (.bool v1), Reg.sel (D 24) (.slice none 0 0) (.slice v2 v3 v4), Reg.sel (D 24) (.bool false) (.bool v5), Reg.sel (D 24) (.slice none 0 0) (.slice v6 v7 v8), .bool false, .slice none 0 0, .bool false, .slice none 0 0, .bool false, .slice none 0 0, .bool false, .slice none 0 0] := oq
    have hs : D 21 = false := hc.1
    have hs2 : D 24 = false := hc.2 24 (by decide)
    simp only [hs, hs2, Reg.sel_false] at oq
    have c0 := oq.q4
    have c1 := oq.q5
    have c2 := oq.q6
    have c3 := oq.q7
    have fq := oq.fr
    have lq := oq.lt
    go_step
    exact hK'.out undef _ (Keeps.only oq rfl ((Only.refl _ _).set.set.set.set)) ⟨(Below.setCell (p := ⟨w.heap.size + 1 + 1, 7, none⟩) (Below.setCell (p := ⟨w.heap.size + 1 + 1, 6, none⟩) (Below.setCell (p := ⟨w.heap.size + 1 + 1, 5, none⟩) (Below.setCell (p := ⟨w.heap.size + 1 + 1, 4, none⟩) j0 (by show w.heap.size ≤ w.heap.size + 1 + 1; omega) _) (by show w.heap.size ≤ w.heap.size + 1 + 1; omega) _) (by show w.heap.size ≤ w.heap.size + 1 + 1; omega) _) (by show w.heap.size ≤ w.heap.size + 1 + 1; omega) _), jk.trans (Keeps.only oq rfl ((Only.refl _ _).set.set.set.set)), ((((oa).far' (by omega)).far' (by omega)).far' (by omega)).far' (by omega), ((((or).far' (by omega)).far' (by omega)).far' (by omega)).far' (by omega), #[.bool u1, .slice u2 u3 u4, .bool u5, .slice u6 u7 u8], #[.bool v1, .slice v2 v3 v4, .bool v5, .slice v6 v7 v8], fun _ => f.2.1, (by show Blk _ _ _ #[.int .i64 a, .int .i64 b, .int .i64 c, .int .i64 d, Reg.sel true (.bool false) (.bool u1), Reg.sel true (.slice none 0 0) (.slice u2 u3 u4), Reg.sel true (.bool false) (.bool u5), Reg.sel true (.slice none 0 0) (.slice u6 u7 u8), Reg.sel (D 24) (.bool false) (.bool v1), Reg.sel (D 24) (.slice none 0 0) (.slice v2 v3 v4), Reg.sel (D 24) (.bool false) (.bool v5), Reg.sel (D 24) (.slice none 0 0) (.slice v6 v7 v8), .bool false, .slice none 0 0, .bool false, .slice none 0 0, .bool false, .slice none 0 0, .bool false, .slice none 0 0]; simp only [hs2, Reg.sel_false, Reg.sel_true]; exact (Blk.set2 (cs' := #[.int .i64 a, .int .i64 b, .int .i64 c, .int .i64 d, .bool u1, .slice u2 u3 u4, .bool u5, .slice u6 u7 u8, .bool false, .slice none 0 0, .bool false, .slice none 0 0, .bool false, .slice none 0 0, .bool false, .slice none 0 0, .bool false, .slice none 0 0, .bool false, .slice none 0 0]) (Blk.set2 (cs' := #[.int .i64 a, .int .i64 b, .int .i64 c, .int .i64 d, .bool u1, .slice u2 u3 u4, .bool u5, .slice none 0 0, .bool false, .slice none 0 0, .bool false, .slice none 0 0, .bool false, .slice none 0 0, .bool false, .slice none 0 0, .bool false, .slice none 0 0, .bool false, .slice none 0 0]) (Blk.set2 (cs' := #[.int .i64 a, .int .i64 b, .int .i64 c, .int .i64 d, .bool u1, .slice u2 u3 u4, .bool false, .slice none 0 0, .bool false, .slice none 0 0, .bool false, .slice none 0 0, .bool false, .slice none 0 0, .bool false, .slice none 0 0, .bool false, .slice none 0 0, .bool false, .slice none 0 0]) (Blk.set2 (cs' := #[.int .i64 a, .int .i64 b, .int .i64 c, .int .i64 d, .bool u1, .slice none 0 0, .bool false, .slice none 0 0, .bool false, .slice none 0 0, .bool false, .slice none 0 0, .bool false, .slice none 0 0, .bool false, .slice none 0 0, .bool false, .slice none 0 0, .bool false, .slice none 0 0]) oq (i := 4) rfl) (i := 5) rfl) (i := 6) rfl) (i := 7) rfl))⟩ trivial trivial
  apply Reg.RC_pure (hc := rfl) (hst := rfl) (hw := rfl) (t := 29) (hd := rfl) (ht := Nat.le_of_ble_eq_true rfl)
  · intro D v W hc hj hf K' hK'
    go_step
    exact hK'.out
  · rfl
  apply Reg.RC_pure (hc := rfl) (hst := rfl) (hw := rfl) (t := 30) (hd := rfl) (ht := Nat.le_of_ble_eq_true rfl)
  · intro D v W hc hj hf K' hK'
    go_step
    exact hK'.out
  · rfl
  refine Reg.RC_call rfl (by intro t ht; cases ht) rfl (fun D v W hc hj hf K' hK' => ?_) (fun _ _ => Reg.RC_at (b := ⟨#[_,_,_,_,_,_,_,_,_,_,_,_,_,_,_,_,_,_,_,_,_,_,_,_,_,_,_,_,_,_,_,_,_,_,_,_,_,_,_,_,_,_,_,_,_,_,_,_,_,_,_,_,_,_,_], _⟩) rfl ?_)
  · obtain ⟨j0, jk, oa, or, x, y, hv, oq⟩ := hj
    have f := hf (15, some 24) (.head _) rfl
    obtain ⟨rfl, rfl⟩ := tup2 ((hv f.1).symm.trans (f.2.1 : v 15 = .tuple #[.agg #[.bool u1, .slice u2 u3 u4, .bool u5, .slice u6 u7 u8], .agg #[.bool v1, .slice v2 v3 v4, .bool v5, .slice v6 v7 v8]]))
    replace oq : Blk W (w.heap.size + 1 + 1) 31 #[.int .i64 a, .int .i64 b, .int .i64 c, .int .i64 d, Reg.sel (D 21) (.bool false) (.bool u1), Reg.sel (D 21) (.slice none 0 0) (.slice u2 u3 u4), Reg.sel (D 21) (.bool false) (.bool u5), Reg.sel (D 21) (.slice none 0 0) (.slice u6 u7 u8), Reg.sel (D 24) (.bool false) (.bool v1), Reg.sel (D 24) (.slice none 0 0) (.slice v2 v3 v4), Reg.sel (D 24) (.bool false) (.bool v5), Reg.sel (D 24) (.slice none 0 0) (.slice v6 v7 v8), .bool false, .slice none 0 0, .bool false, .slice none 0 0, .bool false, .slice none 0 0, .bool false, .slice none 0 0] := oq
    have hs : D 24 = false := hc.1
    simp only [hs, Reg.sel_false] at oq
    have c0 := oq.q8
    have c1 := oq.q9
    have c2 := oq.q10
    have c3 := oq.q11
    have fq := oq.fr
    have lq := oq.lt
    go_step
    exact hK'.out undef _ (Keeps.only (cs := #[.int .i64 a, .int .i64 b, .int .i64 c, .int .i64 d, Reg.sel (D 21) (.bool false) (.bool u1), Reg.sel (D 21) (.slice none 0 0) (.slice u2 u3 u4), Reg.sel (D 21) (.bool false) (.bool u5), Reg.sel (D 21) (.slice none 0 0) (.slice u6 u7 u8), .bool false, .slice none 0 0, .bool false, .slice none 0 0, .bool false, .slice none 0 0, .bool false, .slice none 0 0, .bool false, .slice none 0 0, .bool false, .slice none 0 0]) oq (by cases D 21 <;> rfl) ((Only.refl _ _).set.set.set.set)) ⟨(Below.setCell (p := ⟨w.heap.size + 1 + 1, 11, none⟩) (Below.setCell (p := ⟨w.heap.size + 1 + 1, 10, none⟩) (Below.setCell (p := ⟨w.heap.size + 1 + 1, 9, none⟩) (Below.setCell (p := ⟨w.heap.size + 1 + 1, 8, none⟩) j0 (by show w.heap.size ≤ w.heap.size + 1 + 1; omega) _) (by show w.heap.size ≤ w.heap.size + 1 + 1; omega) _) (by show w.heap.size ≤ w.heap.size + 1 + 1; omega) _) (by show w.heap.size ≤ w.heap.size + 1 + 1; omega) _), jk.trans (Keeps.only (cs := #[.int .i64 a, .int .i64 b, .int .i64 c, .int .i64 d, Reg.sel (D 21) (.bool false) (.bool u1), Reg.sel (D 21) (.slice none 0 0) (.slice u2 u3 u4), Reg.sel (D 21) (.bool false) (.bool u5), Reg.sel (D 21) (.slice none 0 0) (.slice u6 u7 u8), .bool false, .slice none 0 0, .bool false, .slice none 0 0, .bool false, .slice none 0 0, .bool false, .slice none 0 0, .bool false, .slice none 0 0, .bool false, .slice none 0 0]) oq (by cases D 21 <;> rfl) ((Only.refl _ _).set.set.set.set)), ((((oa).far' (by omega)).far' (by omega)).far' (by omega)).far' (by omega), ((((or).far' (by omega)).far' (by omega)).far' (by omega)).far' (by omega), #[.bool u1, .slice u2 u3 u4, .bool u5, .slice u6 u7 u8], #[.bool v1, .slice v2 v3 v4, .bool v5, .slice v6 v7 v8], fun _ => f.2.1, (by show Blk _ _ _ #[.int .i64 a, .int .i64 b, .int .i64 c, .int .i64 d, Reg.sel (D 21) (.bool false) (.bool u1), Reg.sel (D 21) (.slice none 0 0) (.slice u2 u3 u4), Reg.sel (D 21) (.bool false) (.bool u5), Reg.sel (D 21) (.slice none 0 0) (.slice u6 u7 u8), Reg.sel true (.bool false) (.bool v1), Reg.sel true (.slice none 0 0) (.slice v2 v3 v4), Reg.sel true (.bool false) (.bool v5), Reg.sel true (.slice none 0 0) (.slice v6 v7 v8), .bool false, .slice none 0 0, .bool false, .slice none 0 0, .bool false, .slice none 0 0, .bool false, .slice none 0 0]; simp only [Reg.sel_true]; exact (Blk.set2 (cs' := #[.int .i64 a, .int .i64 b, .int .i64 c, .int .i64 d, Reg.sel (D 21) (.bool false) (.bool u1), Reg.sel (D 21) (.slice none 0 0) (.slice u2 u3 u4), Reg.sel (D 21) (.bool false) (.bool u5), Reg.sel (D 21) (.slice none 0 0) (.slice u6 u7 u8), .bool v1, .slice v2 v3 v4, .bool v5, .slice v6 v7 v8, .bool false, .slice none 0 0, .bool false, .slice none 0 0, .bool false, .slice none 0 0, .bool false, .slice none 0 0]) (Blk.set2 (cs' := #[.int .i64 a, .int .i64 b, .int .i64 c, .int .i64 d, Reg.sel (D 21) (.bool false) (.bool u1), Reg.sel (D 21) (.slice none 0 0) (.slice u2 u3 u4), Reg.sel (D 21) (.bool false) (.bool u5), Reg.sel (D 21) (.slice none 0 0) (.slice u6 u7 u8), .bool v1, .slice v2 v3 v4, .bool v5, .slice none 0 0, .bool false, .slice none 0 0, .bool false, .slice none 0 0, .bool false, .slice none 0 0, .bool false, .slice none 0 0]) (Blk.set2 (cs' := #[.int .i64 a, .int .i64 b, .int .i64 c, .int .i64 d, Reg.sel (D 21) (.bool false) (.bool u1), Reg.sel (D 21) (.slice none 0 0) (.slice u2 u3 u4), Reg.sel (D 21) (.bool false) (.bool u5), Reg.sel (D 21) (.slice none 0 0) (.slice u6 u7 u8), .bool v1, .slice v2 v3 v4, .bool false, .slice none 0 0, .bool false, .slice none 0 0, .bool false, .slice none 0 0, .bool false, .slice none 0 0, .bool false, .slice none 0 0]) (Blk.set2 (cs' := #[.int .i64 a, .int .i64 b, .int .i64 c, .int .i64 d, Reg.sel (D 21) (.bool false) (.bool u1), Reg.sel (D 21) (.slice none 0 0) (.slice u2 u3 u4), Reg.sel (D 21) (.bool false) (.bool u5), Reg.sel (D 21) (.slice none 0 0) (.slice u6 u7 u8), .bool v1, .slice none 0 0, .bool false, .slice none 0 0, .bool false, .slice none 0 0, .bool false, .slice none 0 0, .bool false, .slice none 0 0, .bool false, .slice none 0 0]) oq (i := 8) rfl) (i := 9) rfl) (i := 10) rfl) (i := 11) rfl))⟩ trivial trivial
  refine Reg.RC_end (fun D v w2 hd hj hf => ?_)
  obtain ⟨j0, jk, oa, or, x, y, hv, oq⟩ := hj
  have f := hf (15, some 24) (.head _) rfl
  obtain ⟨rfl, rfl⟩ := tup2 ((hv f.1).symm.trans (f.2.1 : v 15 = .tuple #[.agg #[.bool u1, .slice u2 u3 u4, .bool u5, .slice u6 u7 u8], .agg #[.bool v1, .slice v2 v3 v4, .bool v5, .slice v6 v7 v8]]))
  have hg := GFF.get (r := r1) (s := r2) (u := .agg #[.bool u1, .slice u2 u3 u4, .bool u5, .slice u6 u7 u8]) (v := .agg #[.bool v1, .slice v2 v3 v4, .bool v5, .slice v6 v7 v8]) f.2.2
  replace oq : Blk w2 (w.heap.size + 1 + 1) 31 #[.int .i64 a, .int .i64 b, .int .i64 c, .int .i64 d, Reg.sel (D 21) (.bool false) (.bool u1), Reg.sel (D 21) (.slice none 0 0) (.slice u2 u3 u4), Reg.sel (D 21) (.bool false) (.bool u5), Reg.sel (D 21) (.slice none 0 0) (.slice u6 u7 u8), Reg.sel (D 24) (.bool false) (.bool v1), Reg.sel (D 24) (.slice none 0 0) (.slice v2 v3 v4), Reg.sel (D 24) (.bool false) (.bool v5), Reg.sel (D 24) (.slice none 0 0) (.slice v6 v7 v8), .bool false, .slice none 0 0, .bool false, .slice none 0 0, .bool false, .slice none 0 0, .bool false, .slice none 0 0] := oq
  have h1 : D 21 = true := hd 21 (by decide)
  have h2 : D 24 = true := hd 24 (by decide)
  simp only [h1, h2, Reg.sel_true] at oq
  obtain ⟨Fu, Fv⟩ := hg
  have B := j0
  clear hd hf f hv h1 h2 j0
  refine hQ _ _ ?_
  clear hQ hops Q' ops'
  clear q1 jk
  repeat' (first | go_values | go_skip | go_guarded | go_step | go_upon)
  refine Reg.wp_chain (fun D v W => Below w.heap.size w W ∧ Keeps w2 W ∧ Blk W (w.heap.size) 23 #[.int .i64 a, .int .i64 b, .int .i64 c, .int .i64 d] ∧ Blk W (w.heap.size + 1) 31 #[.int .i64 0, .int .i64 0, .int .i64 0, .int .i64 0, .bool false, .slice none 0 0, .bool false, .slice none 0 0, .bool false, .slice none 0 0, .bool false, .slice none 0 0, .bool false, .slice none 0 0, .bool false, .slice none 0 0, .bool false, .slice none 0 0, .bool false, .slice none 0 0] ∧ ∃ x y : Array Value, (D 15 = true → v 15 = .tuple #[.agg x, .agg y]) ∧ Blk W (w.heap.size + 1 + 1) 31 #[.int .i64 a, .int .i64 b, .int .i64 c, .int .i64 d, .bool u1, .slice u2 u3 u4, .bool u5, .slice u6 u7 u8, .bool v1, .slice v2 v3 v4, .bool v5, .slice v6 v7 v8, Reg.sel (D 21) (.bool false) (x.getD 0 undef), Reg.sel (D 21) (.slice none 0 0) (x.getD 1 undef), Reg.sel (D 21) (.bool false) (x.getD 2 undef), Reg.sel (D 21) (.slice none 0 0) (x.getD 3 undef), Reg.sel (D 24) (.bool false) (y.getD 0 undef), Reg.sel (D 24) (.slice none 0 0) (y.getD 1 undef), Reg.sel (D 24) (.bool false) (y.getD 2 undef), Reg.sel (D 24) (.slice none 0 0) (y.getD 3 undef)]) (Reg.inl [15, 21, 24]) (Reg.gv [(15, IsFF)]) (gw [(15, GFF (r3) (r4))]) (fun _ => Keeps) (fun _ _ => False) (Reg.pl [(21, [(15, some 47)]), (24, [(15, some 47)]), (25, [(15, some 47)])]) (Reg.pl [(15, [21, 24]), (21, [24])])
    (by kernel_rfl) (by kernel_rfl) (by kernel_rfl) (Reg.gv_some _ (by intro p hp; simp only [List.mem_cons, List.not_mem_nil, or_false] at hp; rcases hp with rfl; exact ⟨_, _, _, ⟨false, none, 0, 0, false, none, 0, 0, rfl⟩, ⟨false, none, 0, 0, false, none, 0, 0, rfl⟩, rfl⟩))
    (fun _ => ⟨belowB, keepsB, ownK, ownK, #[], #[], (fun h => by cases h), (show Blk _ _ _ #[.int .i64 a, .int .i64 b, .int .i64 c, .int .i64 d, .bool u1, .slice u2 u3 u4, .bool u5, .slice u6 u7 u8, .bool v1, .slice v2 v3 v4, .bool v5, .slice v6 v7 v8, .bool false, .slice none 0 0, .bool false, .slice none 0 0, .bool false, .slice none 0 0, .bool false, .slice none 0 0] from ownK)⟩)
    (fun D v v' W hv hj => by obtain ⟨j0, jk, oa, or, x, y, h, oq⟩ := hj; exact ⟨j0, jk, oa, or, x, y, fun hd => (hv 15 hd) ▸ h hd, oq⟩)
    (fun _ _ _ _ _ _ _ _ _ _ _ hk hg => gw_keeps _ (by intro p hp; simp only [List.mem_cons, List.not_mem_nil, or_false] at hp; rcases hp with rfl; exact GFF.keeps) hk hg) (fun _ _ _ _ h => h.elim) (fun ops' Q' hops hQ => ?_)
  clear B oa or oq
  apply Reg.RC_pure (hc := rfl) (hst := rfl) (hw := rfl) (t := 32) (hd := rfl) (ht := Nat.le_of_ble_eq_true rfl)
  · intro D v W hc hj hf K' hK'
    go_step
    exact hK'.out
  · rfl
  apply Reg.RC_pure (hc := rfl) (hst := rfl) (hw := rfl) (t := 33) (hd := rfl) (ht := Nat.le_of_ble_eq_true rfl)
  · intro D v W hc hj hf K' hK'
    go_step
    exact hK'.out
  · rfl
  apply Reg.RC_pure (hc := rfl) (hst := rfl) (hw := rfl) (t := 34) (hd := rfl) (ht := Nat.le_of_ble_eq_true rfl)
  · intro D v W hc hj hf K' hK'
    obtain ⟨j0, jk, oa, or, x, y, hv, oq⟩ := hj
    have c0 := oa.q0
    go_step
    exact hK'.out
  · rfl
  apply Reg.RC_pure (hc := rfl) (hst := rfl) (hw := rfl) (t := 35) (hd := rfl) (ht := Nat.le_of_ble_eq_true rfl)
  · intro D v W hc hj hf K' hK'
    go_step
    exact hK'.out
  · rfl
  apply Reg.RC_pure (hc := rfl) (hst := rfl) (hw := rfl) (t := 36) (hd := rfl) (ht := Nat.le_of_ble_eq_true rfl)
  · intro D v W hc hj hf K' hK'
    obtain ⟨j0, jk, oa, or, x, y, hv, oq⟩ := hj
    have c0 : World.cell? W ⟨b0, o0 + a * 2, none⟩ = _ := (j0.cell (p := ⟨b0, o0 + a * 2, none⟩) hb0).trans ca0
    have c1 : World.cell? W ⟨b0, o0 + a * 2 + 1, none⟩ = _ := (j0.cell (p := ⟨b0, o0 + a * 2 + 1, none⟩) hb0).trans ca1
    go_step
    exact hK'.out
  · rfl
  apply Reg.RC_pure (hc := rfl) (hst := rfl) (hw := rfl) (t := 37) (hd := rfl) (ht := Nat.le_of_ble_eq_true rfl)
  · intro D v W hc hj hf K' hK'
    go_step
    exact hK'.out
  · rfl
  apply Reg.RC_pure (hc := rfl) (hst := rfl) (hw := rfl) (t := 38) (hd := rfl) (ht := Nat.le_of_ble_eq_true rfl)
  · intro D v W hc hj hf K' hK'
    go_step
    exact hK'.out
  · rfl
  apply Reg.RC_pure (hc := rfl) (hst := rfl) (hw := rfl) (t := 39) (hd := rfl) (ht := Nat.le_of_ble_eq_true rfl)
  · intro D v W hc hj hf K' hK'
    obtain ⟨j0, jk, oa, or, x, y, hv, oq⟩ := hj
    have c0 := oa.q1
    go_step
    exact hK'.out
  · rfl
  apply Reg.RC_pure (hc := rfl) (hst := rfl) (hw := rfl) (t := 40) (hd := rfl) (ht := Nat.le_of_ble_eq_true rfl)
  · intro D v W hc hj hf K' hK'
    go_step
    exact hK'.out
  · rfl
  apply Reg.RC_pure (hc := rfl) (hst := rfl) (hw := rfl) (t := 41) (hd := rfl) (ht := Nat.le_of_ble_eq_true rfl)
  · intro D v W hc hj hf K' hK'
    obtain ⟨j0, jk, oa, or, x, y, hv, oq⟩ := hj
    have c0 : World.cell? W ⟨b0, o0 + b * 2, none⟩ = _ := (j0.cell (p := ⟨b0, o0 + b * 2, none⟩) hb0).trans cb0
    have c1 : World.cell? W ⟨b0, o0 + b * 2 + 1, none⟩ = _ := (j0.cell (p := ⟨b0, o0 + b * 2 + 1, none⟩) hb0).trans cb1
    go_step
    exact hK'.out
  · rfl
  apply Reg.RC_pure (hc := rfl) (hst := rfl) (hw := rfl) (t := 42) (hd := rfl) (ht := Nat.le_of_ble_eq_true rfl)
  · intro D v W hc hj hf K' hK'
    go_step
    exact hK'.out
  · rfl
  apply Reg.RC_pure (hc := rfl) (hst := rfl) (hw := rfl) (t := 43) (hd := rfl) (ht := Nat.le_of_ble_eq_true rfl)
  · intro D v W hc hj hf K' hK'
    go_step
    exact hK'.out
  · rfl
  apply Reg.RC_pure (hc := rfl) (hst := rfl) (hw := rfl) (t := 44) (hd := rfl) (ht := Nat.le_of_ble_eq_true rfl)
  · intro D v W hc hj hf K' hK'
    obtain ⟨j0, jk, oa, or, x, y, hv, oq⟩ := hj
    have c0 := oa.q3
    go_step
    exact hK'.out
  · rfl
  apply Reg.RC_pure (hc := rfl) (hst := rfl) (hw := rfl) (t := 45) (hd := rfl) (ht := Nat.le_of_ble_eq_true rfl)
  · intro D v W hc hj hf K' hK'
    go_step
    exact hK'.out
  · rfl
  apply Reg.RC_pure (hc := rfl) (hst := rfl) (hw := rfl) (t := 46) (hd := rfl) (ht := Nat.le_of_ble_eq_true rfl)
  · intro D v W hc hj hf K' hK'
    obtain ⟨j0, jk, oa, or, x, y, hv, oq⟩ := hj
    have c0 : World.cell? W ⟨b0, o0 + d * 2, none⟩ = _ := (j0.cell (p := ⟨b0, o0 + d * 2, none⟩) hb0).trans cd0
    have c1 : World.cell? W ⟨b0, o0 + d * 2 + 1, none⟩ = _ := (j0.cell (p := ⟨b0, o0 + d * 2 + 1, none⟩) hb0).trans cd1
    go_step
    exact hK'.out
  · rfl
  refine Reg.RC_call rfl (by intro t ht; cases ht; exact Nat.le_of_ble_eq_true rfl) rfl (fun D v W hc hj hf K' hK' => ?_) ?_
  · obtain ⟨j0, jk, oa, or, x, y, hv, oq⟩ := hj
    have hs1 : D 21 = false := hc.2 21 (by decide)
    have hs2 : D 24 = false := hc.2 24 (by decide)
    simp only [hs1, hs2, Reg.sel_false] at oq
    go_step
    refine (q2 _).mono ?_
    rintro e W2 ⟨uu, vv, rfl, hu, hv2, hs⟩
    obtain ⟨s1, s2, s3, s4, s5, s6, s7, s8, rfl⟩ := hu.shape
    obtain ⟨t1, t2, t3, t4, t5, t6, t7, t8, rfl⟩ := hv2.shape
    exact hK'.out _ W2 (Keeps.steps hs) ⟨below_steps j0 (Nat.le_refl _) hs, jk.then_ hs, oa.steps hs, or.steps hs, #[.bool s1, .slice s2 s3 s4, .bool s5, .slice s6 s7 s8], #[.bool t1, .slice t2 t3 t4, .bool t5, .slice t6 t7 t8], fun _ => rfl, (by show Blk _ _ _ #[.int .i64 a, .int .i64 b, .int .i64 c, .int .i64 d, .bool u1, .slice u2 u3 u4, .bool u5, .slice u6 u7 u8, .bool v1, .slice v2 v3 v4, .bool v5, .slice v6 v7 v8, Reg.sel (D 21) (.bool false) (.bool s1), Reg.sel (D 21) (.slice none 0 0) (.slice s2 s3 s4), Reg.sel (D 21) (.bool false) (.bool s5), Reg.sel (D 21) (.slice none 0 0) (.slice s6 s7 s8), Reg.sel (D 24) (.bool false) (.bool t1), Reg.sel (D 24) (.slice none 0 0) (.slice t2 t3 t4), Reg.sel (D 24) (.bool false) (.bool t5), Reg.sel (D 24) (.slice none 0 0) (.slice t6 t7 t8)]; simp only [hs1, hs2, Reg.sel_false]; exact oq.steps hs)⟩ ⟨_, _, rfl, hu, hv2⟩ ⟨_, _, ⟨_, _, _, _, _, _, _, _, rfl⟩, ⟨_, _, _, _, _, _, _, _, rfl⟩, rfl⟩
  rintro _ ⟨_, _, ⟨s1, s2, s3, s4, s5, s6, s7, s8, rfl⟩, ⟨t1, t2, t3, t4, t5, t6, t7, t8, rfl⟩, rfl⟩
  refine Reg.RC_at (b := ⟨#[_,_,_,_,_,_,_,_,_,_,_,_,_,_,_,_,_,_,_,_,_,_,_,_,_,_,_,_,_,_,_,_,_,_,_,_,_,_,_,_,_,_,_,_,_,_,_,_,_,_,_,_,_,_,_], _⟩) rfl ?_
  apply Reg.RC_pure (hc := rfl) (hst := rfl) (hw := rfl) (t := 31) (hd := rfl) (ht := Nat.le_of_ble_eq_true rfl)
  · intro D v W hc hj hf K' hK'
    go_step
    exact hK'.out
  · rfl
  apply Reg.RC_pure (hc := rfl) (hst := rfl) (hw := rfl) (t := 48) (hd := rfl) (ht := Nat.le_of_ble_eq_true rfl)
  · intro D v W hc hj hf K' hK'
    go_step
    exact hK'.out
  · rfl
  apply Reg.RC_pure (hc := rfl) (hst := rfl) (hw := rfl) (t := 49) (hd := rfl) (ht := Nat.le_of_ble_eq_true rfl)
  · intro D v W hc hj hf K' hK'
    go_step
    exact hK'.out
  · rfl
  apply Reg.RC_pure (hc := rfl) (hst := rfl) (hw := rfl) (t := 50) (hd := rfl) (ht := Nat.le_of_ble_eq_true rfl)
  · intro D v W hc hj hf K' hK'
    go_step
    exact hK'.out
  · rfl
  apply Reg.RC_pure (hc := rfl) (hst := rfl) (hw := rfl) (t := 51) (hd := rfl) (ht := Nat.le_of_ble_eq_true rfl)
  · intro D v W hc hj hf K' hK'
    go_step
    exact hK'.out
  · rfl
  refine Reg.RC_call rfl (by intro t ht; cases ht) rfl (fun D v W hc hj hf K' hK' => ?_) (fun _ _ => Reg.RC_at (b := ⟨#[_,_,_,_,_,_,_,_,_,_,_,_,_,_,_,_,_,_,_,_,_,_,_,_,_,_,_,_,_,_,_,_,_,_,_,_,_,_,_,_,_,_,_,_,_,_,_,_,_,_,_,_,_,_,_], _⟩) rfl ?_)
  · obtain ⟨j0, jk, oa, or, x, y, hv, oq⟩ := hj
    have f := hf (15, some 47) (.head _) rfl
    obtain ⟨rfl, rfl⟩ := tup2 ((hv f.1).symm.trans (f.2.1 : v 15 = .tuple #[.agg #[.bool s1, .slice s2 s3 s4, .bool s5, .slice s6 s7 s8], .agg #[.bool t1, .slice t2 t3 t4, .bool t5, .slice t6 t7 t8]]))
    replace oq : Blk W (w.heap.size + 1 + 1) 31 #[.int .i64 a, .int .i64 b, .int .i64 c, .int .i64 d, .bool u1, .slice u2 u3 u4, .bool u5, .slice u6 u7 u8, .bool v1, .slice v2 v3 v4, .bool v5, .slice v6 v7 v8, Reg.sel (D 21) (.bool false) (.bool s1), Reg.sel (D 21) (.slice none 0 0) (.slice s2 s3 s4), Reg.sel (D 21) (.bool false) (.bool s5), Reg.sel (D 21) (.slice none 0 0) (.slice s6 s7 s8), Reg.sel (D 24) (.bool false) (.bool t1), Reg.sel (D 24) (.slice none 0 0) (.slice t2 t3 t4), Reg.sel (D 24) (.bool false) (.bool t5), Reg.sel (D 24) (.slice none 0 0) (.slice t6 t7 t8)] := oq
    have hs : D 21 = false := hc.1
    have hs2 : D 24 = false := hc.2 24 (by decide)
    simp only [hs, hs2, Reg.sel_false] at oq
    have c0 := oq.q12
    have c1 := oq.q13
    have c2 := oq.q14
    have c3 := oq.q15
    have fq := oq.fr
    have lq := oq.lt
    go_step
    exact hK'.out undef _ (Keeps.only oq rfl ((Only.refl _ _).set.set.set.set)) ⟨(Below.setCell (p := ⟨w.heap.size + 1 + 1, 15, none⟩) (Below.setCell (p := ⟨w.heap.size + 1 + 1, 14, none⟩) (Below.setCell (p := ⟨w.heap.size + 1 + 1, 13, none⟩) (Below.setCell (p := ⟨w.heap.size + 1 + 1, 12, none⟩) j0 (by show w.heap.size ≤ w.heap.size + 1 + 1; omega) _) (by show w.heap.size ≤ w.heap.size + 1 + 1; omega) _) (by show w.heap.size ≤ w.heap.size + 1 + 1; omega) _) (by show w.heap.size ≤ w.heap.size + 1 + 1; omega) _), jk.trans (Keeps.only oq rfl ((Only.refl _ _).set.set.set.set)), ((((oa).far' (by omega)).far' (by omega)).far' (by omega)).far' (by omega), ((((or).far' (by omega)).far' (by omega)).far' (by omega)).far' (by omega), #[.bool s1, .slice s2 s3 s4, .bool s5, .slice s6 s7 s8], #[.bool t1, .slice t2 t3 t4, .bool t5, .slice t6 t7 t8], fun _ => f.2.1, (by show Blk _ _ _ #[.int .i64 a, .int .i64 b, .int .i64 c, .int .i64 d, .bool u1, .slice u2 u3 u4, .bool u5, .slice u6 u7 u8, .bool v1, .slice v2 v3 v4, .bool v5, .slice v6 v7 v8, Reg.sel true (.bool false) (.bool s1), Reg.sel true (.slice none 0 0) (.slice s2 s3 s4), Reg.sel true (.bool false) (.bool s5), Reg.sel true (.slice none 0 0) (.slice s6 s7 s8), Reg.sel (D 24) (.bool false) (.bool t1), Reg.sel (D 24) (.slice none 0 0) (.slice t2 t3 t4), Reg.sel (D 24) (.bool false) (.bool t5), Reg.sel (D 24) (.slice none 0 0) (.slice t6 t7 t8)]; simp only [hs2, Reg.sel_false, Reg.sel_true]; exact (Blk.set2 (cs' := #[.int .i64 a, .int .i64 b, .int .i64 c, .int .i64 d, .bool u1, .slice u2 u3 u4, .bool u5, .slice u6 u7 u8, .bool v1, .slice v2 v3 v4, .bool v5, .slice v6 v7 v8, .bool s1, .slice s2 s3 s4, .bool s5, .slice s6 s7 s8, .bool false, .slice none 0 0, .bool false, .slice none 0 0]) (Blk.set2 (cs' := #[.int .i64 a, .int .i64 b, .int .i64 c, .int .i64 d, .bool u1, .slice u2 u3 u4, .bool u5, .slice u6 u7 u8, .bool v1, .slice v2 v3 v4, .bool v5, .slice v6 v7 v8, .bool s1, .slice s2 s3 s4, .bool s5, .slice none 0 0, .bool false, .slice none 0 0, .bool false, .slice none 0 0]) (Blk.set2 (cs' := #[.int .i64 a, .int .i64 b, .int .i64 c, .int .i64 d, .bool u1, .slice u2 u3 u4, .bool u5, .slice u6 u7 u8, .bool v1, .slice v2 v3 v4, .bool v5, .slice v6 v7 v8, .bool s1, .slice s2 s3 s4, .bool false, .slice none 0 0, .bool false, .slice none 0 0, .bool false, .slice none 0 0]) (Blk.set2 (cs' := #[.int .i64 a, .int .i64 b, .int .i64 c, .int .i64 d, .bool u1, .slice u2 u3 u4, .bool u5, .slice u6 u7 u8, .bool v1, .slice v2 v3 v4, .bool v5, .slice v6 v7 v8, .bool s1, .slice none 0 0, .bool false, .slice none 0 0, .bool false, .slice none 0 0, .bool false, .slice none 0 0]) oq (i := 12) rfl) (i := 13) rfl) (i := 14) rfl) (i := 15) rfl))⟩ trivial trivial
  apply Reg.RC_pure (hc := rfl) (hst := rfl) (hw := rfl) (t := 52) (hd := rfl) (ht := Nat.le_of_ble_eq_true rfl)
  · intro D v W hc hj hf K' hK'
    go_step
    exact hK'.out
  · rfl
  apply Reg.RC_pure (hc := rfl) (hst := rfl) (hw := rfl) (t := 53) (hd := rfl) (ht := Nat.le_of_ble_eq_true rfl)
  · intro D v W hc hj hf K' hK'
    go_step
    exact hK'.out
  · rfl
  refine Reg.RC_call rfl (by intro t ht; cases ht) rfl (fun D v W hc hj hf K' hK' => ?_) (fun _ _ => Reg.RC_at (b := ⟨#[_,_,_,_,_,_,_,_,_,_,_,_,_,_,_,_,_,_,_,_,_,_,_,_,_,_,_,_,_,_,_,_,_,_,_,_,_,_,_,_,_,_,_,_,_,_,_,_,_,_,_,_,_,_,_], _⟩) rfl ?_)
  · obtain ⟨j0, jk, oa, or, x, y, hv, oq⟩ := hj
    have f := hf (15, some 47) (.head _) rfl
    obtain ⟨rfl, rfl⟩ := tup2 ((hv f.1).symm.trans (f.2.1 : v 15 = .tuple #[.agg #[.bool s1, .slice s2 s3 s4, .bool s5, .slice s6 s7 s8], .agg #[.bool t1, .slice t2 t3 t4, .bool t5, .slice t6 t7 t8]]))
    replace oq : Blk W (w.heap.size + 1 + 1) 31 #[.int .i64 a, .int .i64 b, .int .i64 c, .int .i64 d, .bool u1, .slice u2 u3 u4, .bool u5, .slice u6 u7 u8, .bool v1, .slice v2 v3 v4, .bool v5, .slice v6 v7 v8, Reg.sel (D 21) (.bool false) (.bool s1), Reg.sel (D 21) (.slice none 0 0) (.slice s2 s3 s4), Reg.sel (D 21) (.bool false) (.bool s5), Reg.sel (D 21) (.slice none 0 0) (.slice s6 s7 s8), Reg.sel (D 24) (.bool false) (.bool t1), Reg.sel (D 24) (.slice none 0 0) (.slice t2 t3 t4), Reg.sel (D 24) (.bool false) (.bool t5), Reg.sel (D 24) (.slice none 0 0) (.slice t6 t7 t8)] := oq
    have hs : D 24 = false := hc.1
    simp only [hs, Reg.sel_false] at oq
    have c0 := oq.q16
    have c1 := oq.q17
    have c2 := oq.q18
    have c3 := oq.q19
    have fq := oq.fr
    have lq := oq.lt
    go_step
    exact hK'.out undef _ (Keeps.only (cs := #[.int .i64 a, .int .i64 b, .int .i64 c, .int .i64 d, .bool u1, .slice u2 u3 u4, .bool u5, .slice u6 u7 u8, .bool v1, .slice v2 v3 v4, .bool v5, .slice v6 v7 v8, Reg.sel (D 21) (.bool false) (.bool s1), Reg.sel (D 21) (.slice none 0 0) (.slice s2 s3 s4), Reg.sel (D 21) (.bool false) (.bool s5), Reg.sel (D 21) (.slice none 0 0) (.slice s6 s7 s8), .bool false, .slice none 0 0, .bool false, .slice none 0 0]) oq (by cases D 21 <;> rfl) ((Only.refl _ _).set.set.set.set)) ⟨(Below.setCell (p := ⟨w.heap.size + 1 + 1, 19, none⟩) (Below.setCell (p := ⟨w.heap.size + 1 + 1, 18, none⟩) (Below.setCell (p := ⟨w.heap.size + 1 + 1, 17, none⟩) (Below.setCell (p := ⟨w.heap.size + 1 + 1, 16, none⟩) j0 (by show w.heap.size ≤ w.heap.size + 1 + 1; omega) _) (by show w.heap.size ≤ w.heap.size + 1 + 1; omega) _) (by show w.heap.size ≤ w.heap.size + 1 + 1; omega) _) (by show w.heap.size ≤ w.heap.size + 1 + 1; omega) _), jk.trans (Keeps.only (cs := #[.int .i64 a, .int .i64 b, .int .i64 c, .int .i64 d, .bool u1, .slice u2 u3 u4, .bool u5, .slice u6 u7 u8, .bool v1, .slice v2 v3 v4, .bool v5, .slice v6 v7 v8, Reg.sel (D 21) (.bool false) (.bool s1), Reg.sel (D 21) (.slice none 0 0) (.slice s2 s3 s4), Reg.sel (D 21) (.bool false) (.bool s5), Reg.sel (D 21) (.slice none 0 0) (.slice s6 s7 s8), .bool false, .slice none 0 0, .bool false, .slice none 0 0]) oq (by cases D 21 <;> rfl) ((Only.refl _ _).set.set.set.set)), ((((oa).far' (by omega)).far' (by omega)).far' (by omega)).far' (by omega), ((((or).far' (by omega)).far' (by omega)).far' (by omega)).far' (by omega), #[.bool s1, .slice s2 s3 s4, .bool s5, .slice s6 s7 s8], #[.bool t1, .slice t2 t3 t4, .bool t5, .slice t6 t7 t8], fun _ => f.2.1, (by show Blk _ _ _ #[.int .i64 a, .int .i64 b, .int .i64 c, .int .i64 d, .bool u1, .slice u2 u3 u4, .bool u5, .slice u6 u7 u8, .bool v1, .slice v2 v3 v4, .bool v5, .slice v6 v7 v8, Reg.sel (D 21) (.bool false) (.bool s1), Reg.sel (D 21) (.slice none 0 0) (.slice s2 s3 s4), Reg.sel (D 21) (.bool false) (.bool s5), Reg.sel (D 21) (.slice none 0 0) (.slice s6 s7 s8), Reg.sel true (.bool false) (.bool t1), Reg.sel true (.slice none 0 0) (.slice t2 t3 t4), Reg.sel true (.bool false) (.bool t5), Reg.sel true (.slice none 0 0) (.slice t6 t7 t8)]; simp only [Reg.sel_true]; exact (Blk.set2 (cs' := #[.int .i64 a, .int .i64 b, .int .i64 c, .int .i64 d, .bool u1, .slice u2 u3 u4, .bool u5, .slice u6 u7 u8, .bool v1, .slice v2 v3 v4, .bool v5, .slice v6 v7 v8, Reg.sel (D 21) (.bool false) (.bool s1), Reg.sel (D 21) (.slice none 0 0) (.slice s2 s3 s4), Reg.sel (D 21) (.bool false) (.bool s5), Reg.sel (D 21) (.slice none 0 0) (.slice s6 s7 s8), .bool t1, .slice t2 t3 t4, .bool t5, .slice t6 t7 t8]) (Blk.set2 (cs' := #[.int .i64 a, .int .i64 b, .int .i64 c, .int .i64 d, .bool u1, .slice u2 u3 u4, .bool u5, .slice u6 u7 u8, .bool v1, .slice v2 v3 v4, .bool v5, .slice v6 v7 v8, Reg.sel (D 21) (.bool false) (.bool s1), Reg.sel (D 21) (.slice none 0 0) (.slice s2 s3 s4), Reg.sel (D 21) (.bool false) (.bool s5), Reg.sel (D 21) (.slice none 0 0) (.slice s6 s7 s8), .bool t1, .slice t2 t3 t4, .bool t5, .slice none 0 0]) (Blk.set2 (cs' := #[.int .i64 a, .int .i64 b, .int .i64 c, .int .i64 d, .bool u1, .slice u2 u3 u4, .bool u5, .slice u6 u7 u8, .bool v1, .slice v2 v3 v4, .bool v5, .slice v6 v7 v8, Reg.sel (D 21) (.bool false) (.bool s1), Reg.sel (D 21) (.slice none 0 0) (.slice s2 s3 s4), Reg.sel (D 21) (.bool false) (.bool s5), Reg.sel (D 21) (.slice none 0 0) (.slice s6 s7 s8), .bool t1, .slice t2 t3 t4, .bool false, .slice none 0 0]) (Blk.set2 (cs' := #[.int .i64 a, .int .i64 b, .int .i64 c, .int .i64 d, .bool u1, .slice u2 u3 u4, .bool u5, .slice u6 u7 u8, .bool v1, .slice v2 v3 v4, .bool v5, .slice v6 v7 v8, Reg.sel (D 21) (.bool false) (.bool s1), Reg.sel (D 21) (.slice none 0 0) (.slice s2 s3 s4), Reg.sel (D 21) (.bool false) (.bool s5), Reg.sel (D 21) (.slice none 0 0) (.slice s6 s7 s8), .bool t1, .slice none 0 0, .bool false, .slice none 0 0]) oq (i := 16) rfl) (i := 17) rfl) (i := 18) rfl) (i := 19) rfl))⟩ trivial trivial
  refine Reg.RC_end (fun D v w3 hd hj hf => ?_)
  obtain ⟨j0, jk, oa, or, x, y, hv, oq⟩ := hj
  have f := hf (15, some 47) (.head _) rfl
  obtain ⟨rfl, rfl⟩ := tup2 ((hv f.1).symm.trans (f.2.1 : v 15 = .tuple #[.agg #[.bool s1, .slice s2 s3 s4, .bool s5, .slice s6 s7 s8], .agg #[.bool t1, .slice t2 t3 t4, .bool t5, .slice t6 t7 t8]]))
  have hg := GFF.get (r := r3) (s := r4) (u := .agg #[.bool s1, .slice s2 s3 s4, .bool s5, .slice s6 s7 s8]) (v := .agg #[.bool t1, .slice t2 t3 t4, .bool t5, .slice t6 t7 t8]) f.2.2
  replace oq : Blk w3 (w.heap.size + 1 + 1) 31 #[.int .i64 a, .int .i64 b, .int .i64 c, .int .i64 d, .bool u1, .slice u2 u3 u4, .bool u5, .slice u6 u7 u8, .bool v1, .slice v2 v3 v4, .bool v5, .slice v6 v7 v8, Reg.sel (D 21) (.bool false) (.bool s1), Reg.sel (D 21) (.slice none 0 0) (.slice s2 s3 s4), Reg.sel (D 21) (.bool false) (.bool s5), Reg.sel (D 21) (.slice none 0 0) (.slice s6 s7 s8), Reg.sel (D 24) (.bool false) (.bool t1), Reg.sel (D 24) (.slice none 0 0) (.slice t2 t3 t4), Reg.sel (D 24) (.bool false) (.bool t5), Reg.sel (D 24) (.slice none 0 0) (.slice t6 t7 t8)] := oq
  have h1 : D 21 = true := hd 21 (by decide)
  have h2 : D 24 = true := hd 24 (by decide)
  simp only [h1, h2, Reg.sel_true] at oq
  obtain ⟨Fs, Ft⟩ := hg
  have B := j0
  clear hd hf f hv h1 h2 j0
  refine hQ _ _ ?_
  clear hQ hops Q' ops'
  replace Fu := Fu.keeps jk
  replace Fv := Fv.keeps jk
  clear q2 jk
  repeat' (first | go_values | go_skip | go_guarded | (refine load_big rfl 31 (.tmp 5) rfl (w.heap.size + 1 + 1) rfl 31 #[.int .i64 a, .int .i64 b, .int .i64 c, .int .i64 d, .bool u1, .slice u2 u3 u4, .bool u5, .slice u6 u7 u8, .bool v1, .slice v2 v3 v4, .bool v5, .slice v6 v7 v8, .bool s1, .slice s2 s3 s4, .bool s5, .slice s6 s7 s8, .bool t1, .slice t2 t3 t4, .bool t5, .slice t6 t7 t8] _ oq Try.underlying31 rfl (by kernel_rfl) ?_) | (refine store_big rfl 31 (.tmp 4) (.tmp 54) rfl (w.heap.size + 1) #[.int .i64 a, .int .i64 b, .int .i64 c, .int .i64 d, .bool u1, .slice u2 u3 u4, .bool u5, .slice u6 u7 u8, .bool v1, .slice v2 v3 v4, .bool v5, .slice v6 v7 v8, .bool s1, .slice s2 s3 s4, .bool s5, .slice s6 s7 s8, .bool t1, .slice t2 t3 t4, .bool t5, .slice t6 t7 t8] rfl rfl 31 #[.int .i64 0, .int .i64 0, .int .i64 0, .int .i64 0, .bool false, .slice none 0 0, .bool false, .slice none 0 0, .bool false, .slice none 0 0, .bool false, .slice none 0 0, .bool false, .slice none 0 0, .bool false, .slice none 0 0, .bool false, .slice none 0 0, .bool false, .slice none 0 0] or (by kernel_rfl) rfl (by simp [Value.oneCell']) (fun w4 r4 => ?_)) | go_step | go_upon)
  refine bodyPost_ret (results_row1 rfl _ _ (w.heap.size + 1) rfl r4.blk Try.underlying31 rfl (by kernel_rfl)) rfl ?_
  have kp := r4.keeps rfl
  exact ⟨_, _, _, _, _, _, _, _, _, _, _, _, _, _, _, _, _, _, _, _, _, _, _, _, _, _, _, _, _, _, _, _, rfl, ⟨Fu.keeps kp, Fv.keeps kp, Fs.keeps kp, Ft.keeps kp⟩, r4.below B (by omega)⟩
theorem QF.mk4 {w : World} {a0 a1 a2 a3 : Int} {u1 u5 : Bool} {u2 u6 : Option Addr} {u3 u4 u7 u8 : Nat} {v1 v5 : Bool} {v2 v6 : Option Addr} {v3 v4 v7 v8 : Nat} {s1 s5 : Bool} {s2 s6 : Option Addr} {s3 s4 s7 s8 : Nat} {t1 t5 : Bool} {t2 t6 : Option Addr} {t3 t4 t7 t8 : Nat} {k : Nat → Int} {r : Nat → Rat} (hk : k 0 = a0 ∧ k 1 = a1 ∧ k 2 = a2 ∧ k 3 = a3) (h0 : FR w (.agg #[.bool u1, .slice u2 u3 u4, .bool u5, .slice u6 u7 u8]) (r 0)) (h1 : FR w (.agg #[.bool v1, .slice v2 v3 v4, .bool v5, .slice v6 v7 v8]) (r 1)) (h2 : FR w (.agg #[.bool s1, .slice s2 s3 s4, .bool s5, .slice s6 s7 s8]) (r 2)) (h3 : FR w (.agg #[.bool t1, .slice t2 t3 t4, .bool t5, .slice t6 t7 t8]) (r 3)) :
    QF w #[.int .i64 a0, .int .i64 a1, .int .i64 a2, .int .i64 a3, .bool u1, .slice u2 u3 u4, .bool u5, .slice u6 u7 u8, .bool v1, .slice v2 v3 v4, .bool v5, .slice v6 v7 v8, .bool s1, .slice s2 s3 s4, .bool s5, .slice s6 s7 s8, .bool t1, .slice t2 t3 t4, .bool t5, .slice t6 t7 t8] k r := by
  obtain ⟨k0, k1, k2, k3⟩ := hk
  refine ⟨rfl, by simp [Value.oneCell'], fun i hi => ?_, fun i hi => ?_⟩
  · rcases (show i = 0 ∨ i = 1 ∨ i = 2 ∨ i = 3 by omega) with rfl | rfl | rfl | rfl
    · rw [k0]; rfl
    · rw [k1]; rfl
    · rw [k2]; rfl
    · rw [k3]; rfl
  · rcases (show i = 0 ∨ i = 1 ∨ i = 2 ∨ i = 3 by omega) with rfl | rfl | rfl | rfl
    · exact ⟨_, _, _, _, _, _, _, _, rfl, rfl, rfl, rfl, h0⟩
    · exact ⟨_, _, _, _, _, _, _, _, rfl, rfl, rfl, rfl, h1⟩
    · exact ⟨_, _, _, _, _, _, _, _, rfl, rfl, rfl, rfl, h2⟩
    · exact ⟨_, _, _, _, _, _, _, _, rfl, rfl, rfl, rfl, h3⟩
theorem rarrOf {v : Value} {l : PL} {K : Nat → Nat} (x : P4) (w : World) (h : Pts w v l) (hk : ∀ i, K i < l.length) (hp : ∀ i, okp (pt l (K i)).1 (pt l (K i)).2) (hn : (arrOf l K x).n ≠ 0) :
    Calls Try.prog 60 #[v, ordV K x] w fun e w' => ∃ cs, e = .returned (.agg cs) ∧ QF w' cs (kA (arrOf l K x)) (rA (arrOf l K x)) ∧ Steps w w' := by
  obtain ⟨ao, cap, rfl⟩ := h.shape
  have hc := h.cells
  obtain ⟨b0, o0, e0, hb0, ca0, ca1⟩ := h.at (hk x.1)
  have sm : ∀ a, a < l.length → w.cell? ⟨b0, o0 + a * 2, none⟩ = some (.int .i64 (pt l a).1) ∧ w.cell? ⟨b0, o0 + a * 2 + 1, none⟩ = some (.int .i64 (pt l a).2) := fun a ha => by
    obtain ⟨b, o, e, -, h1, h2⟩ := h.at ha
    rw [e0] at e
    injection e with e
    injection e with e1 e2
    subst e1 e2
    exact ⟨h1, h2⟩
  have s1 := sm _ (hk x.2.1)
  have s2 := sm _ (hk x.2.2.1)
  have s3 := sm _ (hk x.2.2.2)
  refine Calls.mono (rarr0 (K x.1) (K x.2.1) (K x.2.2.1) (K x.2.2.2) b0 o0 _ _ _ _ _ _ _ _ (rA (arrOf l K x) 0) (rA (arrOf l K x) 1) (rA (arrOf l K x) 2) (rA (arrOf l K x) 3) w hc.2.1 e0 hb0 (hk _) (hk _) (hk _) (hk _) ca0 ca1 s1.1 s1.2 s2.1 s2.2 s3.1 s3.2
    (fun w' => rquot _ _ _ _ _ _ w' (hp x.1) (hp x.2.1) (hp x.2.2.1) hn) (fun w' => rquot _ _ _ _ _ _ w' (hp x.1) (hp x.2.1) (hp x.2.2.2) hn)) ?_
  rintro e w' ⟨u1, u2, u3, u4, u5, u6, u7, u8, v1, v2, v3, v4, v5, v6, v7, v8, s1, s2, s3, s4, s5, s6, s7, s8, t1, t2, t3, t4, t5, t6, t7, t8, rfl, ⟨f0, f1, f2, f3⟩, hs⟩
  exact ⟨_, rfl, QF.mk4 ⟨rfl, rfl, rfl, rfl⟩ f0 f1 f2 f3, hs⟩
end Go.Proofs.Ytibdehlmflaodaa
namespace Go.Proofs.Ytibdehlmflaodaa
open Go.RowKit
theorem le_frac {x y N : Int} (hN : 0 < N) : (x : Rat) / (N : Rat) ≤ (y : Rat) / (N : Rat) ↔ x ≤ y := by
  have h0 : (0 : Rat) < (N : Rat) := Rat.intCast_pos.2 hN
  have h1 : (N : Rat) ≠ 0 := fun e => by rw [e] at h0; exact absurd h0 (by decide)
  have e : ∀ z : Rat, z / (N : Rat) * (N : Rat) = z := fun z => Rat.div_mul_cancel h1
  constructor
  · intro h
    have := Rat.mul_le_mul_of_nonneg_right h (Rat.le_of_lt h0)
    rw [e, e] at this
    exact Rat.intCast_le_intCast.1 this
  · intro h
    refine Rat.le_of_mul_le_mul_right ?_ h0
    rw [e, e]
    exact Rat.intCast_le_intCast.2 h
theorem cmp_frac {x y N : Int} (hN : 0 < N) : cmpQ ((x : Rat) / (N : Rat)) ((y : Rat) / (N : Rat)) = cmpI x y := by
  have a := le_frac (x := x) (y := y) hN
  have b := le_frac (x := y) (y := x) hN
  rcases cmpQ_cases ((x : Rat) / (N : Rat)) ((y : Rat) / (N : Rat)) with ⟨h, h2⟩ | ⟨h, h2⟩ | ⟨h, h2⟩
  · have e : x = y := Int.le_antisymm (a.1 (h2 ▸ (Rat.not_lt.1 (fun g => absurd g (Rat.not_lt.2 (Rat.le_iff_lt_or_eq.2 (.inr rfl))))))) (b.1 (h2 ▸ (Rat.not_lt.1 (fun g => absurd g (Rat.not_lt.2 (Rat.le_iff_lt_or_eq.2 (.inr rfl)))))))
    rw [h, e]; unfold cmpI; rw [if_pos rfl]
  · have e : ¬ y ≤ x := fun g => absurd (b.2 g) (Rat.not_le.2 h2)
    rw [h]; unfold cmpI; rw [if_neg (by omega), if_pos (by omega)]
  · have e : ¬ x ≤ y := fun g => absurd (a.2 g) (Rat.not_le.2 h2)
    rw [h]; unfold cmpI; rw [if_neg (by omega), if_neg (by omega)]
theorem add_over {x y N : Int} (hN : 0 < N) : (x : Rat) / (N : Rat) + (y : Rat) / (N : Rat) = ((x + y : Int) : Rat) / (N : Rat) := by
  have h0 : (0 : Rat) < (N : Rat) := Rat.intCast_pos.2 hN
  have h1 : (N : Rat) ≠ 0 := fun e => by rw [e] at h0; exact absurd h0 (by decide)
  refine (div_of_mul h1 ?_).symm
  rw [Rat.add_mul, Rat.div_mul_cancel h1, Rat.div_mul_cancel h1, Rat.intCast_add]
def sgn2 (x y : Int) : Prop := (x < 0 ↔ y < 0) ∧ (x = 0 ↔ y = 0)
theorem sgn2.or_ {c d c' d' : Int} (h : sgn2 c c') (k : sgn2 d d') : sgn2 (orI c d) (orI c' d') := by
  unfold sgn2 orI at *
  by_cases g : c = 0
  · rw [if_pos g, if_pos (h.2.1 g)]; exact k
  · rw [if_neg g, if_neg (fun e => g (h.2.2 e))]; exact h
theorem sgn2.sub (x y : Int) : sgn2 (x - y) (cmpI x y) := by
  unfold sgn2 cmpI
  split
  · omega
  · split <;> omega
theorem sgn2.refl (x : Int) : sgn2 x x := ⟨Iff.rfl, Iff.rfl⟩
def befE (a c : Arr) : Nat → Int
  | 0 => cmpQ (rA a 0 + rA a 2) (rA c 0 + rA c 2)
  | n + 1 => orI (befE a c n) (if n < 4 then cmpQ (rA a n) (rA c n) else kA a (n - 4) - kA c (n - 4))
theorem befE_cmp {a c : Arr} (hn : 0 < c.n) (h : a.n = c.n) : sgn2 (befE a c 8) (cmpA a c) := by
  have q : ∀ i, cmpQ (rA a i) (rA c i) = cmpI (cA a i) (cA c i) := fun i => by unfold rA; rw [h]; exact cmp_frac hn
  have e0 : befE a c 0 = cmpI (a.a1 + a.b1) (c.a1 + c.b1) := by
    show cmpQ (rA a 0 + rA a 2) (rA c 0 + rA c 2) = _
    unfold rA
    rw [h, add_over hn, add_over hn]; exact cmp_frac hn
  rw [cmpA_or]
  have st : ∀ n, befE a c (n + 1) = orI (befE a c n) (if n < 4 then cmpQ (rA a n) (rA c n) else kA a (n - 4) - kA c (n - 4)) := fun _ => rfl
  rw [st 7, st 6, st 5, st 4, st 3, st 2, st 1, st 0, e0]
  simp only [q]
  exact (((((((((sgn2.refl _).or_ (sgn2.refl _)).or_ (sgn2.refl _)).or_ (sgn2.refl _)).or_ (sgn2.refl _)).or_ (sgn2.sub _ _)).or_ (sgn2.sub _ _)).or_ (sgn2.sub _ _)).or_ (sgn2.sub _ _))
theorem absN_le {x m : Int} (h0 : -m ≤ x) (h1 : x ≤ m) : absN x ≤ m := by unfold absN; omega
theorem rA_sz {a : Arr} (h : NumOk a) (hn : 0 < a.n) (i : Nat) : sz (rA a i) 2 := by
  have e : bp 2 = 18446744073709551616 := by decide
  unfold rA
  refine sz_frac (by omega) ?_ ?_
  · have : -35184372088832 ≤ cA a i ∧ cA a i ≤ 35184372088832 := by
      unfold cA; split
      · exact h.a1
      · exact h.a2
      · exact h.b1
      · exact h.b2
    rw [e]; exact absN_le (by omega) (by omega)
  · have := h.n
    rw [e]; exact absN_le (by omega) (by omega)
theorem rbefA {CA CB : Array Value} {a c : Arr} (w : World) (ha : QF w CA (kA a) (rA a)) (hb : QF w CB (kA c) (rA c)) (na : NumOk a) (nc : NumOk c) (hn : 0 < c.n) (h : a.n = c.n) (ka : ∀ i, i < 4 → 0 ≤ kA a i ∧ kA a i ≤ 1000000) (kc : ∀ i, i < 4 → 0 ≤ kA c i ∧ kA c i ≤ 1000000) :
    Calls Try.prog 61 #[.agg CA, .agg CB] w fun x w' => x = .returned (.bool (decide (cmpA a c < 0))) ∧ Steps w w' := by
  have hA : 0 < a.n := by omega
  have sa := fun i => rA_sz na hA i
  have sc := fun i => rA_sz nc hn i
  have := rbefore (e := befE a c) w ha hb (fun i _ => sa i) (fun i _ => sc i) (((sa 0).add (sa 2)).mono (by omega)) (((sc 0).add (sc 2)).mono (by omega)) ka kc rfl
    (fun i hi => by show orI _ _ = _; rw [if_pos hi]) (fun i hi => by show orI _ _ = _; rw [if_neg (by omega), show 4 + i - 4 = i by omega])
  rwa [decide_eq_decide.2 (befE_cmp hn h).1] at this
def bestU (l : PL) (K : Nat → Nat) (N : Int) (a b c : Nat) : Option Arr := bestR N ((upto4 a b c).map (arrOf l K))
theorem bestU_c (l : PL) (K : Nat → Nat) (N : Int) {a b c : Nat} (ha : a < 4) (hb : b < 4) (hc : c < 4) (hv : ¬ (a ≠ b ∧ a ≠ c ∧ b ≠ c)) : bestU l K N a b (c + 1) = bestU l K N a b c := by
  unfold bestU; rw [upto4_c a ha b hb c hc, if_neg hv]
theorem bestU_v (l : PL) (K : Nat → Nat) (N : Int) {a b c d : Nat} (ha : a < 4) (hb : b < 4) (hc : c < 4) (hv : a ≠ b ∧ a ≠ c ∧ b ≠ c) (hd : 6 - a - b - c = d) (hn : (arrOf l K (a, b, c, d)).n = N) :
    bestU l K N a b (c + 1) = (match bestU l K N a b c with | none => some (arrOf l K (a, b, c, d)) | some x => if cmpA (arrOf l K (a, b, c, d)) x < 0 then some (arrOf l K (a, b, c, d)) else some x) := by
  unfold bestU; rw [upto4_c a ha b hb c hc, if_pos hv, hd, List.map_append]
  show bestR N (_ ++ [_]) = _
  rw [bestR_append, if_pos hn]
  cases bestR N (List.map (arrOf l K) (upto4 a b c)) <;> rfl
theorem bestU_skip (l : PL) (K : Nat → Nat) (N : Int) {a b : Nat} (ha : a < 4) (hb : b < 4) (hn : dst l K a b ≠ N) : ∀ c, c ≤ 4 → bestU l K N a b c = bestU l K N a b 0 := by
  intro c
  induction c with
  | zero => intro _; rfl
  | succ c ih =>
    intro hc
    rw [← ih (by omega)]
    by_cases hv : a ≠ b ∧ a ≠ c ∧ b ≠ c
    · unfold bestU; rw [upto4_c a ha b hb c (by omega), if_pos hv, List.map_append]
      show bestR N (_ ++ [_]) = _
      rw [bestR_append, if_neg (show ¬ (arrOf l K (a, b, c, 6 - a - b - c)).n = N from fun e => hn e)]
    · exact bestU_c l K N ha hb (by omega) hv
theorem bestU_b (l : PL) (K : Nat → Nat) (N : Int) {a b : Nat} (ha : a < 4) (hb : b < 4) : bestU l K N a b 4 = bestU l K N a (b + 1) 0 := by unfold bestU; rw [upto4_b a ha b hb]
theorem bestU_ab (l : PL) (K : Nat → Nat) (N : Int) {a b : Nat} (ha : a < 4) (hb : b < 4) (h : a = b) : bestU l K N a b 0 = bestU l K N a (b + 1) 0 := by unfold bestU; rw [upto4_ab a ha b hb h]
theorem bestU_a (l : PL) (K : Nat → Nat) (N : Int) {a : Nat} (ha : a < 4) : bestU l K N a 4 0 = bestU l K N (a + 1) 0 0 := by unfold bestU; rw [upto4_a a ha]
theorem bestU_0 (l : PL) (K : Nat → Nat) (N : Int) : bestU l K N 0 0 0 = none := by unfold bestU; rw [upto4_0]; rfl
theorem bestU_all (l : PL) (K : Nat → Nat) (h : 0 < wid l K) : bestU l K (wid l K) 4 0 0 = some (bestOf l K) := by unfold bestU; rw [upto4_all]; exact bestOf_ref l K h
theorem bestU_n (l : PL) (K : Nat → Nat) (N : Int) {a b c : Nat} {x : Arr} (h : bestU l K N a b c = some x) : x.n = N ∧ ∃ p, x = arrOf l K p := by
  unfold bestU at h
  rcases bestR_spec N ((upto4 a b c).map (arrOf l K)) with ⟨h1, -⟩ | ⟨y, h1, h2, h3, -⟩
  · rw [h1] at h; cases h
  · rw [h1] at h
    injection h with h
    subst h
    obtain ⟨p, -, e⟩ := List.mem_map.1 h2
    exact ⟨h3, p, e.symm⟩
end Go.Proofs.Ytibdehlmflaodaa
