import Derived.Test.YtffmbepfbienaaaGreatDUc
import Derived.Test.YtffmbepfbienaaaGreatDVa
set_option linter.unusedVariables false
set_option linter.unusedSimpArgs false
set_option maxHeartbeats 6400000
set_option maxRecDepth 1000000
namespace Go.Proofs.YtffmbepfbienaaaGreat
open Go.RowKit
theorem setCell_same {w : World} {g i : Nat} {t : TypeId} {cs : Array Value} {u : Value} (hb : Blk w g t cs) (hi : cs[i]? = some u) (k : Nat) : (w.setCell ⟨g, i, none⟩ u).heap[k]? = w.heap[k]? := by
 unfold Blk at hb
 by_cases e : g = k
 ·
  subst e
  have es : cs.setIfInBounds i u = cs := by
   apply Array.ext_getElem?
   intro j
   rw [Array.getElem?_setIfInBounds]
   split
   ·
    rename_i h; subst h
    have hlt : i < cs.size := by
     rcases Nat.lt_or_ge i cs.size with g | g
     · exact g
     · rw [Array.getElem?_eq_none g] at hi; cases hi
    rw [if_pos hlt, hi]
   · rfl
  simp [World.setCell, Array.getElem?_modify, hb, es]
 · simp [World.setCell, Array.getElem?_modify, e]
theorem below_same {B : Nat} {a w : World} (h : Below B a w) {g i : Nat} {t : TypeId} {cs : Array Value} {u : Value} (hb : Blk w g t cs) (hi : cs[i]? = some u) : Below B a (w.setCell ⟨g, i, none⟩ u) :=
 ⟨h.os, h.tape, h.output, by have := h.size; simpa [World.setCell] using this, fun k hk => (setCell_same hb hi k).trans (h.block k hk)⟩
theorem below4 {B : Nat} {a w : World} {g i j k l : Nat} {x y z u : Value} (h : Below B a w) (hg : B ≤ g) : Below B a ((((w.setCell ⟨g, i, none⟩ x).setCell ⟨g, j, none⟩ y).setCell ⟨g, k, none⟩ z).setCell ⟨g, l, none⟩ u) :=
 Below.setCell (Below.setCell (Below.setCell (Below.setCell h hg _) hg _) hg _) hg _
theorem Blk.far4 {w : World} {g b i j k l : Nat} {t : TypeId} {cs : Array Value} {x y z u : Value} (h : Blk w g t cs) (hne : g ≠ b) : Blk ((((w.setCell ⟨b, i, none⟩ x).setCell ⟨b, j, none⟩ y).setCell ⟨b, k, none⟩ z).setCell ⟨b, l, none⟩ u) g t cs :=
 (((h.far' hne).far' hne).far' hne).far' hne
theorem keeps4 {w : World} {r i j k l : Nat} {t : TypeId} {cs : Array Value} {x y z u : Value} (hb : Blk w r t cs) (hn : noU32 cs = true) : Keeps w ((((w.setCell ⟨r, i, none⟩ x).setCell ⟨r, j, none⟩ y).setCell ⟨r, k, none⟩ z).setCell ⟨r, l, none⟩ u) :=
 Keeps.only hb hn ((Only.refl _ _).set.set.set.set)
theorem len_ne {w : World} {g : Bool} {a : Option Addr} {n c : Nat} {x : Int} (h : Num w (.agg #[.bool g, .slice a n c]) x) (hx : x ≠ 0) : n ≠ 0 := by
 obtain ⟨aa, ca, e, pa⟩ := h.parts
 simp only [Value.agg.injEq, Array.mk.injEq, List.cons.injEq, and_true, Value.slice.injEq] at e
 obtain ⟨-, -, e, -⟩ := e
 intro h0
 have h1 := limbs_nil (absN_nonneg x)
 have h2 : limbs (absN x) = [] := List.eq_nil_of_length_eq_zero (by omega)
 have h3 := h1.1 h2
 unfold absN at h3
 omega
theorem fDiv1 {va vb : Value} {r s : Rat} (w : World) (ha : FR w va r) (hb : FR w vb s) (s0 : s ≠ 0) (g1 : fits (r.num * s.den)) (g4 : fits (r.den * s.num)) :
  Calls Tryz.prog 129 #[va, vb] w fun e w' => ∃ u v, e = .returned (.tuple #[u, v]) ∧ Num w' u (r.num * s.den) ∧ Num w' v (r.den * s.num) ∧ Steps w w' := by
 have fa := ha.fit
 have fb := hb.fit
 have ze : ∀ w' u, Num w' u s.num → Calls Tryz.prog 97 #[u] w' fun e w2 => e = .returned (.bool false) ∧ Steps w' w2 := fun w' u h1 => by
  have := fzero w' h1
  rw [decide_eq_false (num_ne s0)] at this
  exact this
 have m2 : ∀ w' u v, Num w' u r.den → Num w' v s.num → Calls Tryz.prog 55 #[u, v] w' fun e w2 => ∃ v, e = .returned (.tuple #[v, .int .i64 0]) ∧ Num w2 v (r.den * s.num) ∧ Steps w' w2 := fun w' u v h1 h2 => by
  have := wMul w' h1 h2 fa.2 fb.1
  rw [errN_fits g4, clipN_fits g4] at this
  exact this
 have cr1 : ∀ w' u v, FR w' u r → FR w' v s → Calls Tryz.prog 60 #[u, v] w' fun e w2 => ∃ v, e = .returned v ∧ Num w2 v (r.num * s.den) ∧ Steps w' w2 := fun w' u v h1 h2 => fcross w' h1 h2 g1
 have ha0 := ha
 have hb0 := hb
 obtain ⟨a2, a3, a4, a6, a7, a8, rfl, na, da, -⟩ := ha.nums
 obtain ⟨b2, b3, b4, b6, b7, b8, rfl, nb', db, -⟩ := hb.nums
 obtain ⟨ga, hga⟩ : ∃ g, decide (r < 0) = g := ⟨_, rfl⟩
 obtain ⟨gb, hgb⟩ : ∃ g, decide (s < 0) = g := ⟨_, rfl⟩
 rw [hga] at na ha0 ⊢
 rw [hgb] at nb' hb0 ⊢
 have Fa := Hid.mk_ ha0
 have Fb := Hid.mk_ hb0
 have Fda := Hid.mk_ da
 have Fnb := Hid.mk_ nb'
 clear hga hgb na da nb' db ha hb ha0 hb0 fa fb
 clear g1 g4 s0
 go_enter Tryz.func129, Tryz.ntmps129
 go_wp2_with fail
 refine (ze _ _ (Fnb.out.keeps keepsB)).mono ?_
 rintro e w1 ⟨rfl, hb1⟩
 have st : Steps _ w1 := hb1
 have B : Below w.heap.size w w1 := belowA st
 have kp : Keeps w w1 := Keeps.then_ keepsB st
 have oa : Blk w1 (w.heap.size) 28 #[.bool ga, .slice a2 a3 a4, .bool false, .slice a6 a7 a8] := Blk.stepsK st
 have ob : Blk w1 (w.heap.size + 1) 28 #[.bool gb, .slice b2 b3 b4, .bool false, .slice b6 b7 b8] := Blk.stepsK st
 have op : Blk w1 (w.heap.size + 1 + 1) 26 #[.bool false, .slice none 0 0] := Blk.stepsK st
 have oq : Blk w1 (w.heap.size + 1 + 1 + 1) 26 #[.bool false, .slice none 0 0] := Blk.stepsK st
 replace Fa := Hid.mk_ (Fa.out.keeps kp)
 replace Fb := Hid.mk_ (Fb.out.keeps kp)
 replace Fda := Hid.mk_ (Fda.out.keeps kp)
 replace Fnb := Hid.mk_ (Fnb.out.keeps kp)
 clear kp
 clear st
 obtain ⟨ca0, ca1, ca2, ca3⟩ := oa.r3
 have la := oa.lt
 obtain ⟨cb0, cb1, cb2, cb3⟩ := ob.r3
 have lb := ob.lt
 have lp := op.lt
 have lq := oq.lt
 clear ze
 have zq_1 : w.heap.size + 1 + 1 + 1 < w1.heap.size := oq.lt
 have zz1 := B.size
 go_upto_region 3 with fail
 refine Reg.wp_chain_n (fun N0 D v W => Below w.heap.size w W ∧ Keeps w1 W ∧ N0 ≤ W.heap.size ∧ Blk W (w.heap.size) 28 #[.bool ga, .slice a2 a3 a4, .bool false, .slice a6 a7 a8] ∧ Blk W (w.heap.size + 1) 28 #[.bool gb, .slice b2 b3 b4, .bool false, .slice b6 b7 b8] ∧ ((D 11 = false → Blk W (w.heap.size + 1 + 1) 26 #[.bool false, .slice none 0 0]) ∧ (D 11 = true → D 2 = true ∧ ∃ cs, v 2 = .agg cs ∧ Blk W (w.heap.size + 1 + 1) 26 cs)) ∧ ((D 12 = false → Blk W (w.heap.size + 1 + 1 + 1) 26 #[.bool false, .slice none 0 0]) ∧ (D 12 = true → D 10 = true ∧ ∃ cs, v 10 = .agg cs ∧ Blk W (w.heap.size + 1 + 1 + 1) 26 cs)))
  (Reg.inl [2, 7, 10, 11, 12]) (Reg.gv [(2, IsNu), (7, IsNuE 0), (10, IsNu)]) (gw [(2, GNu (r.num * s.den)), (7, GNuE (r.den * s.num) 0), (10, GNu (r.den * s.num))]) (fun _ => Keeps) (fun _ _ => False) (Reg.pl [(10, [(7, some 17)]), (11, [(2, some 12)]), (12, [(10, some 20)]), (13, [(2, some 12), (7, some 17), (10, some 20)])]) (Reg.pl [(2, [11]), (10, [12])])
  (by kernel_rfl) (by kernel_rfl) (by kernel_rfl) (Reg.gvA _) (fun N0 hN0 => ⟨fun v => ?_, fun D v v' W hv hj => ?_, fun D v k j W W' x _ _ _ _ hk hg => gwA hk hg, fun _ _ _ _ h => h.elim, fun ops' Q' hops hQ => ?_⟩)
 · exact ⟨belowB, keepsB, Nat.le_of_eq hN0.out, ownK, ownK, ⟨fun _ => ownK, (fun h => Bool.noConfusion h)⟩, ⟨fun _ => ownK, (fun h => Bool.noConfusion h)⟩⟩
 ·
  obtain ⟨j0, jk, jn, b_a, b_b, b_p, b_q⟩ := hj
  exact ⟨j0, jk, jn, b_a, b_b, ⟨b_p.1, fun h => by obtain ⟨d, cs, e, hb⟩ := b_p.2 h; exact ⟨d, cs, (hv 2 d) ▸ e, hb⟩⟩, ⟨b_q.1, fun h => by obtain ⟨d, cs, e, hb⟩ := b_q.2 h; exact ⟨d, cs, (hv 10 d) ▸ e, hb⟩⟩⟩
 have eN := hN0.out
 try simp only [World.size_alloc, World.size_setCell, World.size_drew, World.heap_drewN] at eN
 have i_a : w.heap.size < N0 := by first | omega | (have h := oa.lt; omega)
 have i_b : w.heap.size + 1 < N0 := by first | omega | (have h := ob.lt; omega)
 have i_p : w.heap.size + 1 + 1 < N0 := by first | omega | (have h := op.lt; omega)
 have i_q : w.heap.size + 1 + 1 + 1 < N0 := by first | omega | (have h := oq.lt; omega)
 have iw : w.heap.size ≤ N0 := by first | omega | (have h := B.size; omega)
 clear ca0 ca1 ca2 ca3 la cb0 cb1 cb2 cb3 lb lp lq
 clear hN0
 apply Reg.RP rfl rfl rfl 10 rfl rfl
 ·
  intro D v' W' hc hj hf K hK
  obtain ⟨j0, jk, jn, b_a, b_b, b_p, b_q⟩ := hj
  obtain ⟨c0, c1, c2, c3⟩ := b_a.r3
  go_step
  exact hK.out
 · rfl
 apply Reg.RP rfl rfl rfl 11 rfl rfl
 ·
  intro D v' W' hc hj hf K hK
  obtain ⟨j0, jk, jn, b_a, b_b, b_p, b_q⟩ := hj
  obtain ⟨c0, c1, c2, c3⟩ := b_b.r3
  go_step
  exact hK.out
 · rfl
 refine Reg.RC_call rfl (tlt rfl) rfl (fun D v' W' hc hj hf K hK => ?_) ?_
 ·
  obtain ⟨j0, jk, jn, b_a, b_b, b_p, b_q⟩ := hj
  clear hf
  go_step
  refine (cr1 W' _ _ (Fa.out.keeps jk) (Fb.out.keeps jk)).mono ?_
  rintro e W2 ⟨u, rfl, hu, hs⟩
  obtain ⟨N1, N2, N3, N4, rfl⟩ := hu.shape
  exact hK.out _ W2 (Keeps.steps hs) ⟨jst j0 hs, jk.then_ hs, jsz jn hs, b_a.steps hs, b_b.steps hs, ⟨fun h => (b_p.1 h).steps hs, fun h => Bool.noConfusion ((hc.2 11 (by decide)).symm.trans h)⟩, ⟨fun h => (b_q.1 h).steps hs, fun h => by obtain ⟨d, cs, e, hb⟩ := b_q.2 h; exact ⟨d, cs, e, hb.steps hs⟩⟩⟩ hu ⟨_, _, _, _, rfl⟩
 rintro _ ⟨N1, N2, N3, N4, rfl⟩
 refine Reg.RC_at (b := ⟨#[_,_,_,_,_,_,_,_,_,_,_,_,_,_,_,_,_,_,_,_,_], _⟩) rfl ?_
 refine Reg.RP0 13 ?_
 apply Reg.RP rfl rfl rfl 14 rfl rfl
 ·
  intro D v' W' hc hj hf K hK
  obtain ⟨j0, jk, jn, b_a, b_b, b_p, b_q⟩ := hj
  have c2 := b_a.q2
  have c3 := b_a.q3
  go_step
  exact hK.out
 · rfl
 refine Reg.RP0 15 ?_
 apply Reg.RP rfl rfl rfl 16 rfl rfl
 ·
  intro D v' W' hc hj hf K hK
  obtain ⟨j0, jk, jn, b_a, b_b, b_p, b_q⟩ := hj
  obtain ⟨c0, c1⟩ := b_b.r1
  go_step
  exact hK.out
 · rfl
 refine Reg.RC_call rfl (tlt rfl) rfl (fun D v' W' hc hj hf K hK => ?_) ?_
 ·
  obtain ⟨j0, jk, jn, b_a, b_b, b_p, b_q⟩ := hj
  clear hf
  go_step
  refine (m2 W' _ _ (Fda.out.keeps jk) (Fnb.out.keeps jk)).mono ?_
  rintro e W2 ⟨u, rfl, hu, hs⟩
  obtain ⟨x_1, x_2, x_3, x_4, rfl⟩ := hu.shape
  exact hK.out _ W2 (Keeps.steps hs) ⟨jst j0 hs, jk.then_ hs, jsz jn hs, b_a.steps hs, b_b.steps hs, ⟨fun h => (b_p.1 h).steps hs, fun h => by obtain ⟨d, cs, e, hb⟩ := b_p.2 h; exact ⟨d, cs, e, hb.steps hs⟩⟩, ⟨fun h => (b_q.1 h).steps hs, fun h => by obtain ⟨d, cs, e, hb⟩ := b_q.2 h; exact ⟨d, cs, e, hb.steps hs⟩⟩⟩ ⟨_, rfl, hu⟩ ⟨_, _, _, _, rfl⟩
 rintro _ ⟨x_1, x_2, x_3, x_4, rfl⟩
 refine Reg.RC_at (b := ⟨#[_,_,_,_,_,_,_,_,_,_,_,_,_,_,_,_,_,_,_,_,_], _⟩) rfl ?_
 refine Reg.RP0 18 ?_
 refine Reg.RP0 19 ?_
 refine Reg.RC_call rfl (tlt rfl) rfl (fun D v' W' hc hj hf K hK => ?_) ?_
 ·
  obtain ⟨j0, jk, jn, b_a, b_b, b_p, b_q⟩ := hj
  have g7 : GNuE (r.den * s.num) 0 _ W' := (hf (7, some 17) (.head _) rfl).2.2
  have g7 := g7.get
  clear hf
  go_step
  refine (fmust W' g7).mono ?_
  rintro e W2 ⟨u, rfl, hu, hs⟩
  obtain ⟨D1, D2, D3, D4, rfl⟩ := hu.shape
  exact hK.out _ W2 (Keeps.steps hs) ⟨jst j0 hs, jk.then_ hs, jsz jn hs, b_a.steps hs, b_b.steps hs, ⟨fun h => (b_p.1 h).steps hs, fun h => by obtain ⟨d, cs, e, hb⟩ := b_p.2 h; exact ⟨d, cs, e, hb.steps hs⟩⟩, ⟨fun h => (b_q.1 h).steps hs, fun h => Bool.noConfusion ((hc.2 12 (by decide)).symm.trans h)⟩⟩ hu ⟨_, _, _, _, rfl⟩
 rintro _ ⟨D1, D2, D3, D4, rfl⟩
 refine Reg.RC_at (b := ⟨#[_,_,_,_,_,_,_,_,_,_,_,_,_,_,_,_,_,_,_,_,_], _⟩) rfl ?_
 refine Reg.RC_call rfl (by intro t ht; cases ht) rfl (fun D v' W' hc hj hf K hK => ?_) (fun _ _ => Reg.RC_at (b := ⟨_, _⟩) rfl ?_)
 ·
  obtain ⟨j0, jk, jn, b_a, b_b, b_p, b_q⟩ := hj
  have hb := b_p.1 hc.1
  have e2 : w.heap.size ≤ w.heap.size + 1 + 1 := by omega
  have fc := hf (2, some 12) (.head _) rfl
  have ec : v' 2 = .agg #[.bool N1, .slice N2 N3 N4] := fc.2.1
  have ff := hb.fr
  obtain ⟨cc0, cc1⟩ := hb.r1
  go_step
  exact hK.out undef _ (Keeps.only hb rfl ((Only.refl _ _).set.set)) ⟨(Below.setCell (p := ⟨w.heap.size + 1 + 1, 1, none⟩) (Below.setCell (p := ⟨w.heap.size + 1 + 1, 0, none⟩) j0 (by show w.heap.size ≤ w.heap.size + 1 + 1; omega) _) (by show w.heap.size ≤ w.heap.size + 1 + 1; omega) _), jk.trans (Keeps.only hb rfl ((Only.refl _ _).set.set)), by simpa using jn, ((b_a).far' (show w.heap.size ≠ w.heap.size + 1 + 1 by omega)).far' (show w.heap.size ≠ w.heap.size + 1 + 1 by omega), ((b_b).far' (show w.heap.size + 1 ≠ w.heap.size + 1 + 1 by omega)).far' (show w.heap.size + 1 ≠ w.heap.size + 1 + 1 by omega), ⟨fun h => Bool.noConfusion h, fun _ => ⟨fc.1, _, ec, (Blk.set2 (cs' := #[.bool N1, .slice N2 N3 N4]) (Blk.set2 (cs' := #[.bool N1, .slice none 0 0]) hb (i := 0) rfl) (i := 1) rfl)⟩⟩, ⟨fun h => ((b_q.1 h).far' (show w.heap.size + 1 + 1 + 1 ≠ w.heap.size + 1 + 1 by omega)).far' (show w.heap.size + 1 + 1 + 1 ≠ w.heap.size + 1 + 1 by omega), fun h => by obtain ⟨d, cs, e, hb2⟩ := b_q.2 h; exact ⟨d, cs, e, ((hb2).far' (show w.heap.size + 1 + 1 + 1 ≠ w.heap.size + 1 + 1 by omega)).far' (show w.heap.size + 1 + 1 + 1 ≠ w.heap.size + 1 + 1 by omega)⟩⟩⟩ trivial trivial
 refine Reg.RC_call rfl (by intro t ht; cases ht) rfl (fun D v' W' hc hj hf K hK => ?_) (fun _ _ => Reg.RC_at (b := ⟨_, _⟩) rfl ?_)
 ·
  obtain ⟨j0, jk, jn, b_a, b_b, b_p, b_q⟩ := hj
  have hb := b_q.1 hc.1
  have e2 : w.heap.size ≤ w.heap.size + 1 + 1 + 1 := by omega
  have fc := hf (10, some 20) (.head _) rfl
  have ec : v' 10 = .agg #[.bool D1, .slice D2 D3 D4] := fc.2.1
  have ff := hb.fr
  obtain ⟨cc0, cc1⟩ := hb.r1
  go_step
  exact hK.out undef _ (Keeps.only hb rfl ((Only.refl _ _).set.set)) ⟨(Below.setCell (p := ⟨w.heap.size + 1 + 1 + 1, 1, none⟩) (Below.setCell (p := ⟨w.heap.size + 1 + 1 + 1, 0, none⟩) j0 (by show w.heap.size ≤ w.heap.size + 1 + 1 + 1; omega) _) (by show w.heap.size ≤ w.heap.size + 1 + 1 + 1; omega) _), jk.trans (Keeps.only hb rfl ((Only.refl _ _).set.set)), by simpa using jn, ((b_a).far' (show w.heap.size ≠ w.heap.size + 1 + 1 + 1 by omega)).far' (show w.heap.size ≠ w.heap.size + 1 + 1 + 1 by omega), ((b_b).far' (show w.heap.size + 1 ≠ w.heap.size + 1 + 1 + 1 by omega)).far' (show w.heap.size + 1 ≠ w.heap.size + 1 + 1 + 1 by omega), ⟨fun h => ((b_p.1 h).far' (show w.heap.size + 1 + 1 ≠ w.heap.size + 1 + 1 + 1 by omega)).far' (show w.heap.size + 1 + 1 ≠ w.heap.size + 1 + 1 + 1 by omega), fun h => by obtain ⟨d, cs, e, hb2⟩ := b_p.2 h; exact ⟨d, cs, e, ((hb2).far' (show w.heap.size + 1 + 1 ≠ w.heap.size + 1 + 1 + 1 by omega)).far' (show w.heap.size + 1 + 1 ≠ w.heap.size + 1 + 1 + 1 by omega)⟩⟩, ⟨fun h => Bool.noConfusion h, fun _ => ⟨fc.1, _, ec, (Blk.set2 (cs' := #[.bool D1, .slice D2 D3 D4]) (Blk.set2 (cs' := #[.bool D1, .slice none 0 0]) hb (i := 0) rfl) (i := 1) rfl)⟩⟩⟩ trivial trivial
 refine Reg.RC_end (fun Dn v' w2 hd hj hf => ?_)
 obtain ⟨j0, jk, jn, b_a, b_b, b_p, b_q⟩ := hj
 have B := j0
 have oa := b_a
 clear b_a
 have ob := b_b
 clear b_b
 obtain ⟨-, cs_, ee, op⟩ := b_p.2 (hd 11 (Nat.le_of_ble_eq_true rfl))
 have ef : v' 2 = .agg #[.bool N1, .slice N2 N3 N4] := (hf (2, some 12) (.head _) rfl).2.1
 obtain rfl : #[.bool N1, .slice N2 N3 N4] = cs_ := by have := ef.symm.trans ee; simpa only [Value.tuple.injEq, Value.agg.injEq, Array.mk.injEq, List.cons.injEq, and_true, true_and] using this
 clear b_p ee ef
 obtain ⟨-, cs_, ee, oq⟩ := b_q.2 (hd 12 (Nat.le_of_ble_eq_true rfl))
 have ef : v' 10 = .agg #[.bool D1, .slice D2 D3 D4] := (hf (10, some 20) (.tail _ (.tail _ (.head _))) rfl).2.1
 obtain rfl : #[.bool D1, .slice D2 D3 D4] = cs_ := by have := ef.symm.trans ee; simpa only [Value.tuple.injEq, Value.agg.injEq, Array.mk.injEq, List.cons.injEq, and_true, true_and] using this
 clear b_q ee ef
 have FN : Hid (Num w2 (.agg #[.bool N1, .slice N2 N3 N4]) (r.num * s.den)) := (hf (2, some 12) (.head _) rfl).2.2
 have FD : Hid (Num w2 (.agg #[.bool D1, .slice D2 D3 D4]) (r.den * s.num)) := (hf (10, some 20) (.tail _ (.tail _ (.head _))) rfl).2.2
 replace Fa := Hid.mk_ (Fa.out.keeps jk)
 replace Fb := Hid.mk_ (Fb.out.keeps jk)
 replace Fda := Hid.mk_ (Fda.out.keeps jk)
 replace Fnb := Hid.mk_ (Fnb.out.keeps jk)
 clear hd hf jk j0
 refine hQ _ _ ?_
 clear hQ hops Q' ops'
 have la := oa.lt
 have lb := ob.lt
 obtain ⟨cp0, cp1⟩ := op.r1
 have lp := op.lt
 obtain ⟨cq0, cq1⟩ := oq.r1
 have lq := oq.lt
 go_wp2_with fail
 refine bodyPost_ret (by simp [results, Tryz.results129, go_sem, la, lb, cp0, cp1, lp, cq0, cq1, lq]; rfl) rfl ?_
 exact ⟨_, _, rfl, FN.out.keeps keepsB, FD.out.keeps keepsB, belowB⟩
theorem fDiv2 {va vb : Value} {r s : Rat} (w : World) (ha : FR w va r) (hb : FR w vb s) (s0 : s ≠ 0) (g1 : fits (r.num * s.den)) (g4 : fits (r.den * s.num)) :
  Calls Tryz.prog 52 #[va, vb, .func (.func 129) #[] #[]] w fun e w' => ∃ v, e = .returned (.tuple #[v, .int .i64 0]) ∧ FR w' v (r / s) ∧ Steps w w' := by
 have cl : ∀ w' u v, FR w' u r → FR w' v s → Calls Tryz.prog 129 #[u, v] w' fun e w2 => ∃ u v, e = .returned (.tuple #[u, v]) ∧ Num w2 u (r.num * s.den) ∧ Num w2 v (r.den * s.num) ∧ Steps w' w2 := fun w' u v h1 h2 => fDiv1 w' h1 h2 s0 g1 g4
 have rd : ∀ w' u v, Num w' u (r.num * s.den) → Num w' v (r.den * s.num) → Calls Tryz.prog 92 #[u, v] w' fun e w2 => ∃ v, e = .returned v ∧ FR w2 v (r / s) ∧ Steps w' w2 := fun w' u v h1 h2 => by
  have := freduce w' h1 h2 g1 g4 (dens_ne' r s0)
  rw [div_frac r s0] at this
  exact this
 obtain ⟨a1, a2, a3, a4, a5, a6, a7, a8, rfl⟩ := ha.shape
 obtain ⟨b1, b2, b3, b4, b5, b6, b7, b8, rfl⟩ := hb.shape
 have Fa := Hid.mk_ ha
 have Fb := Hid.mk_ hb
 clear ha hb g1 g4 s0
 go_enter_defers Tryz.func52, Tryz.ntmps52
 go_wp2_with fail
 refine (fcheck_q _ (Fa.out.keeps keepsB)).mono ?_
 rintro e w1 ⟨rfl, hb1⟩
 have st : Steps _ w1 := hb1
 have B : Below w.heap.size w w1 := belowA st
 have kp : Keeps w w1 := Keeps.then_ keepsB st
 have oa : Blk w1 (w.heap.size) 28 #[.bool a1, .slice a2 a3 a4, .bool a5, .slice a6 a7 a8] := Blk.stepsK st
 have ob : Blk w1 (w.heap.size + 1) 28 #[.bool b1, .slice b2 b3 b4, .bool b5, .slice b6 b7 b8] := Blk.stepsK st
 have or : Blk w1 (w.heap.size + 1 + 1) 28 #[.bool false, .slice none 0 0, .bool false, .slice none 0 0] := Blk.stepsK st
 have oe : Blk w1 (w.heap.size + 1 + 1 + 1) 32 #[.int .i64 0] := Blk.stepsK st
 replace Fa := Hid.mk_ (Fa.out.keeps kp)
 replace Fb := Hid.mk_ (Fb.out.keeps kp)
 clear kp
 clear st
 go_wp2_with fail
 refine (fwant0s _).mono ?_
 rintro e w2 ⟨rfl, hb2⟩
 have st : Steps _ w2 := hb2
 have sk : Below w1.heap.size w1 w2 := belowA st
 replace B := below_steps B (Nat.le_refl _) sk
 replace oa := oa.steps sk
 replace ob := ob.steps sk
 replace or := or.steps sk
 replace oe := oe.steps sk
 replace Fa := Hid.mk_ (Fa.out.steps sk)
 replace Fb := Hid.mk_ (Fb.out.steps sk)
 clear st sk
 have la := oa.lt
 obtain ⟨cb0, cb1, cb2, cb3⟩ := ob.r3
 have lb := ob.lt
 have lr := or.lt
 have le := oe.lt
 go_wp2_with fail
 refine (fcheck_q _ (Fb.out.keeps keepsB)).mono ?_
 rintro e w3 ⟨rfl, hb3⟩
 have st : Steps _ w3 := hb3
 have sk : Below w2.heap.size w2 w3 := belowA st
 replace B := below_steps B (Nat.le_refl _) sk
 replace oa := oa.steps sk
 replace ob := ob.steps sk
 replace or := or.steps sk
 replace oe := oe.steps sk
 replace Fa := Hid.mk_ (Fa.out.steps sk)
 replace Fb := Hid.mk_ (Fb.out.steps sk)
 clear st sk la cb0 cb1 cb2 cb3 lb lr le
 go_wp2_with fail
 refine (fwant0s _).mono ?_
 rintro e w4 ⟨rfl, hb4⟩
 have st : Steps _ w4 := hb4
 have sk : Below w3.heap.size w3 w4 := belowA st
 replace B := below_steps B (Nat.le_refl _) sk
 replace oa := oa.steps sk
 replace ob := ob.steps sk
 replace or := or.steps sk
 replace oe := oe.steps sk
 replace Fa := Hid.mk_ (Fa.out.steps sk)
 replace Fb := Hid.mk_ (Fb.out.steps sk)
 clear st sk
 obtain ⟨ca0, ca1, ca2, ca3⟩ := oa.r3
 have la := oa.lt
 obtain ⟨cb0, cb1, cb2, cb3⟩ := ob.r3
 have lb := ob.lt
 have lr := or.lt
 have le := oe.lt
 go_wp2_with fail
 refine (cl _ _ _ (Fa.out.keeps keepsB) (Fb.out.keeps keepsB)).mono ?_
 rintro e w5 ⟨vn, vd, rfl, hvn, hvd, hb5⟩
 have st : Steps _ w5 := hb5
 have sk : Below w4.heap.size w4 w5 := belowA st
 replace B := below_steps B (Nat.le_refl _) sk
 replace oa := oa.steps sk
 replace ob := ob.steps sk
 replace or := or.steps sk
 replace oe := oe.steps sk
 replace Fa := Hid.mk_ (Fa.out.steps sk)
 replace Fb := Hid.mk_ (Fb.out.steps sk)
 clear st sk ca0 ca1 ca2 ca3 la cb0 cb1 cb2 cb3 lb lr le
 obtain ⟨n1, n2, n3, n4, rfl⟩ := hvn.shape
 obtain ⟨d1, d2, d3, d4, rfl⟩ := hvd.shape
 have Fn := Hid.mk_ hvn
 clear hvn
 have Fd := Hid.mk_ hvd
 clear hvd
 go_wp2_with fail
 refine (rd _ _ _ (Fn.out.keeps keepsB) (Fd.out.keeps keepsB)).mono ?_
 rintro e w6 ⟨vq, rfl, hvq, hb6⟩
 have st : Steps _ w6 := hb6
 have sk : Below w5.heap.size w5 w6 := belowA st
 replace B := below_steps B (Nat.le_refl _) sk
 replace oa := oa.steps sk
 replace ob := ob.steps sk
 replace or := or.steps sk
 replace oe := oe.steps sk
 replace Fa := Hid.mk_ (Fa.out.steps sk)
 replace Fb := Hid.mk_ (Fb.out.steps sk)
 replace Fn := Hid.mk_ (Fn.out.steps sk)
 replace Fd := Hid.mk_ (Fd.out.steps sk)
 clear st sk
 have la := oa.lt
 have lb := ob.lt
 obtain ⟨cr0, cr1, cr2, cr3, fr, lr⟩ := or.s3
 have ce0 := oe.q0
 have fe := oe.fr
 have le := oe.lt
 obtain ⟨q1, q2, q3, q4, q5, q6, q7, q8, rfl⟩ := hvq.shape
 have Fq := Hid.mk_ hvq
 clear hvq
 go_wp2_with fail
 refine leaves_cons (f := 56) (args := #[.pointer (some ⟨w.heap.size + 1 + 1 + 1, 0, none⟩)]) (by simp) (by simp [go_sem]) ?_
 refine (fcatch_idle _ _).mono ?_
 rintro e u' w'' ⟨rfl, rfl, rfl⟩
 refine ⟨_, by simp [results, Tryz.results52, go_sem, la, lb, cr0, cr1, cr2, cr3, fr, lr, ce0, fe, le]; rfl, ?_⟩
 exact ⟨_, rfl, Fq.out.keeps keepsB, belowB⟩
theorem fDivQ {va vb : Value} {r s : Rat} {i j : Nat} (w : World) (ha : FR w va r) (hb : FR w vb s) (hr : sz r i) (hs : sz s j) (hk : i + j ≤ 4095) (s0 : s ≠ 0) :
  Calls Tryz.prog 90 #[va, vb] w fun e w' => ∃ v, e = .returned (.tuple #[v, .int .i64 0]) ∧ FR w' v (r / s) ∧ Steps w w' := by
 have d1 : absN (r.den : Int) ≤ bp i := by rw [den_abs]; exact hr.2
 have d2 : absN (s.den : Int) ≤ bp j := by rw [den_abs]; exact hs.2
 have g1 := fits_bp (absN_mul_le hr.1 d2) hk
 have g4 := fits_bp (absN_mul_le d1 hs.1) hk
 have bo : ∀ w' u v, FR w' u r → FR w' v s → Calls Tryz.prog 52 #[u, v, .func (.func 129) #[] #[]] w' fun e w2 => ∃ v, e = .returned (.tuple #[v, .int .i64 0]) ∧ FR w2 v (r / s) ∧ Steps w' w2 := fun w' u v h1 h2 => fDiv2 w' h1 h2 s0 g1 g4
 obtain ⟨a1, a2, a3, a4, a5, a6, a7, a8, rfl⟩ := ha.shape
 obtain ⟨b1, b2, b3, b4, b5, b6, b7, b8, rfl⟩ := hb.shape
 have Fa := Hid.mk_ ha
 have Fb := Hid.mk_ hb
 clear ha hb hr hs hk g1 g4 d1 d2 s0
 go_enter Tryz.func90, Tryz.ntmps90
 go_wp2_with fail
 refine (bo _ _ _ (Fa.out.keeps keepsB) (Fb.out.keeps keepsB)).mono ?_
 rintro e w1 ⟨vq, rfl, hvq, hb1⟩
 have st : Steps _ w1 := hb1
 have B : Below w.heap.size w w1 := belowA st
 have kp : Keeps w w1 := Keeps.then_ keepsB st
 have oa : Blk w1 (w.heap.size) 28 #[.bool a1, .slice a2 a3 a4, .bool a5, .slice a6 a7 a8] := Blk.stepsK st
 have ob : Blk w1 (w.heap.size + 1) 28 #[.bool b1, .slice b2 b3 b4, .bool b5, .slice b6 b7 b8] := Blk.stepsK st
 have or : Blk w1 (w.heap.size + 1 + 1) 28 #[.bool false, .slice none 0 0, .bool false, .slice none 0 0] := Blk.stepsK st
 replace Fa := Hid.mk_ (Fa.out.keeps kp)
 replace Fb := Hid.mk_ (Fb.out.keeps kp)
 clear kp
 clear st
 have la := oa.lt
 have lb := ob.lt
 obtain ⟨cr0, cr1, cr2, cr3, fr, lr⟩ := or.s3
 obtain ⟨q1, q2, q3, q4, q5, q6, q7, q8, rfl⟩ := hvq.shape
 have Fq := Hid.mk_ hvq
 clear hvq
 go_wp2_with fail
 refine bodyPost_ret (by simp [results, Tryz.results90, go_sem, la, lb, cr0, cr1, cr2, cr3, fr, lr]; rfl) rfl ?_
 exact ⟨_, rfl, Fq.out.keeps keepsB, belowB⟩
theorem rDivQ {va vb : Value} {r s : Rat} {i j : Nat} (w : World) (ha : FR w va r) (hb : FR w vb s) (hr : sz r i) (hs : sz s j) (hk : i + j ≤ 4095) (s0 : s ≠ 0) :
  Calls Tryz.prog 167 #[va, vb] w fun e w' => ∃ v, e = .returned (.tuple #[v, .int .i64 0]) ∧ FR w' v (r / s) ∧ Steps w w' := by
 have fa := ha.fit
 have fb := hb.fit
 have bo := fun (w' : World) (h : Steps w w') => rfboth_q w' (ha.steps h) (hb.steps h)
 obtain ⟨a2, a3, a4, a6, a7, a8, rfl, na, da, -⟩ := ha.nums
 obtain ⟨b2, b3, b4, b6, b7, b8, rfl, nb', db, -⟩ := hb.nums
 have d1 : absN (r.den : Int) ≤ bp i := by rw [den_abs]; exact hr.2
 have d2 : absN (s.den : Int) ≤ bp j := by rw [den_abs]; exact hs.2
 have g1 := fits_bp (absN_mul_le hr.1 d2) hk
 have g4 := fits_bp (absN_mul_le d1 hs.1) hk
 have pr : ∀ w', Steps w w' → Calls Tryz.prog 153 #[.agg #[.bool (decide (r < 0)), .slice a2 a3 a4], .agg #[.bool false, .slice b6 b7 b8], .agg #[.bool false, .slice a6 a7 a8], .agg #[.bool (decide (s < 0)), .slice b2 b3 b4]] w' fun e w2 => ∃ v, e = .returned (.tuple #[v, .int .i64 0]) ∧ FR w2 v (r / s) ∧ Steps w' w2 := fun w' h => by
  refine (rproduct w' (na.steps h) (db.steps h) (da.steps h) (nb'.steps h) fa.1 fb.2 fa.2 fb.1 g1 g4 (dens_ne' r s0)).mono ?_
  rintro e w2 ⟨v, rfl, h1, h2⟩
  have h3 := FR.of_rd (dens_ne' r s0) h1
  rw [div_frac r s0] at h3
  exact ⟨v, rfl, h3, h2⟩
 have hz : ¬ b3 = 0 := len_ne nb' (num_ne s0)
 have hz1 : ((b3 : Int) == 0) = false := by simp [hz]
 obtain ⟨ga, hga⟩ : ∃ g, decide (r < 0) = g := ⟨_, rfl⟩
 obtain ⟨gb, hgb⟩ : ∃ g, decide (s < 0) = g := ⟨_, rfl⟩
 rw [hga, hgb] at pr bo ⊢
 clear hga hgb na da nb' db d1 d2 g1 g4 fa fb ha hb hr hs hk s0
 go_enter Tryz.func167, Tryz.ntmps167
 go_wp2_with fail
 refine (bo _ belowB).mono ?_
 rintro e w1 ⟨rfl, hb1⟩
 have st : Steps _ w1 := hb1
 have Bn : Below w.heap.size w w1 := belowA st
 have oa : Blk w1 (w.heap.size) 28 #[.bool ga, .slice a2 a3 a4, .bool false, .slice a6 a7 a8] := Blk.stepsK st
 have ob : Blk w1 (w.heap.size + 1) 28 #[.bool gb, .slice b2 b3 b4, .bool false, .slice b6 b7 b8] := Blk.stepsK st
 have or : Blk w1 (w.heap.size + 1 + 1) 28 #[.bool false, .slice none 0 0, .bool false, .slice none 0 0] := Blk.stepsK st
 clear st
 have B := Bn
 clear Bn
 obtain ⟨ca0, ca1, ca2, ca3, fa, la⟩ := oa.s3
 obtain ⟨cb0, cb1, cb2, cb3, fb, lb⟩ := ob.s3
 obtain ⟨cr0, cr1, cr2, cr3, fr, lr⟩ := or.s3
 clear bo
 go_wp2_with fail
 refine (pr _ B).mono ?_
 rintro e w2 ⟨vq, rfl, hvq, hb2⟩
 have st : Steps _ w2 := hb2
 have Bn : Below w.heap.size w w2 := belowA st
 have na := oa.stp st
 have nb := ob.stp st
 have nr := or.stp st
 clear B oa ob or ca0 ca1 ca2 ca3 fa la cb0 cb1 cb2 cb3 fb lb cr0 cr1 cr2 cr3 fr lr
 clear st
 have B := Bn
 clear Bn
 have oa := na
 clear na
 obtain ⟨ca0, ca1, ca2, ca3, fa, la⟩ := oa.s3
 have ob := nb
 clear nb
 obtain ⟨cb0, cb1, cb2, cb3, fb, lb⟩ := ob.s3
 have or := nr
 clear nr
 obtain ⟨cr0, cr1, cr2, cr3, fr, lr⟩ := or.s3
 obtain ⟨q1, q2, q3, q4, q5, q6, q7, q8, rfl⟩ := hvq.shape
 have Fq := Hid.mk_ hvq
 clear hvq
 clear pr
 dsimp only; repeat' (first | go_values | go_skip | go_guarded | go_step | go_upon)
 refine bodyPost_ret (by simp [results, Tryz.results167, go_sem, ca0, ca1, ca2, ca3, fa, la, cb0, cb1, cb2, cb3, fb, lb, cr0, cr1, cr2, cr3, fr, lr]; rfl) rfl ?_
 exact ⟨_, rfl, Fq.out.keeps keepsB, belowB⟩
theorem mkeep (a1 : Bool) (a2 : Option Addr) (a3 a4 : Nat) (a5 : Bool) (a6 : Option Addr) (a7 a8 : Nat) {gc : Nat} {tc : TypeId} (w : World) (hc : Blk w gc tc #[.int .i64 0]) :
  Calls Tryz.prog 76 #[.pointer (some ⟨gc, 0, none⟩), .agg #[.bool a1, .slice a2 a3 a4, .bool a5, .slice a6 a7 a8], .int .i64 0] w fun e w' => e = .returned (.agg #[.bool a1, .slice a2 a3 a4, .bool a5, .slice a6 a7 a8]) ∧ Steps w w' := by
 have hl := hc.lt
 have h1 : ¬ w.heap.size = gc := by omega
 have h2 : ¬ w.heap.size + 1 = gc := by omega
 have h3 : ¬ gc = w.heap.size := by omega
 have h4 : ¬ gc = w.heap.size + 1 := by omega
 have cc : w.cell? ⟨gc, 0, none⟩ = some (.int .i64 0) := hc.c 0 rfl
 have cf := hc.fr 0
 have HC := Hid.mk_ hc
 clear hc
 go_enter Tryz.func76, Tryz.ntmps76
 go_wp2_with fail
 refine bodyPost_ret (by simp [results, Tryz.results76, go_sem, h1, h2, h3, h4, cc, cf]; rfl) rfl ?_
 exact ⟨rfl, Below.alloc (Below.alloc (below_same (Below.refl _ _) HC.out rfl) (by simp) _) (by simp) _⟩
theorem mkeepQ {va : Value} {r : Rat} {gc : Nat} {tc : TypeId} (w : World) (hc : Blk w gc tc #[.int .i64 0]) (ha : FR w va r) :
  Calls Tryz.prog 76 #[.pointer (some ⟨gc, 0, none⟩), va, .int .i64 0] w fun e w' => ∃ v, e = .returned v ∧ FR w' v r ∧ Steps w w' := by
 obtain ⟨a1, a2, a3, a4, a5, a6, a7, a8, rfl⟩ := ha.shape
 refine (mkeep a1 a2 a3 a4 a5 a6 a7 a8 w hc).mono ?_
 rintro e w' ⟨rfl, hs⟩
 exact ⟨_, rfl, ha.steps hs, hs⟩
theorem mof (x : Int) {gc : Nat} {tc : TypeId} (w : World) (hc : Blk w gc tc #[.int .i64 0]) (x0 : -9223372036854775808 ≤ x) (x1 : x ≤ 9223372036854775807) :
  Calls Tryz.prog 66 #[.pointer (some ⟨gc, 0, none⟩), .int .i64 x] w fun e w' => ∃ v, e = .returned v ∧ FR w' v ((x : Rat)) ∧ Steps w w' := by
 have KP : ∀ w' u, Steps w w' → FR w' u ((x : Rat)) → Calls Tryz.prog 76 #[.pointer (some ⟨gc, 0, none⟩), u, .int .i64 0] w' fun e w2 => ∃ v, e = .returned v ∧ FR w2 v ((x : Rat)) ∧ Steps w' w2 := fun w' u st h => mkeepQ w' (hc.steps st) h
 have CL : ∀ w', Steps w w' → Calls Tryz.prog 77 #[.int .i64 x, .int .i64 1] w' fun e w2 => ∃ v, e = .returned (.tuple #[v, .int .i64 0]) ∧ FR w2 v ((x : Rat)) ∧ Steps w' w2 := fun w' st => by have := fofQ x 1 w' x0 x1 (by decide) (by decide) (by decide); rw [one_divQ] at this; exact this
 generalize (x : Rat) = r at *
 clear hc x0 x1
 go_enter Tryz.func66, Tryz.ntmps66
 go_wp2_with fail
 refine (CL _ belowB).mono ?_
 rintro e w1 ⟨vx_, rfl, hvx_, hb1⟩
 have st : Steps _ w1 := hb1
 have B : Below w.heap.size w w1 := belowA st
 have or : Blk w1 (w.heap.size) 28 #[.bool false, .slice none 0 0, .bool false, .slice none 0 0] := Blk.stepsK st
 clear st
 obtain ⟨x_1, x_2, x_3, x_4, x_5, x_6, x_7, x_8, rfl⟩ := hvx_.shape
 have Fx_ := Hid.mk_ hvx_
 clear hvx_
 go_wp2_with fail
 refine (KP _ _ belowB (Fx_.out.keeps keepsB)).mono ?_
 rintro e w2 ⟨vq, rfl, hvq, hb2⟩
 have st : Steps _ w2 := hb2
 have sk : Below w1.heap.size w1 w2 := belowA st
 replace B := below_steps B (Nat.le_refl _) sk
 replace or := or.steps sk
 replace Fx_ := Hid.mk_ (Fx_.out.steps sk)
 clear st sk
 obtain ⟨cr0, cr1, cr2, cr3, fr, lr⟩ := or.s3
 obtain ⟨q1, q2, q3, q4, q5, q6, q7, q8, rfl⟩ := hvq.shape
 have Fq := Hid.mk_ hvq
 clear hvq
 go_wp2_with fail
 refine bodyPost_ret (by simp [results, Tryz.results66, go_sem, cr0, cr1, cr2, cr3, fr, lr]; rfl) rfl ?_
 exact ⟨_, rfl, Fq.out.keeps keepsB, belowB⟩
theorem madd {va vb : Value} {r s : Rat} {i j : Nat} {gc : Nat} {tc : TypeId} (w : World) (hc : Blk w gc tc #[.int .i64 0]) (ha : FR w va r) (hb : FR w vb s) (hr : sz r i) (hs : sz s j) (hk : i + j ≤ 4094) :
  Calls Tryz.prog 83 #[.pointer (some ⟨gc, 0, none⟩), va, vb] w fun e w' => ∃ v, e = .returned v ∧ FR w' v (r + s) ∧ Steps w w' := by
 have KP : ∀ w' u, Steps w w' → FR w' u (r + s) → Calls Tryz.prog 76 #[.pointer (some ⟨gc, 0, none⟩), u, .int .i64 0] w' fun e w2 => ∃ v, e = .returned v ∧ FR w2 v (r + s) ∧ Steps w' w2 := fun w' u st h => mkeepQ w' (hc.steps st) h
 have CL : ∀ w', Steps w w' → Calls Tryz.prog 123 #[va, vb] w' fun e w2 => ∃ v, e = .returned (.tuple #[v, .int .i64 0]) ∧ FR w2 v (r + s) ∧ Steps w' w2 := fun w' st => fAddQ w' (ha.steps st) (hb.steps st) hr hs hk
 obtain ⟨a1, a2, a3, a4, a5, a6, a7, a8, rfl⟩ := ha.shape
 obtain ⟨b1, b2, b3, b4, b5, b6, b7, b8, rfl⟩ := hb.shape
 clear ha hb hr hs hk hc
 generalize r + s = t at *
 go_enter Tryz.func83, Tryz.ntmps83
 go_wp2_with fail
 refine (CL _ belowB).mono ?_
 rintro e w1 ⟨vx_, rfl, hvx_, hb1⟩
 have st : Steps _ w1 := hb1
 have B : Below w.heap.size w w1 := belowA st
 have oa : Blk w1 (w.heap.size) 28 #[.bool a1, .slice a2 a3 a4, .bool a5, .slice a6 a7 a8] := Blk.stepsK st
 have ob : Blk w1 (w.heap.size + 1) 28 #[.bool b1, .slice b2 b3 b4, .bool b5, .slice b6 b7 b8] := Blk.stepsK st
 have or : Blk w1 (w.heap.size + 1 + 1) 28 #[.bool false, .slice none 0 0, .bool false, .slice none 0 0] := Blk.stepsK st
 clear st
 obtain ⟨x_1, x_2, x_3, x_4, x_5, x_6, x_7, x_8, rfl⟩ := hvx_.shape
 have Fx_ := Hid.mk_ hvx_
 clear hvx_
 go_wp2_with fail
 refine (KP _ _ belowB (Fx_.out.keeps keepsB)).mono ?_
 rintro e w2 ⟨vq, rfl, hvq, hb2⟩
 have st : Steps _ w2 := hb2
 have sk : Below w1.heap.size w1 w2 := belowA st
 replace B := below_steps B (Nat.le_refl _) sk
 replace oa := oa.steps sk
 replace ob := ob.steps sk
 replace or := or.steps sk
 replace Fx_ := Hid.mk_ (Fx_.out.steps sk)
 clear st sk
 have la := oa.lt
 have lb := ob.lt
 obtain ⟨cr0, cr1, cr2, cr3, fr, lr⟩ := or.s3
 obtain ⟨q1, q2, q3, q4, q5, q6, q7, q8, rfl⟩ := hvq.shape
 have Fq := Hid.mk_ hvq
 clear hvq
 go_wp2_with fail
 refine bodyPost_ret (by simp [results, Tryz.results83, go_sem, la, lb, cr0, cr1, cr2, cr3, fr, lr]; rfl) rfl ?_
 exact ⟨_, rfl, Fq.out.keeps keepsB, belowB⟩
theorem msub {va vb : Value} {r s : Rat} {i j : Nat} {gc : Nat} {tc : TypeId} (w : World) (hc : Blk w gc tc #[.int .i64 0]) (ha : FR w va r) (hb : FR w vb s) (hr : sz r i) (hs : sz s j) (hk : i + j ≤ 4094) :
  Calls Tryz.prog 78 #[.pointer (some ⟨gc, 0, none⟩), va, vb] w fun e w' => ∃ v, e = .returned v ∧ FR w' v (r - s) ∧ Steps w w' := by
 have KP : ∀ w' u, Steps w w' → FR w' u (r - s) → Calls Tryz.prog 76 #[.pointer (some ⟨gc, 0, none⟩), u, .int .i64 0] w' fun e w2 => ∃ v, e = .returned v ∧ FR w2 v (r - s) ∧ Steps w' w2 := fun w' u st h => mkeepQ w' (hc.steps st) h
 have CL : ∀ w', Steps w w' → Calls Tryz.prog 119 #[va, vb] w' fun e w2 => ∃ v, e = .returned (.tuple #[v, .int .i64 0]) ∧ FR w2 v (r - s) ∧ Steps w' w2 := fun w' st => fSubQ w' (ha.steps st) (hb.steps st) hr hs hk
 obtain ⟨a1, a2, a3, a4, a5, a6, a7, a8, rfl⟩ := ha.shape
 obtain ⟨b1, b2, b3, b4, b5, b6, b7, b8, rfl⟩ := hb.shape
 clear ha hb hr hs hk hc
 generalize r - s = t at *
 go_enter Tryz.func78, Tryz.ntmps78
 go_wp2_with fail
 refine (CL _ belowB).mono ?_
 rintro e w1 ⟨vx_, rfl, hvx_, hb1⟩
 have st : Steps _ w1 := hb1
 have B : Below w.heap.size w w1 := belowA st
 have oa : Blk w1 (w.heap.size) 28 #[.bool a1, .slice a2 a3 a4, .bool a5, .slice a6 a7 a8] := Blk.stepsK st
 have ob : Blk w1 (w.heap.size + 1) 28 #[.bool b1, .slice b2 b3 b4, .bool b5, .slice b6 b7 b8] := Blk.stepsK st
 have or : Blk w1 (w.heap.size + 1 + 1) 28 #[.bool false, .slice none 0 0, .bool false, .slice none 0 0] := Blk.stepsK st
 clear st
 obtain ⟨x_1, x_2, x_3, x_4, x_5, x_6, x_7, x_8, rfl⟩ := hvx_.shape
 have Fx_ := Hid.mk_ hvx_
 clear hvx_
 go_wp2_with fail
 refine (KP _ _ belowB (Fx_.out.keeps keepsB)).mono ?_
 rintro e w2 ⟨vq, rfl, hvq, hb2⟩
 have st : Steps _ w2 := hb2
 have sk : Below w1.heap.size w1 w2 := belowA st
 replace B := below_steps B (Nat.le_refl _) sk
 replace oa := oa.steps sk
 replace ob := ob.steps sk
 replace or := or.steps sk
 replace Fx_ := Hid.mk_ (Fx_.out.steps sk)
 clear st sk
 have la := oa.lt
 have lb := ob.lt
 obtain ⟨cr0, cr1, cr2, cr3, fr, lr⟩ := or.s3
 obtain ⟨q1, q2, q3, q4, q5, q6, q7, q8, rfl⟩ := hvq.shape
 have Fq := Hid.mk_ hvq
 clear hvq
 go_wp2_with fail
 refine bodyPost_ret (by simp [results, Tryz.results78, go_sem, la, lb, cr0, cr1, cr2, cr3, fr, lr]; rfl) rfl ?_
 exact ⟨_, rfl, Fq.out.keeps keepsB, belowB⟩
theorem mmul {va vb : Value} {r s : Rat} {i j : Nat} {gc : Nat} {tc : TypeId} (w : World) (hc : Blk w gc tc #[.int .i64 0]) (ha : FR w va r) (hb : FR w vb s) (hr : sz r i) (hs : sz s j) (hk : i + j ≤ 4095) :
  Calls Tryz.prog 84 #[.pointer (some ⟨gc, 0, none⟩), va, vb] w fun e w' => ∃ v, e = .returned v ∧ FR w' v (r * s) ∧ Steps w w' := by
 have KP : ∀ w' u, Steps w w' → FR w' u (r * s) → Calls Tryz.prog 76 #[.pointer (some ⟨gc, 0, none⟩), u, .int .i64 0] w' fun e w2 => ∃ v, e = .returned v ∧ FR w2 v (r * s) ∧ Steps w' w2 := fun w' u st h => mkeepQ w' (hc.steps st) h
 have CL : ∀ w', Steps w w' → Calls Tryz.prog 20 #[va, vb] w' fun e w2 => ∃ v, e = .returned (.tuple #[v, .int .i64 0]) ∧ FR w2 v (r * s) ∧ Steps w' w2 := fun w' st => fMulQ w' (ha.steps st) (hb.steps st) hr hs hk
 obtain ⟨a1, a2, a3, a4, a5, a6, a7, a8, rfl⟩ := ha.shape
 obtain ⟨b1, b2, b3, b4, b5, b6, b7, b8, rfl⟩ := hb.shape
 clear ha hb hr hs hk hc
 generalize r * s = t at *
 go_enter Tryz.func84, Tryz.ntmps84
 go_wp2_with fail
 refine (CL _ belowB).mono ?_
 rintro e w1 ⟨vx_, rfl, hvx_, hb1⟩
 have st : Steps _ w1 := hb1
 have B : Below w.heap.size w w1 := belowA st
 have oa : Blk w1 (w.heap.size) 28 #[.bool a1, .slice a2 a3 a4, .bool a5, .slice a6 a7 a8] := Blk.stepsK st
 have ob : Blk w1 (w.heap.size + 1) 28 #[.bool b1, .slice b2 b3 b4, .bool b5, .slice b6 b7 b8] := Blk.stepsK st
 have or : Blk w1 (w.heap.size + 1 + 1) 28 #[.bool false, .slice none 0 0, .bool false, .slice none 0 0] := Blk.stepsK st
 clear st
 obtain ⟨x_1, x_2, x_3, x_4, x_5, x_6, x_7, x_8, rfl⟩ := hvx_.shape
 have Fx_ := Hid.mk_ hvx_
 clear hvx_
 go_wp2_with fail
 refine (KP _ _ belowB (Fx_.out.keeps keepsB)).mono ?_
 rintro e w2 ⟨vq, rfl, hvq, hb2⟩
 have st : Steps _ w2 := hb2
 have sk : Below w1.heap.size w1 w2 := belowA st
 replace B := below_steps B (Nat.le_refl _) sk
 replace oa := oa.steps sk
 replace ob := ob.steps sk
 replace or := or.steps sk
 replace Fx_ := Hid.mk_ (Fx_.out.steps sk)
 clear st sk
 have la := oa.lt
 have lb := ob.lt
 obtain ⟨cr0, cr1, cr2, cr3, fr, lr⟩ := or.s3
 obtain ⟨q1, q2, q3, q4, q5, q6, q7, q8, rfl⟩ := hvq.shape
 have Fq := Hid.mk_ hvq
 clear hvq
 go_wp2_with fail
 refine bodyPost_ret (by simp [results, Tryz.results84, go_sem, la, lb, cr0, cr1, cr2, cr3, fr, lr]; rfl) rfl ?_
 exact ⟨_, rfl, Fq.out.keeps keepsB, belowB⟩
theorem mcompare {va vb : Value} {r s : Rat} {i j : Nat} {gc : Nat} {tc : TypeId} (w : World) (hc : Blk w gc tc #[.int .i64 0]) (ha : FR w va r) (hb : FR w vb s) (hr : sz r i) (hs : sz s j) (hk : i + j ≤ 4095) :
  Calls Tryz.prog 67 #[.pointer (some ⟨gc, 0, none⟩), va, vb] w fun e w' => e = .returned (.int .i64 (cmpQ r s)) ∧ Steps w w' := by
 have KP : ∀ w', Steps w w' → Calls Tryz.prog 76 #[.pointer (some ⟨gc, 0, none⟩), .agg #[.bool false, .slice none 0 0, .bool false, .slice none 0 0], .int .i64 0] w' fun e w2 => e = .returned (.agg #[.bool false, .slice none 0 0, .bool false, .slice none 0 0]) ∧ Steps w' w2 := fun w' st => mkeep _ _ _ _ _ _ _ _ w' (hc.steps st)
 have CL : ∀ w', Steps w w' → Calls Tryz.prog 21 #[va, vb] w' fun e w2 => e = .returned (.tuple #[.int .i64 (cmpQ r s), .int .i64 0]) ∧ Steps w' w2 := fun w' st => fCmpQ w' (ha.steps st) (hb.steps st) hr hs hk
 obtain ⟨a1, a2, a3, a4, a5, a6, a7, a8, rfl⟩ := ha.shape
 obtain ⟨b1, b2, b3, b4, b5, b6, b7, b8, rfl⟩ := hb.shape
 generalize cmpQ r s = k at *
 clear ha hb hr hs hk hc
 go_enter Tryz.func67, Tryz.ntmps67
 go_wp2_with fail
 refine (CL _ belowB).mono ?_
 rintro e w1 ⟨rfl, hb1⟩
 have st : Steps _ w1 := hb1
 have B : Below w.heap.size w w1 := belowA st
 have oa : Blk w1 (w.heap.size) 28 #[.bool a1, .slice a2 a3 a4, .bool a5, .slice a6 a7 a8] := Blk.stepsK st
 have ob : Blk w1 (w.heap.size + 1) 28 #[.bool b1, .slice b2 b3 b4, .bool b5, .slice b6 b7 b8] := Blk.stepsK st
 clear st
 go_wp2_with fail
 refine (KP _ belowB).mono ?_
 rintro e w2 ⟨rfl, hb2⟩
 have st : Steps _ w2 := hb2
 have sk : Below w1.heap.size w1 w2 := belowA st
 replace B := below_steps B (Nat.le_refl _) sk
 replace oa := oa.steps sk
 replace ob := ob.steps sk
 clear st sk
 go_wp2_with fail
 refine bodyPost_ret (by simp [results, Tryz.results67, go_sem, ]; rfl) rfl ?_
 exact ⟨rfl, belowB⟩
end Go.Proofs.YtffmbepfbienaaaGreat
