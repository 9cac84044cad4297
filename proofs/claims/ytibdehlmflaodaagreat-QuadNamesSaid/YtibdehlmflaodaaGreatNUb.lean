import Derived.Test.YtibdehlmflaodaaGreatNNo
import Derived.Test.YtibdehlmflaodaaGreatNTx
import Derived.Test.YtibdehlmflaodaaGreatNNp
import Derived.Test.YtibdehlmflaodaaGreatNTz
set_option linter.unusedVariables false
set_option linter.unusedSimpArgs false
set_option maxHeartbeats 6400000
set_option maxRecDepth 1000000
namespace Go.Proofs.YtibdehlmflaodaaGreat
open Go.RowKit
def PM (x y : Int) (l : List Int) : Prop := lval l = absN x * absN y ∧ l.length ≤ few
def PE (L l : List Int) : Prop := l = L
theorem wMul {va vb : Value} {x y : Int} (w : World) (ha : Num w va x) (hb : Num w vb y) (fx : fits x) (fy : fits y) :
  Calls Tryz.prog 33 #[va, vb] w fun e w' => ∃ v, e = .returned (.tuple #[v, .int .i64 (errN (x * y))]) ∧ Num w' v (clipN (x * y)) ∧ Steps w w' := by
 have ck : ∀ (w' : World) (q : Nat) (sa sb : Value), Blk w' q 28 #[.bool (decide (x < 0)), sa, .bool (decide (y < 0)), sb] → Lim w' sa (limbs (absN x)) → Lim w' sb (limbs (absN y)) →
   Calls Tryz.prog 54 #[.slice (some ⟨q, 0, none⟩) 2 2] w' fun e w2 => e = .returned (.int .i64 0) ∧ Steps w' w2 := fun w' q sa sb hb h1 h2 => wcheck2_ok w' hb h1 h2 fx fy
 obtain ⟨aa, ca, rfl, pa⟩ := ha.parts
 obtain ⟨ab, cb, rfl, pb⟩ := hb.parts
 unfold fits at fx fy
 have nx : (limbs (absN x)).length ≤ few := by unfold few; omega
 have ny : (limbs (absN y)).length ≤ few := by unfold few; omega
 have vx := lval_limbs (absN_nonneg x)
 have vy := lval_limbs (absN_nonneg y)
 obtain ⟨g, hg⟩ : ∃ g, (decide (x < 0) != decide (y < 0)) = g := ⟨_, rfl⟩
 have tm : ∀ w' sa sb, Lim w' sa (limbs (absN x)) → Lim w' sb (limbs (absN y)) → Calls Tryz.prog 57 #[sa, sb] w' fun e w2 => ∃ v, e = .returned v ∧ GLi (PM x y) v w2 ∧ Steps w' w2 := fun w' sa sb h1 h2 => by
  refine (wtimes w' h1 h2 nx ny).mono ?_
  rintro e w2 ⟨v, l, rfl, h1, h2, h3, h4⟩
  exact ⟨v, rfl, ⟨l, ⟨by rw [h2, vx, vy], by unfold few; omega⟩, h1⟩, h4⟩
 have mk : ∀ w' s, GLi (PM x y) s w' → Calls Tryz.prog 56 #[.bool g, s] w' fun e w2 => ∃ v, e = .returned (.tuple #[v, .int .i64 (errN (x * y))]) ∧ Num w2 v (clipN (x * y)) ∧ Steps w' w2 := fun w' s ⟨l, ⟨h2, h3⟩, h⟩ => by
  have := wmadeN g w' h h3
  rw [h2, ← hg, zv_mul] at this
  rw [← hg]
  exact this
 obtain ⟨LX, hLX⟩ : ∃ l, limbs (absN x) = l := ⟨_, rfl⟩
 obtain ⟨LY, hLY⟩ : ∃ l, limbs (absN y) = l := ⟨_, rfl⟩
 rw [hLX] at tm ck pa ⊢
 rw [hLY] at tm ck pb ⊢
 obtain ⟨n, hn⟩ : ∃ n, LX.length = n := ⟨_, rfl⟩
 obtain ⟨m, hm⟩ : ∃ m, LY.length = m := ⟨_, rfl⟩
 rw [hn] at pa ⊢
 rw [hm] at pb ⊢
 obtain ⟨gx, hgx⟩ : ∃ b, decide (x < 0) = b := ⟨_, rfl⟩
 obtain ⟨gy, hgy⟩ : ∃ b, decide (y < 0) = b := ⟨_, rfl⟩
 rw [hgx, hgy] at hg ck ⊢
 have hgg : (gx == gy) = !g := by rw [← hg]; cases gx <;> cases gy <;> rfl
 have Fa := Hid.mk_ pa
 have Fb := Hid.mk_ pb
 clear ha hb pa pb hn hm hgx hgy hg hLX hLY fx fy nx ny vx vy
 go_enter Tryz.func33, Tryz.ntmps33
 go_wp2_with fail
 refine (ck _ _ _ _ ownK (Fa.out.keeps keepsB) (Fb.out.keeps keepsB)).mono ?_
 rintro e w1 ⟨rfl, hb1⟩
 have st : Steps _ w1 := hb1
 have B : Below w.heap.size w w1 := belowA st
 have kp : Keeps w w1 := Keeps.then_ keepsB st
 have oa : Blk w1 (w.heap.size) 28 #[.bool gx, .slice aa n ca] := Blk.stepsK st
 have ob : Blk w1 (w.heap.size + 1) 28 #[.bool gy, .slice ab m cb] := Blk.stepsK st
 have or : Blk w1 (w.heap.size + 1 + 1) 28 #[.bool false, .slice none 0 0] := Blk.stepsK st
 replace Fa := Hid.mk_ (Fa.out.keeps kp)
 replace Fb := Hid.mk_ (Fb.out.keeps kp)
 clear kp
 clear st
 obtain ⟨ca0, ca1⟩ := oa.r1
 have la := oa.lt
 obtain ⟨cb0, cb1⟩ := ob.r1
 have lb := ob.lt
 clear ck
 have zr : w.heap.size + 1 + 1 < w1.heap.size := or.lt
 have zz1 := B.size
 go_upto_region 4 with fail
 refine Reg.wp_chain_n (fun N0 D v W => Below w.heap.size w W ∧ Keeps w1 W ∧ N0 ≤ W.heap.size ∧ Blk W (w.heap.size) 28 #[.bool gx, .slice aa n ca] ∧ Blk W (w.heap.size + 1) 28 #[.bool gy, .slice ab m cb] ∧ ((D 13 = false → Blk W (w.heap.size + 1 + 1) 28 #[.bool false, .slice none 0 0]) ∧ (D 13 = true → D 10 = true ∧ ∃ cs, v 10 = .tuple #[.agg cs, .int .i64 (errN (x * y))] ∧ Blk W (w.heap.size + 1 + 1) 28 cs)))
  (Reg.inl [9, 10, 13]) (Reg.gv [(9, IsLi), (10, IsNuE (errN (x * y)))]) (gw [(9, GLi (PM x y)), (10, GNuE (clipN (x * y)) (errN (x * y)))]) (fun _ => Keeps) (fun _ _ => False) (Reg.pl [(10, [(9, some 24)]), (13, [(10, some 25)]), (15, [(9, some 24), (10, some 25)])]) (Reg.pl [(10, [13])])
  (by kernel_rfl) (by kernel_rfl) (by kernel_rfl) (Reg.gvA _) (fun N0 hN0 => ⟨fun v => ?_, fun D v v' W hv hj => ?_, fun D v k j W W' x _ _ _ _ hk hg => gwA hk hg, fun _ _ _ _ h => h.elim, fun ops' Q' hops hQ => ?_⟩)
 · exact ⟨belowB, keepsB, Nat.le_of_eq hN0.out, ownK, ownK, ⟨fun _ => ownK, (fun h => Bool.noConfusion h)⟩⟩
 ·
  obtain ⟨j0, jk, jn, b_a, b_b, b_r⟩ := hj
  exact ⟨j0, jk, jn, b_a, b_b, ⟨b_r.1, fun h => by obtain ⟨d, cs, e, hb⟩ := b_r.2 h; exact ⟨d, cs, (hv 10 d) ▸ e, hb⟩⟩⟩
 have eN := hN0.out
 try simp only [World.size_alloc, World.size_setCell, World.size_drew, World.heap_drewN] at eN
 have i_a : w.heap.size < N0 := by first | omega | (have h := oa.lt; omega)
 have i_b : w.heap.size + 1 < N0 := by first | omega | (have h := ob.lt; omega)
 have i_r : w.heap.size + 1 + 1 < N0 := by first | omega | (have h := or.lt; omega)
 have iw : w.heap.size ≤ N0 := by first | omega | (have h := B.size; omega)
 clear ca0 ca1 la cb0 cb1 lb
 clear hN0
 refine Reg.RP0 15 ?_
 apply Reg.RP rfl rfl rfl 16 rfl rfl
 ·
  intro D v' W' hc hj hf K hK
  obtain ⟨j0, jk, jn, b_a, b_b, b_r⟩ := hj
  obtain ⟨c0, c1⟩ := b_a.r1
  go_step
  exact hK.out
 · rfl
 refine Reg.RP0 17 ?_
 apply Reg.RP rfl rfl rfl 18 rfl rfl
 ·
  intro D v' W' hc hj hf K hK
  obtain ⟨j0, jk, jn, b_a, b_b, b_r⟩ := hj
  obtain ⟨c0, c1⟩ := b_b.r1
  go_step
  exact hK.out
 · rfl
 refine Reg.RP0 19 ?_
 refine Reg.RP0 20 ?_
 apply Reg.RP rfl rfl rfl 21 rfl rfl
 ·
  intro D v' W' hc hj hf K hK
  obtain ⟨j0, jk, jn, b_a, b_b, b_r⟩ := hj
  obtain ⟨c0, c1⟩ := b_a.r1
  go_step
  exact hK.out
 · rfl
 refine Reg.RP0 22 ?_
 apply Reg.RP rfl rfl rfl 23 rfl rfl
 ·
  intro D v' W' hc hj hf K hK
  obtain ⟨j0, jk, jn, b_a, b_b, b_r⟩ := hj
  obtain ⟨c0, c1⟩ := b_b.r1
  go_step
  exact hK.out
 · rfl
 refine Reg.RC_call rfl (tlt rfl) rfl (fun D v' W' hc hj hf K hK => ?_) ?_
 ·
  obtain ⟨j0, jk, jn, b_a, b_b, b_r⟩ := hj
  clear hf
  go_step
  refine (tm W' _ _ (Fa.out.keeps jk) (Fb.out.keeps jk)).mono ?_
  rintro e W2 ⟨u, rfl, hu, hs⟩
  obtain ⟨t1, t2, t3, rfl⟩ := hu.shape
  exact hK.out _ W2 (Keeps.steps hs) ⟨jst j0 hs, jk.then_ hs, jsz jn hs, b_a.steps hs, b_b.steps hs, ⟨fun h => (b_r.1 h).steps hs, fun h => by obtain ⟨d, cs, e, hb⟩ := b_r.2 h; exact ⟨d, cs, e, hb.steps hs⟩⟩⟩ hu ⟨_, _, _, rfl⟩
 rintro _ ⟨t1, t2, t3, rfl⟩
 refine Reg.RC_at (b := ⟨#[_,_,_,_,_,_,_,_,_,_,_,_,_,_,_,_,_,_,_,_,_,_,_,_,_,_,_,_], []⟩) rfl ?_
 refine Reg.RC_call rfl (tlt rfl) rfl (fun D v' W' hc hj hf K hK => ?_) ?_
 ·
  obtain ⟨j0, jk, jn, b_a, b_b, b_r⟩ := hj
  have g9 : GLi (PM x y) _ W' := (hf (9, some 24) (.head _) rfl).2.2
  clear hf
  go_step
  refine (mk W' _ g9).mono ?_
  rintro e W2 ⟨u, rfl, hu, hs⟩
  obtain ⟨p1, p2, p3, p4, rfl⟩ := hu.shape
  exact hK.out _ W2 (Keeps.steps hs) ⟨jst j0 hs, jk.then_ hs, jsz jn hs, b_a.steps hs, b_b.steps hs, ⟨fun h => (b_r.1 h).steps hs, fun h => Bool.noConfusion ((hc.2 13 (by decide)).symm.trans h)⟩⟩ ⟨_, rfl, hu⟩ ⟨_, _, _, _, rfl⟩
 rintro _ ⟨p1, p2, p3, p4, rfl⟩
 refine Reg.RC_at (b := ⟨#[_,_,_,_,_,_,_,_,_,_,_,_,_,_,_,_,_,_,_,_,_,_,_,_,_,_,_,_], []⟩) rfl ?_
 refine Reg.RP0 26 ?_
 refine Reg.RP0 27 ?_
 refine Reg.RC_call rfl (by intro t ht; cases ht) rfl (fun D v' W' hc hj hf K hK => ?_) (fun _ _ => Reg.RC_at (b := ⟨_, []⟩) rfl ?_)
 ·
  obtain ⟨j0, jk, jn, b_a, b_b, b_r⟩ := hj
  have hb := b_r.1 hc.1
  have e2 : w.heap.size ≤ w.heap.size + 1 + 1 := by omega
  have fc := hf (10, some 25) (.head _) rfl
  have ec : v' 10 = .tuple #[.agg #[.bool p1, .slice p2 p3 p4], .int .i64 (errN (x * y))] := fc.2.1
  have ff := hb.fr
  obtain ⟨cc0, cc1⟩ := hb.r1
  go_step
  exact hK.out undef _ (Keeps.only hb rfl ((Only.refl _ _).set.set)) ⟨(Below.setCell (p := ⟨w.heap.size + 1 + 1, 1, none⟩) (Below.setCell (p := ⟨w.heap.size + 1 + 1, 0, none⟩) j0 (by show w.heap.size ≤ w.heap.size + 1 + 1; omega) _) (by show w.heap.size ≤ w.heap.size + 1 + 1; omega) _), jk.trans (Keeps.only hb rfl ((Only.refl _ _).set.set)), by simpa using jn, ((b_a).far' (show w.heap.size ≠ w.heap.size + 1 + 1 by omega)).far' (show w.heap.size ≠ w.heap.size + 1 + 1 by omega), ((b_b).far' (show w.heap.size + 1 ≠ w.heap.size + 1 + 1 by omega)).far' (show w.heap.size + 1 ≠ w.heap.size + 1 + 1 by omega), ⟨fun h => Bool.noConfusion h, fun _ => ⟨fc.1, _, ec, (Blk.set2 (cs' := #[.bool p1, .slice p2 p3 p4]) (Blk.set2 (cs' := #[.bool p1, .slice none 0 0]) hb (i := 0) rfl) (i := 1) rfl)⟩⟩⟩ trivial trivial
 refine Reg.RP0 5 ?_
 refine Reg.RC_end (fun Dn v' w2 hd hj hf => ?_)
 obtain ⟨j0, jk, jn, b_a, b_b, b_r⟩ := hj
 have B := j0
 have oa := b_a
 clear b_a
 have ob := b_b
 clear b_b
 obtain ⟨-, cs_, ee, or⟩ := b_r.2 (hd 13 (Nat.le_of_ble_eq_true rfl))
 have ef : v' 10 = .tuple #[.agg #[.bool p1, .slice p2 p3 p4], .int .i64 (errN (x * y))] := (hf (10, some 25) (.tail _ (.head _)) rfl).2.1
 obtain rfl : #[.bool p1, .slice p2 p3 p4] = cs_ := by have := ef.symm.trans ee; simpa only [Value.tuple.injEq, Value.agg.injEq, Array.mk.injEq, List.cons.injEq, and_true, true_and] using this
 clear b_r ee ef
 have Fp := Hid.mk_ (GNuE.get (z := clipN (x * y)) (e := (errN (x * y))) (v := .agg #[.bool p1, .slice p2 p3 p4]) (hf (10, some 25) (.tail _ (.head _)) rfl).2.2)
 replace Fa := Hid.mk_ (Fa.out.keeps jk)
 replace Fb := Hid.mk_ (Fb.out.keeps jk)
 clear hd hf jk j0
 refine hQ _ _ ?_
 clear hQ hops Q' ops'
 obtain ⟨cr0, cr1⟩ := or.r1
 have lr := or.lt
 clear tm mk
 go_wp2_with fail
 refine bodyPost_ret (by simp [results, Tryz.results33, go_sem, cr0, cr1, lr]; rfl) rfl ?_
 exact ⟨_, rfl, Fp.out.keeps keepsB, belowB⟩
theorem wNeg {va : Value} {x : Int} (w : World) (ha : Num w va x) (fx : fits x) :
  Calls Tryz.prog 76 #[va] w fun e w' => ∃ v, e = .returned (.tuple #[v, .int .i64 0]) ∧ Num w' v (-x) ∧ Steps w w' := by
 have ck : ∀ (w' : World) (q : Nat) (sa : Value), Blk w' q 28 #[.bool (decide (x < 0)), sa] → Lim w' sa (limbs (absN x)) →
   Calls Tryz.prog 54 #[.slice (some ⟨q, 0, none⟩) 1 1] w' fun e w2 => e = .returned (.int .i64 0) ∧ Steps w' w2 := fun w' q sa hb h1 => by
  have := wcheck1 w' hb h1
  rw [show errC (valid (decide (x < 0)) (limbs (absN x))) = 0 from if_pos (valid_of fx)] at this
  exact this
 obtain ⟨aa, ca, rfl, pa⟩ := ha.parts
 have nx : (limbs (absN x)).length ≤ few := by unfold fits at fx; unfold few; omega
 have vx := lval_limbs (absN_nonneg x)
 have cl : ∀ w' sa, Lim w' sa (limbs (absN x)) → Calls Tryz.prog 69 #[sa] w' fun e w2 => ∃ v, e = .returned v ∧ GLi (PE (limbs (absN x))) v w2 ∧ Steps w' w2 := fun w' sa h1 => by
  refine (wclone w' h1 nx).mono ?_
  rintro e w2 ⟨v, rfl, _, h2, h3⟩
  exact ⟨v, rfl, ⟨_, rfl, h2⟩, h3⟩
 have mk : ∀ w' s, GLi (PE (limbs (absN x))) s w' → Calls Tryz.prog 56 #[.bool (!decide (x < 0)), s] w' fun e w2 => ∃ v, e = .returned (.tuple #[v, .int .i64 0]) ∧ Num w2 v (-x) ∧ Steps w' w2 := fun w' s ⟨l, hl, h⟩ => by
  obtain rfl : l = limbs (absN x) := hl
  have := wmadeN (!decide (x < 0)) w' h nx
  have e : zv (!decide (x < 0)) (lval (limbs (absN x))) = -x := by
   rw [vx]; unfold zv absN
   by_cases h : x < 0
   · rw [decide_eq_true h]; simp; omega
   · rw [decide_eq_false h]; simp; omega
  rw [e, show errN (-x) = 0 from if_pos (fits_neg fx), show clipN (-x) = -x from if_pos (fits_neg fx)] at this
  exact this
 obtain ⟨LX, hLX⟩ : ∃ l, limbs (absN x) = l := ⟨_, rfl⟩
 rw [hLX] at cl mk ck pa ⊢
 obtain ⟨n, hn⟩ : ∃ n, LX.length = n := ⟨_, rfl⟩
 rw [hn] at pa ⊢
 obtain ⟨gx, hgx⟩ : ∃ b, decide (x < 0) = b := ⟨_, rfl⟩
 rw [hgx] at mk ck ⊢
 have Fa := Hid.mk_ pa
 clear ha pa hn hgx hLX fx nx vx
 go_enter Tryz.func76, Tryz.ntmps76
 go_wp2_with fail
 refine (ck _ _ _ ownK (Fa.out.keeps keepsB)).mono ?_
 rintro e w1 ⟨rfl, hb1⟩
 have st : Steps _ w1 := hb1
 have B : Below w.heap.size w w1 := belowA st
 have kp : Keeps w w1 := Keeps.then_ keepsB st
 have oa : Blk w1 (w.heap.size) 28 #[.bool gx, .slice aa n ca] := Blk.stepsK st
 have or : Blk w1 (w.heap.size + 1) 28 #[.bool false, .slice none 0 0] := Blk.stepsK st
 replace Fa := Hid.mk_ (Fa.out.keeps kp)
 clear kp
 clear st
 obtain ⟨ca0, ca1⟩ := oa.r1
 have la := oa.lt
 clear ck
 have zr : w.heap.size + 1 < w1.heap.size := or.lt
 have zz1 := B.size
 go_upto_region 4 with fail
 refine Reg.wp_chain_n (fun N0 D v W => Below w.heap.size w W ∧ Keeps w1 W ∧ N0 ≤ W.heap.size ∧ Blk W (w.heap.size) 28 #[.bool gx, .slice aa n ca] ∧ ((D 9 = false → Blk W (w.heap.size + 1) 28 #[.bool false, .slice none 0 0]) ∧ (D 9 = true → D 6 = true ∧ ∃ cs, v 6 = .tuple #[.agg cs, .int .i64 0] ∧ Blk W (w.heap.size + 1) 28 cs)))
  (Reg.inl [5, 6, 9]) (Reg.gv [(5, IsLi), (6, IsNuE 0)]) (gw [(5, GLi (PE LX)), (6, GNuE (-x) 0)]) (fun _ => Keeps) (fun _ _ => False) (Reg.pl [(6, [(5, some 17)]), (9, [(6, some 18)]), (11, [(5, some 17), (6, some 18)])]) (Reg.pl [(6, [9])])
  (by kernel_rfl) (by kernel_rfl) (by kernel_rfl) (Reg.gvA _) (fun N0 hN0 => ⟨fun v => ?_, fun D v v' W hv hj => ?_, fun D v k j W W' x _ _ _ _ hk hg => gwA hk hg, fun _ _ _ _ h => h.elim, fun ops' Q' hops hQ => ?_⟩)
 · exact ⟨belowB, keepsB, Nat.le_of_eq hN0.out, ownK, ⟨fun _ => ownK, (fun h => Bool.noConfusion h)⟩⟩
 ·
  obtain ⟨j0, jk, jn, b_a, b_r⟩ := hj
  exact ⟨j0, jk, jn, b_a, ⟨b_r.1, fun h => by obtain ⟨d, cs, e, hb⟩ := b_r.2 h; exact ⟨d, cs, (hv 6 d) ▸ e, hb⟩⟩⟩
 have eN := hN0.out
 try simp only [World.size_alloc, World.size_setCell, World.size_drew, World.heap_drewN] at eN
 have i_a : w.heap.size < N0 := by first | omega | (have h := oa.lt; omega)
 have i_r : w.heap.size + 1 < N0 := by first | omega | (have h := or.lt; omega)
 have iw : w.heap.size ≤ N0 := by first | omega | (have h := B.size; omega)
 clear ca0 ca1 la
 clear hN0
 refine Reg.RP0 12 ?_
 apply Reg.RP rfl rfl rfl 13 rfl rfl
 ·
  intro D v' W' hc hj hf K hK
  obtain ⟨j0, jk, jn, b_a, b_r⟩ := hj
  obtain ⟨c0, c1⟩ := b_a.r1
  go_step
  exact hK.out
 · rfl
 refine Reg.RP0 14 ?_
 refine Reg.RP0 15 ?_
 apply Reg.RP rfl rfl rfl 16 rfl rfl
 ·
  intro D v' W' hc hj hf K hK
  obtain ⟨j0, jk, jn, b_a, b_r⟩ := hj
  obtain ⟨c0, c1⟩ := b_a.r1
  go_step
  exact hK.out
 · rfl
 refine Reg.RC_call rfl (tlt rfl) rfl (fun D v' W' hc hj hf K hK => ?_) ?_
 ·
  obtain ⟨j0, jk, jn, b_a, b_r⟩ := hj
  clear hf
  go_step
  refine (cl W' _ (Fa.out.keeps jk)).mono ?_
  rintro e W2 ⟨u, rfl, hu, hs⟩
  obtain ⟨t1, t2, t3, rfl⟩ := hu.shape
  exact hK.out _ W2 (Keeps.steps hs) ⟨jst j0 hs, jk.then_ hs, jsz jn hs, b_a.steps hs, ⟨fun h => (b_r.1 h).steps hs, fun h => by obtain ⟨d, cs, e, hb⟩ := b_r.2 h; exact ⟨d, cs, e, hb.steps hs⟩⟩⟩ hu ⟨_, _, _, rfl⟩
 rintro _ ⟨t1, t2, t3, rfl⟩
 refine Reg.RC_at (b := ⟨#[_,_,_,_,_,_,_,_,_,_,_,_,_,_,_,_,_,_,_,_,_], []⟩) rfl ?_
 refine Reg.RC_call rfl (tlt rfl) rfl (fun D v' W' hc hj hf K hK => ?_) ?_
 ·
  obtain ⟨j0, jk, jn, b_a, b_r⟩ := hj
  have g5 : GLi (PE LX) _ W' := (hf (5, some 17) (.head _) rfl).2.2
  clear hf
  go_step
  refine (mk W' _ g5).mono ?_
  rintro e W2 ⟨u, rfl, hu, hs⟩
  obtain ⟨p1, p2, p3, p4, rfl⟩ := hu.shape
  exact hK.out _ W2 (Keeps.steps hs) ⟨jst j0 hs, jk.then_ hs, jsz jn hs, b_a.steps hs, ⟨fun h => (b_r.1 h).steps hs, fun h => Bool.noConfusion ((hc.2 9 (by decide)).symm.trans h)⟩⟩ ⟨_, rfl, hu⟩ ⟨_, _, _, _, rfl⟩
 rintro _ ⟨p1, p2, p3, p4, rfl⟩
 refine Reg.RC_at (b := ⟨#[_,_,_,_,_,_,_,_,_,_,_,_,_,_,_,_,_,_,_,_,_], []⟩) rfl ?_
 refine Reg.RP0 19 ?_
 refine Reg.RP0 20 ?_
 refine Reg.RC_call rfl (by intro t ht; cases ht) rfl (fun D v' W' hc hj hf K hK => ?_) (fun _ _ => Reg.RC_at (b := ⟨_, []⟩) rfl ?_)
 ·
  obtain ⟨j0, jk, jn, b_a, b_r⟩ := hj
  have hb := b_r.1 hc.1
  have e2 : w.heap.size ≤ w.heap.size + 1 := by omega
  have fc := hf (6, some 18) (.head _) rfl
  have ec : v' 6 = .tuple #[.agg #[.bool p1, .slice p2 p3 p4], .int .i64 0] := fc.2.1
  have ff := hb.fr
  obtain ⟨cc0, cc1⟩ := hb.r1
  go_step
  exact hK.out undef _ (Keeps.only hb rfl ((Only.refl _ _).set.set)) ⟨(Below.setCell (p := ⟨w.heap.size + 1, 1, none⟩) (Below.setCell (p := ⟨w.heap.size + 1, 0, none⟩) j0 (by show w.heap.size ≤ w.heap.size + 1; omega) _) (by show w.heap.size ≤ w.heap.size + 1; omega) _), jk.trans (Keeps.only hb rfl ((Only.refl _ _).set.set)), by simpa using jn, ((b_a).far' (show w.heap.size ≠ w.heap.size + 1 by omega)).far' (show w.heap.size ≠ w.heap.size + 1 by omega), ⟨fun h => Bool.noConfusion h, fun _ => ⟨fc.1, _, ec, (Blk.set2 (cs' := #[.bool p1, .slice p2 p3 p4]) (Blk.set2 (cs' := #[.bool p1, .slice none 0 0]) hb (i := 0) rfl) (i := 1) rfl)⟩⟩⟩ trivial trivial
 refine Reg.RP0 3 ?_
 refine Reg.RC_end (fun Dn v' w2 hd hj hf => ?_)
 obtain ⟨j0, jk, jn, b_a, b_r⟩ := hj
 have B := j0
 have oa := b_a
 clear b_a
 obtain ⟨-, cs_, ee, or⟩ := b_r.2 (hd 9 (Nat.le_of_ble_eq_true rfl))
 have ef : v' 6 = .tuple #[.agg #[.bool p1, .slice p2 p3 p4], .int .i64 0] := (hf (6, some 18) (.tail _ (.head _)) rfl).2.1
 obtain rfl : #[.bool p1, .slice p2 p3 p4] = cs_ := by have := ef.symm.trans ee; simpa only [Value.tuple.injEq, Value.agg.injEq, Array.mk.injEq, List.cons.injEq, and_true, true_and] using this
 clear b_r ee ef
 have Fp := Hid.mk_ (GNuE.get (z := -x) (e := 0) (v := .agg #[.bool p1, .slice p2 p3 p4]) (hf (6, some 18) (.tail _ (.head _)) rfl).2.2)
 replace Fa := Hid.mk_ (Fa.out.keeps jk)
 clear hd hf jk j0
 refine hQ _ _ ?_
 clear hQ hops Q' ops'
 obtain ⟨cr0, cr1⟩ := or.r1
 have lr := or.lt
 clear cl mk
 go_wp2_with fail
 refine bodyPost_ret (by simp [results, Tryz.results76, go_sem, cr0, cr1, lr]; rfl) rfl ?_
 exact ⟨_, rfl, Fp.out.keeps keepsB, belowB⟩
theorem wCheck {va : Value} {x : Int} (w : World) (ha : Num w va x) (fx : fits x) :
  Calls Tryz.prog 84 #[va] w fun e w' => e = .returned (.int .i64 0) ∧ Steps w w' := by
 have ck : ∀ (w' : World) (q : Nat) (sa : Value), Blk w' q 28 #[.bool (decide (x < 0)), sa] → Lim w' sa (limbs (absN x)) →
   Calls Tryz.prog 54 #[.slice (some ⟨q, 0, none⟩) 1 1] w' fun e w2 => e = .returned (.int .i64 0) ∧ Steps w' w2 := fun w' q sa hb h1 => by
  have := wcheck1 w' hb h1
  rw [show errC (valid (decide (x < 0)) (limbs (absN x))) = 0 from if_pos (valid_of fx)] at this
  exact this
 obtain ⟨aa, ca, rfl, pa⟩ := ha.parts
 obtain ⟨LX, hLX⟩ : ∃ l, limbs (absN x) = l := ⟨_, rfl⟩
 rw [hLX] at ck pa ⊢
 obtain ⟨n, hn⟩ : ∃ n, LX.length = n := ⟨_, rfl⟩
 rw [hn] at pa ⊢
 obtain ⟨gx, hgx⟩ : ∃ b, decide (x < 0) = b := ⟨_, rfl⟩
 rw [hgx] at ck ⊢
 have Fa := Hid.mk_ pa
 clear ha pa hn hgx hLX fx
 go_enter Tryz.func84, Tryz.ntmps84
 go_wp2_with fail
 refine (ck _ _ _ ownK (Fa.out.keeps keepsB)).mono ?_
 rintro e w1 ⟨rfl, hb1⟩
 have st : Steps _ w1 := hb1
 have B : Below w.heap.size w w1 := belowA st
 have kp : Keeps w w1 := Keeps.then_ keepsB st
 have oa : Blk w1 (w.heap.size) 28 #[.bool gx, .slice aa n ca] := Blk.stepsK st
 replace Fa := Hid.mk_ (Fa.out.keeps kp)
 clear kp
 clear st
 go_wp2
 go_returns
 exact ⟨rfl, belowB⟩
end Go.Proofs.YtibdehlmflaodaaGreat
