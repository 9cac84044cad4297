import Derived.Test.YtmpambmpknaldaaINo
import Derived.Test.YtmpambmpknaldaaITx
import Derived.Test.YtmpambmpknaldaaINp
import Derived.Test.YtmpambmpknaldaaITz
set_option linter.unusedVariables false
set_option linter.unusedSimpArgs false
set_option maxHeartbeats 6400000
set_option maxRecDepth 1000000
namespace Go.Proofs.Ytmpambmpknaldaa
open Go.RowKit
def PM (x y : Int) (l : List Int) : Prop := lval l = absN x * absN y ∧ l.length ≤ few
def PE (L l : List Int) : Prop := l = L
theorem wNeg {va : Value} {x : Int} (w : World) (ha : Num w va x) (fx : fits x) :
  Calls Try.prog 51 #[va] w fun e w' => ∃ v, e = .returned (.tuple #[v, .int .i64 0]) ∧ Num w' v (-x) ∧ Steps w w' := by
 have ck : ∀ (w' : World) (q : Nat) (sa : Value), Blk w' q 26 #[.bool (decide (x < 0)), sa] → Lim w' sa (limbs (absN x)) →
   Calls Try.prog 48 #[.slice (some ⟨q, 0, none⟩) 1 1] w' fun e w2 => e = .returned (.int .i64 0) ∧ Steps w' w2 := fun w' q sa hb h1 => by
  have := wcheck1 w' hb h1
  rw [show errC (valid (decide (x < 0)) (limbs (absN x))) = 0 from if_pos (valid_of fx)] at this
  exact this
 obtain ⟨aa, ca, rfl, pa⟩ := ha.parts
 have nx : (limbs (absN x)).length ≤ few := by unfold fits at fx; unfold few; omega
 have vx := lval_limbs (absN_nonneg x)
 have cl : ∀ w' sa, Lim w' sa (limbs (absN x)) → Calls Try.prog 60 #[sa] w' fun e w2 => ∃ v, e = .returned v ∧ GLi (PE (limbs (absN x))) v w2 ∧ Steps w' w2 := fun w' sa h1 => by
  refine (wclone w' h1 nx).mono ?_
  rintro e w2 ⟨v, rfl, _, h2, h3⟩
  exact ⟨v, rfl, ⟨_, rfl, h2⟩, h3⟩
 have mk : ∀ w' s, GLi (PE (limbs (absN x))) s w' → Calls Try.prog 42 #[.bool (!decide (x < 0)), s] w' fun e w2 => ∃ v, e = .returned (.tuple #[v, .int .i64 0]) ∧ Num w2 v (-x) ∧ Steps w' w2 := fun w' s ⟨l, hl, h⟩ => by
  obtain rfl : l = limbs (absN x) := hl
  have := wmadeN (!decide (x < 0)) w' h nx
  have e : zv (!decide (x < 0)) (lval (limbs (absN x))) = -x := by
   rw [vx]; unfold zv absN
   by_cases h : x < 0
   · rw [decide_eq_true h]; simp; omega
   · rw [decide_eq_false h]; simp; omega
  rw [e, show errN (-x) = 0 from if_pos (fits_neg fx), show clipN (-x) = -x from if_pos (fits_neg fx)] at this
  exact this
 obtain ⟨LX, hLX⟩ : ∃ l, limbs (absN x) = l := ⟨_, rfl⟩
 rw [hLX] at cl mk ck pa ⊢
 obtain ⟨n, hn⟩ : ∃ n, LX.length = n := ⟨_, rfl⟩
 rw [hn] at pa ⊢
 obtain ⟨gx, hgx⟩ : ∃ b, decide (x < 0) = b := ⟨_, rfl⟩
 rw [hgx] at mk ck ⊢
 have Fa := Hid.mk_ pa
 clear ha pa hn hgx hLX fx nx vx
 go_enter Try.func51, Try.ntmps51
 go_wp2_with fail
 refine (ck _ _ _ ownK (Fa.out.keeps keepsB)).mono ?_
 rintro e w1 ⟨rfl, hb1⟩
 have st : Steps _ w1 := hb1
 have B : Below w.heap.size w w1 := belowA st
 have kp : Keeps w w1 := Keeps.then_ keepsB st
 have oa : Blk w1 (w.heap.size) 26 #[.bool gx, .slice aa n ca] := Blk.stepsK st
 have or : Blk w1 (w.heap.size + 1) 26 #[.bool false, .slice none 0 0] := Blk.stepsK st
 replace Fa := Hid.mk_ (Fa.out.keeps kp)
 clear kp
 clear st
 obtain ⟨ca0, ca1⟩ := oa.r1
 have la := oa.lt
 clear ck
 have zr : w.heap.size + 1 < w1.heap.size := or.lt
 have zz1 := B.size
 go_upto_region 4 with fail
 refine Reg.wp_chain_n (fun N0 D v W => Below w.heap.size w W ∧ Keeps w1 W ∧ N0 ≤ W.heap.size ∧ Blk W (w.heap.size) 26 #[.bool gx, .slice aa n ca] ∧ ((D 9 = false → Blk W (w.heap.size + 1) 26 #[.bool false, .slice none 0 0]) ∧ (D 9 = true → D 6 = true ∧ ∃ cs, v 6 = .tuple #[.agg cs, .int .i64 0] ∧ Blk W (w.heap.size + 1) 26 cs)))
  (Reg.inl [5, 6, 9]) (Reg.gv [(5, IsLi), (6, IsNuE 0)]) (gw [(5, GLi (PE LX)), (6, GNuE (-x) 0)]) (fun _ => Keeps) (fun _ _ => False) (Reg.pl [(6, [(5, some 17)]), (9, [(6, some 18)]), (11, [(5, some 17), (6, some 18)])]) (Reg.pl [(6, [9])])
  (by kernel_rfl) (by kernel_rfl) (by kernel_rfl) (Reg.gvA _) (fun N0 hN0 => ⟨fun v => ?_, fun D v v' W hv hj => ?_, fun D v k j W W' x _ _ _ _ hk hg => gwA hk hg, fun _ _ _ _ h => h.elim, fun ops' Q' hops hQ => ?_⟩)
 · exact ⟨belowB, keepsB, Nat.le_of_eq hN0.out, ownK, ⟨fun _ => ownK, (fun h => Bool.noConfusion h)⟩⟩
 ·
  obtain ⟨j0, jk, jn, b_a, b_r⟩ := hj
  exact ⟨j0, jk, jn, b_a, ⟨b_r.1, fun h => by obtain ⟨d, cs, e, hb⟩ := b_r.2 h; exact ⟨d, cs, (hv 6 d) ▸ e, hb⟩⟩⟩
 have eN := hN0.out
 try simp only [World.size_alloc, World.size_setCell, World.size_drew, World.heap_drewN] at eN
 have i_a : w.heap.size < N0 := by first | omega | (have h := oa.lt; omega)
 have i_r : w.heap.size + 1 < N0 := by first | omega | (have h := or.lt; omega)
 have iw : w.heap.size ≤ N0 := by first | omega | (have h := B.size; omega)
 clear ca0 ca1 la
 clear hN0
 refine Reg.RP0 12 ?_
 apply Reg.RP rfl rfl rfl 13 rfl rfl
 ·
  intro D v' W' hc hj hf K hK
  obtain ⟨j0, jk, jn, b_a, b_r⟩ := hj
  obtain ⟨c0, c1⟩ := b_a.r1
  go_step
  exact hK.out
 · rfl
 refine Reg.RP0 14 ?_
 refine Reg.RP0 15 ?_
 apply Reg.RP rfl rfl rfl 16 rfl rfl
 ·
  intro D v' W' hc hj hf K hK
  obtain ⟨j0, jk, jn, b_a, b_r⟩ := hj
  obtain ⟨c0, c1⟩ := b_a.r1
  go_step
  exact hK.out
 · rfl
 refine Reg.RC_call rfl (tlt rfl) rfl (fun D v' W' hc hj hf K hK => ?_) ?_
 ·
  obtain ⟨j0, jk, jn, b_a, b_r⟩ := hj
  clear hf
  go_step
  refine (cl W' _ (Fa.out.keeps jk)).mono ?_
  rintro e W2 ⟨u, rfl, hu, hs⟩
  obtain ⟨t1, t2, t3, rfl⟩ := hu.shape
  exact hK.out _ W2 (Keeps.steps hs) ⟨jst j0 hs, jk.then_ hs, jsz jn hs, b_a.steps hs, ⟨fun h => (b_r.1 h).steps hs, fun h => by obtain ⟨d, cs, e, hb⟩ := b_r.2 h; exact ⟨d, cs, e, hb.steps hs⟩⟩⟩ hu ⟨_, _, _, rfl⟩
 rintro _ ⟨t1, t2, t3, rfl⟩
 refine Reg.RC_at (b := ⟨#[_,_,_,_,_,_,_,_,_,_,_,_,_,_,_,_,_,_,_,_,_], []⟩) rfl ?_
 refine Reg.RC_call rfl (tlt rfl) rfl (fun D v' W' hc hj hf K hK => ?_) ?_
 ·
  obtain ⟨j0, jk, jn, b_a, b_r⟩ := hj
  have g5 : GLi (PE LX) _ W' := (hf (5, some 17) (.head _) rfl).2.2
  clear hf
  go_step
  refine (mk W' _ g5).mono ?_
  rintro e W2 ⟨u, rfl, hu, hs⟩
  obtain ⟨p1, p2, p3, p4, rfl⟩ := hu.shape
  exact hK.out _ W2 (Keeps.steps hs) ⟨jst j0 hs, jk.then_ hs, jsz jn hs, b_a.steps hs, ⟨fun h => (b_r.1 h).steps hs, fun h => Bool.noConfusion ((hc.2 9 (by decide)).symm.trans h)⟩⟩ ⟨_, rfl, hu⟩ ⟨_, _, _, _, rfl⟩
 rintro _ ⟨p1, p2, p3, p4, rfl⟩
 refine Reg.RC_at (b := ⟨#[_,_,_,_,_,_,_,_,_,_,_,_,_,_,_,_,_,_,_,_,_], []⟩) rfl ?_
 refine Reg.RP0 19 ?_
 refine Reg.RP0 20 ?_
 refine Reg.RC_call rfl (by intro t ht; cases ht) rfl (fun D v' W' hc hj hf K hK => ?_) (fun _ _ => Reg.RC_at (b := ⟨_, []⟩) rfl ?_)
 ·
  obtain ⟨j0, jk, jn, b_a, b_r⟩ := hj
  have hb := b_r.1 hc.1
  have e2 : w.heap.size ≤ w.heap.size + 1 := by omega
  have fc := hf (6, some 18) (.head _) rfl
  have ec : v' 6 = .tuple #[.agg #[.bool p1, .slice p2 p3 p4], .int .i64 0] := fc.2.1
  have ff := hb.fr
  obtain ⟨cc0, cc1⟩ := hb.r1
  go_step
  exact hK.out undef _ (Keeps.only hb rfl ((Only.refl _ _).set.set)) ⟨(Below.setCell (p := ⟨w.heap.size + 1, 1, none⟩) (Below.setCell (p := ⟨w.heap.size + 1, 0, none⟩) j0 (by show w.heap.size ≤ w.heap.size + 1; omega) _) (by show w.heap.size ≤ w.heap.size + 1; omega) _), jk.trans (Keeps.only hb rfl ((Only.refl _ _).set.set)), by simpa using jn, ((b_a).far' (show w.heap.size ≠ w.heap.size + 1 by omega)).far' (show w.heap.size ≠ w.heap.size + 1 by omega), ⟨fun h => Bool.noConfusion h, fun _ => ⟨fc.1, _, ec, (Blk.set2 (cs' := #[.bool p1, .slice p2 p3 p4]) (Blk.set2 (cs' := #[.bool p1, .slice none 0 0]) hb (i := 0) rfl) (i := 1) rfl)⟩⟩⟩ trivial trivial
 refine Reg.RP0 3 ?_
 refine Reg.RC_end (fun Dn v' w2 hd hj hf => ?_)
 obtain ⟨j0, jk, jn, b_a, b_r⟩ := hj
 have B := j0
 have oa := b_a
 clear b_a
 obtain ⟨-, cs_, ee, or⟩ := b_r.2 (hd 9 (Nat.le_of_ble_eq_true rfl))
 have ef : v' 6 = .tuple #[.agg #[.bool p1, .slice p2 p3 p4], .int .i64 0] := (hf (6, some 18) (.tail _ (.head _)) rfl).2.1
 obtain rfl : #[.bool p1, .slice p2 p3 p4] = cs_ := by have := ef.symm.trans ee; simpa only [Value.tuple.injEq, Value.agg.injEq, Array.mk.injEq, List.cons.injEq, and_true, true_and] using this
 clear b_r ee ef
 have Fp := Hid.mk_ (GNuE.get (z := -x) (e := 0) (v := .agg #[.bool p1, .slice p2 p3 p4]) (hf (6, some 18) (.tail _ (.head _)) rfl).2.2)
 replace Fa := Hid.mk_ (Fa.out.keeps jk)
 clear hd hf jk j0
 refine hQ _ _ ?_
 clear hQ hops Q' ops'
 obtain ⟨cr0, cr1⟩ := or.r1
 have lr := or.lt
 clear cl mk
 go_wp2_with fail
 refine bodyPost_ret (by simp [results, Try.results51, go_sem, cr0, cr1, lr]; rfl) rfl ?_
 exact ⟨_, rfl, Fp.out.keeps keepsB, belowB⟩
theorem wCheck {va : Value} {x : Int} (w : World) (ha : Num w va x) (fx : fits x) :
  Calls Try.prog 39 #[va] w fun e w' => e = .returned (.int .i64 0) ∧ Steps w w' := by
 have ck : ∀ (w' : World) (q : Nat) (sa : Value), Blk w' q 26 #[.bool (decide (x < 0)), sa] → Lim w' sa (limbs (absN x)) →
   Calls Try.prog 48 #[.slice (some ⟨q, 0, none⟩) 1 1] w' fun e w2 => e = .returned (.int .i64 0) ∧ Steps w' w2 := fun w' q sa hb h1 => by
  have := wcheck1 w' hb h1
  rw [show errC (valid (decide (x < 0)) (limbs (absN x))) = 0 from if_pos (valid_of fx)] at this
  exact this
 obtain ⟨aa, ca, rfl, pa⟩ := ha.parts
 obtain ⟨LX, hLX⟩ : ∃ l, limbs (absN x) = l := ⟨_, rfl⟩
 rw [hLX] at ck pa ⊢
 obtain ⟨n, hn⟩ : ∃ n, LX.length = n := ⟨_, rfl⟩
 rw [hn] at pa ⊢
 obtain ⟨gx, hgx⟩ : ∃ b, decide (x < 0) = b := ⟨_, rfl⟩
 rw [hgx] at ck ⊢
 have Fa := Hid.mk_ pa
 clear ha pa hn hgx hLX fx
 go_enter Try.func39, Try.ntmps39
 go_wp2_with fail
 refine (ck _ _ _ ownK (Fa.out.keeps keepsB)).mono ?_
 rintro e w1 ⟨rfl, hb1⟩
 have st : Steps _ w1 := hb1
 have B : Below w.heap.size w w1 := belowA st
 have kp : Keeps w w1 := Keeps.then_ keepsB st
 have oa : Blk w1 (w.heap.size) 26 #[.bool gx, .slice aa n ca] := Blk.stepsK st
 replace Fa := Hid.mk_ (Fa.out.keeps kp)
 clear kp
 clear st
 go_wp2
 go_returns
 exact ⟨rfl, belowB⟩
end Go.Proofs.Ytmpambmpknaldaa
