import Derived.Test.YtmpambmpknaldaaGreatMNo
import Derived.Test.YtmpambmpknaldaaGreatMTz
set_option linter.unusedVariables false
set_option linter.unusedSimpArgs false
set_option maxHeartbeats 6400000
set_option maxRecDepth 1000000
namespace Go.Proofs.YtmpambmpknaldaaGreat
open Go.RowKit
theorem zv_mul (x y : Int) : zv (decide (x < 0) != decide (y < 0)) (absN x * absN y) = x * y := by
 by_cases h1 : x < 0
 ·
  by_cases h2 : y < 0
  ·
   have e : absN x * absN y = x * y := by
    rw [show absN x = -x by unfold absN; omega, show absN y = -y by unfold absN; omega, Int.neg_mul_neg]
   simp [h1, h2, zv, e]
  ·
   have e : absN x * absN y = -(x * y) := by
    rw [show absN x = -x by unfold absN; omega, show absN y = y by unfold absN; omega, Int.neg_mul]
   simp [h1, h2, zv, e]
 ·
  by_cases h2 : y < 0
  ·
   have e : absN x * absN y = -(x * y) := by
    rw [show absN x = x by unfold absN; omega, show absN y = -y by unfold absN; omega, Int.mul_neg]
   simp [h1, h2, zv, e]
  ·
   have e : absN x * absN y = x * y := by
    rw [show absN x = x by unfold absN; omega, show absN y = y by unfold absN; omega]
   simp [h1, h2, zv, e]
theorem nmul {va vb : Value} {x y : Int} (w : World) (ha : Num w va x) (hb : Num w vb y) (fx : fits x) (fy : fits y) :
  Calls Tryz.prog 81 #[va, vb] w fun e w' => ∃ v, e = .returned (.tuple #[v, .int .i64 (errN (x * y))]) ∧ Num w' v (clipN (x * y)) ∧ Steps w w' := by
 have bo := fun (w' : World) (h : Steps w w') => rboth_ok w' (ha.steps h) (hb.steps h) fx fy
 obtain ⟨aa, ca, rfl, pa⟩ := ha.parts
 obtain ⟨ab, cb, rfl, pb⟩ := hb.parts
 unfold fits at fx fy
 have nx : (limbs (absN x)).length ≤ few := by unfold few; omega
 have ny : (limbs (absN y)).length ≤ few := by unfold few; omega
 have vx := lval_limbs (absN_nonneg x)
 have vy := lval_limbs (absN_nonneg y)
 obtain ⟨g, hg⟩ : ∃ g, (decide (x < 0) != decide (y < 0)) = g := ⟨_, rfl⟩
 have tm : ∀ w', Steps w w' → Calls Tryz.prog 112 #[.slice aa (limbs (absN x)).length ca, .slice ab (limbs (absN y)).length cb] w' fun e w2 => ∃ v l, e = .returned v ∧ Lim w2 v l ∧ lval l = absN x * absN y ∧ l.length ≤ few ∧ Steps w' w2 := fun w' h => by
  refine (ntimes w' (pa.steps h) (pb.steps h) nx ny).mono ?_
  rintro e w2 ⟨v, l, rfl, h1, h2, h3, h4⟩
  exact ⟨v, l, rfl, h1, by rw [h2, vx, vy], by unfold few; omega, h4⟩
 have mk : ∀ w' s l, Lim w' s l → lval l = absN x * absN y → l.length ≤ few → Calls Tryz.prog 111 #[.bool g, s] w' fun e w2 => ∃ v, e = .returned (.tuple #[v, .int .i64 (errN (x * y))]) ∧ Num w2 v (clipN (x * y)) ∧ Steps w' w2 := fun w' s l h h2 h3 => by
  have := rmadeN g w' h h3
  rw [h2, ← hg, zv_mul] at this
  rw [← hg]
  exact this
 obtain ⟨n, hn⟩ : ∃ n, (limbs (absN x)).length = n := ⟨_, rfl⟩
 obtain ⟨m, hm⟩ : ∃ m, (limbs (absN y)).length = m := ⟨_, rfl⟩
 rw [hn] at bo tm ⊢
 rw [hm] at bo tm ⊢
 obtain ⟨gx, hgx⟩ : ∃ b, decide (x < 0) = b := ⟨_, rfl⟩
 obtain ⟨gy, hgy⟩ : ∃ b, decide (y < 0) = b := ⟨_, rfl⟩
 rw [hgx, hgy] at hg bo ⊢
 have hgg : (gx == gy) = !g := by rw [← hg]; cases gx <;> cases gy <;> rfl
 clear ha hb pa pb hn hm hgx hgy hg fx fy nx ny vx vy
 go_enter Tryz.func81, Tryz.ntmps81
 go_wp2_with fail
 refine (bo _ belowB).mono ?_
 rintro e w1 ⟨rfl, hb1⟩
 have st : Steps _ w1 := hb1
 have Bn : Below w.heap.size w w1 := belowA st
 have oa : Blk w1 (w.heap.size) 25 #[.bool gx, .slice aa n ca] := Blk.stepsA st
 have ob : Blk w1 (w.heap.size + 1) 25 #[.bool gy, .slice ab m cb] := Blk.stepsA st
 have or : Blk w1 (w.heap.size + 1 + 1) 25 #[.bool false, .slice none 0 0] := Blk.stepsA st
 clear st
 have B := Bn
 clear Bn
 obtain ⟨ca0, ca1, fa, la⟩ := oa.s1
 obtain ⟨cb0, cb1, fb, lb⟩ := ob.s1
 obtain ⟨cr0, cr1, fr, lr⟩ := or.s1
 clear bo
 go_wp2_with fail
 go_region_held3 (fun w' => w'.cell? ⟨w.heap.size, 0, none⟩ = some (.bool gx) ∧ w'.cell? ⟨w.heap.size, 1, none⟩ = some (.slice aa n ca) ∧ w'.cell? ⟨w.heap.size + 1, 0, none⟩ = some (.bool gy) ∧ w'.cell? ⟨w.heap.size + 1, 1, none⟩ = some (.slice ab m cb))
  ((refine ⟨Blk.c (t := 25) (cs := #[.bool gx, .slice aa n ca]) ?_ 0 rfl, Blk.c (t := 25) (cs := #[.bool gx, .slice aa n ca]) ?_ 1 rfl, Blk.c (t := 25) (cs := #[.bool gy, .slice ab m cb]) ?_ 0 rfl, Blk.c (t := 25) (cs := #[.bool gy, .slice ab m cb]) ?_ 1 rfl⟩ <;> (repeat' first | with_reducible assumption | (with_reducible refine Blk.new' ?_; first | with_reducible rfl | (simp only [World.size_alloc, World.size_setCell, World.size_drew]; done)) | with_reducible refine Blk.alloc ?_ _ | with_reducible refine Blk.drew ?_ | with_reducible refine Blk.drewN ?_ _ | with_reducible apply Blk.both | with_reducible refine Blk.far' ?_ ?_ | (show _ ≠ _; omega))))
  (first
   | ((go_at_call 112; refine (tm _ belowB).mono ?_; rintro e wv ⟨v1, l1, rfl, hv1, vl1, ll1, hbv⟩; go_must (have HV1 := Hid.mk_ vl1; clear vl1; have st : Steps _ wv := hbv; have Bn : Below w.heap.size w wv := belowA st; have na : Blk wv (w.heap.size) 25 #[.bool gx, .slice aa n ca] := Blk.stepsA st; have nb : Blk wv (w.heap.size + 1) 25 #[.bool gy, .slice ab m cb] := Blk.stepsA st; have nr : Blk wv (w.heap.size + 1 + 1) 25 #[.bool false, .slice none 0 0] := Blk.stepsA st; clear B oa ob or ca0 ca1 fa la cb0 cb1 fb lb cr0 cr1 fr lr; clear st; have B := Bn; clear Bn; have oa := na; clear na; have ca0 : World.cell? wv ⟨w.heap.size, 0, none⟩ = some (.bool gx) := oa.c 0 rfl; have ca1 : World.cell? wv ⟨w.heap.size, 1, none⟩ = some (.slice aa n ca) := oa.c 1 rfl; have fa := oa.fr; have la := oa.lt; have ob := nb; clear nb; have cb0 : World.cell? wv ⟨w.heap.size + 1, 0, none⟩ = some (.bool gy) := ob.c 0 rfl; have cb1 : World.cell? wv ⟨w.heap.size + 1, 1, none⟩ = some (.slice ab m cb) := ob.c 1 rfl; have fb := ob.fr; have lb := ob.lt; have or := nr; clear nr; have cr0 : World.cell? wv ⟨w.heap.size + 1 + 1, 0, none⟩ = some (.bool false) := or.c 0 rfl; have cr1 : World.cell? wv ⟨w.heap.size + 1 + 1, 1, none⟩ = some (.slice none 0 0) := or.c 1 rfl; have fr := or.fr; have lr := or.lt)))
   | ((go_at_call 111; refine (mk _ _ l1 hv1 HV1.out ll1).mono ?_; rintro e wv ⟨v2, rfl, hv2, hbv⟩; go_must (have st : Steps _ wv := hbv; have Bn : Below w.heap.size w wv := belowA st; have na : Blk wv (w.heap.size) 25 #[.bool gx, .slice aa n ca] := Blk.stepsA st; have nb : Blk wv (w.heap.size + 1) 25 #[.bool gy, .slice ab m cb] := Blk.stepsA st; have nr : Blk wv (w.heap.size + 1 + 1) 25 #[.bool false, .slice none 0 0] := Blk.stepsA st; clear B oa ob or ca0 ca1 fa la cb0 cb1 fb lb cr0 cr1 fr lr; clear st; have B := Bn; clear Bn; have oa := na; clear na; have ca0 : World.cell? wv ⟨w.heap.size, 0, none⟩ = some (.bool gx) := oa.c 0 rfl; have ca1 : World.cell? wv ⟨w.heap.size, 1, none⟩ = some (.slice aa n ca) := oa.c 1 rfl; have fa := oa.fr; have la := oa.lt; have ob := nb; clear nb; have cb0 : World.cell? wv ⟨w.heap.size + 1, 0, none⟩ = some (.bool gy) := ob.c 0 rfl; have cb1 : World.cell? wv ⟨w.heap.size + 1, 1, none⟩ = some (.slice ab m cb) := ob.c 1 rfl; have fb := ob.fr; have lb := ob.lt; have or := nr; clear nr; have cr0 : World.cell? wv ⟨w.heap.size + 1 + 1, 0, none⟩ = some (.bool false) := or.c 0 rfl; have cr1 : World.cell? wv ⟨w.heap.size + 1 + 1, 1, none⟩ = some (.slice none 0 0) := or.c 1 rfl; have fr := or.fr; have lr := or.lt; obtain ⟨bb, ao2, n2, c2, rfl⟩ := hv2.shape))))
 have HV2 := Hid.mk_ hv2
 clear hv2
 go_wp2
 refine bodyPost_ret (by simp [results, Tryz.results81, go_sem, ca0, ca1, fa, la, cb0, cb1, fb, lb, cr0, cr1, fr, lr]; rfl) rfl ?_
 exact ⟨_, rfl, HV2.out.put2 or, belowB⟩
theorem Frc.fit {w : World} {v : Value} {p q : Int} (h : Frc w v p q) : fits p ∧ fits q ∧ 0 < q := by
 obtain ⟨_, _, _, _, _, q0, _, fp, fq⟩ := h
 exact ⟨fp, fq, q0⟩
theorem rmul_fits {va vb : Value} {x y : Int} (w : World) (ha : Num w va x) (hb : Num w vb y) (fx : fits x) (fy : fits y) (fm : fits (x * y)) :
  Calls Tryz.prog 81 #[va, vb] w fun e w' => ∃ v, e = .returned (.tuple #[v, .int .i64 0]) ∧ Num w' v (x * y) ∧ Steps w w' := by
 have := nmul w ha hb fx fy
 rw [errN_fits fm, clipN_fits fm] at this
 exact this
def Bad (w : World) (v : Value) : Prop := ∃ gx sa gy sb la lb, v = .agg #[.bool gx, sa, .bool gy, sb] ∧ Lim w sa la ∧ Lim w sb lb ∧ ¬ validF gx la gy lb
theorem Bad.keeps {w w' : World} {v : Value} (h : Bad w v) (k : Keeps w w') : Bad w' v := by
 obtain ⟨gx, sa, gy, sb, la, lb, e, l1, l2, hv⟩ := h
 exact ⟨gx, sa, gy, sb, la, lb, e, k _ _ l1, k _ _ l2, hv⟩
theorem Bad.shape {w : World} {v : Value} (h : Bad w v) : ∃ a s n c b t m d, v = .agg #[.bool a, .slice s n c, .bool b, .slice t m d] := by
 obtain ⟨gx, sa, gy, sb, la, lb, e, l1, l2, hv⟩ := h
 obtain ⟨s, c, rfl⟩ := l1.shape
 obtain ⟨t, d, rfl⟩ := l2.shape
 exact ⟨_, _, _, _, _, _, _, _, e⟩
theorem raw_cases {w : World} {gx gy : Bool} {sa sb : Value} {la lb : List Int} (ha : Lim w sa la) (hb : Lim w sb lb) : (∃ r, FR w (.agg #[.bool gx, sa, .bool gy, sb]) r ∧ absN r.num ≤ bp la.length ∧ (r.den : Int) ≤ bp lb.length) ∨ Bad w (.agg #[.bool gx, sa, .bool gy, sb]) := by
 by_cases h : validF gx la gy lb
 ·
  left
  obtain ⟨r, e1, e2, hr⟩ := (Frc.of_valid ha hb h).fr
  have h1 := lval_lt ha.ok
  have h2 := lval_lt hb.ok
  refine ⟨r, hr, ?_, by rw [e2]; omega⟩
  rw [e1, absN_zv gx (lval_nonneg ha.ok)]; omega
 · right; exact ⟨gx, sa, gy, sb, la, lb, rfl, ha, hb, h⟩
theorem rfcheck_q {v : Value} {r : Rat} (w : World) (h : FR w v r) : Calls Tryz.prog 108 #[v] w fun e w' => e = .returned (.int .i64 0) ∧ Steps w w' := rfcheck_ok w h
theorem rfcheck_bad {v : Value} (w : World) (h : Bad w v) : Calls Tryz.prog 108 #[v] w fun e w' => e = .returned (.int .i64 8) ∧ Steps w w' := by
 obtain ⟨gx, sa, gy, sb, la, lb, rfl, l1, l2, hv⟩ := h
 have := rfcheck gx gy w l1 l2
 rw [errC_eq, if_neg hv] at this
 exact this
theorem rfboth_q {va vb : Value} {r s : Rat} (w : World) (ha : FR w va r) (hb : FR w vb s) :
  Calls Tryz.prog 79 #[va, vb] w fun e w' => e = .returned (.int .i64 0) ∧ Steps w w' := by
 obtain ⟨a1, a2, a3, a4, a5, a6, a7, a8, rfl⟩ := ha.shape
 obtain ⟨b1, b2, b3, b4, b5, b6, b7, b8, rfl⟩ := hb.shape
 have Fa := Hid.mk_ ha
 clear ha
 have Fb := Hid.mk_ hb
 clear hb
 go_enter Tryz.func79, Tryz.ntmps79
 go_wp2_with fail
 refine (rfcheck_q _ (Fa.out.keeps keepsB)).mono ?_
 rintro e w1 ⟨rfl, hb1⟩
 have st : Steps _ w1 := hb1
 have Bn : Below w.heap.size w w1 := belowA st
 have kp : Keeps w w1 := Keeps.then_ keepsB st
 have oa : Blk w1 (w.heap.size) 27 #[.bool a1, .slice a2 a3 a4, .bool a5, .slice a6 a7 a8] := Blk.stepsK st
 have ob : Blk w1 (w.heap.size + 1) 27 #[.bool b1, .slice b2 b3 b4, .bool b5, .slice b6 b7 b8] := Blk.stepsK st
 clear st
 have B := Bn
 clear Bn
 replace Fa := Hid.mk_ (Fa.out.keeps kp)
 replace Fb := Hid.mk_ (Fb.out.keeps kp)
 clear kp
 obtain ⟨ca0, ca1, ca2, ca3, fa, la⟩ := oa.s3
 obtain ⟨cb0, cb1, cb2, cb3, fb, lb⟩ := ob.s3
 go_wp2_with fail
 refine (rfcheck_q _ (Fb.out.keeps keepsB)).mono ?_
 rintro e w2 ⟨rfl, hb2⟩
 have st : Steps _ w2 := hb2
 have Bn : Below w.heap.size w w2 := belowA st
 have kp : Keeps w1 w2 := Keeps.then_ keepsB st
 have na := oa.stp st
 have nb := ob.stp st
 clear B oa ob ca0 ca1 ca2 ca3 fa la cb0 cb1 cb2 cb3 fb lb
 clear st
 have B := Bn
 clear Bn
 replace Fa := Hid.mk_ (Fa.out.keeps kp)
 replace Fb := Hid.mk_ (Fb.out.keeps kp)
 clear kp
 have oa := na
 clear na
 obtain ⟨ca0, ca1, ca2, ca3, fa, la⟩ := oa.s3
 have ob := nb
 clear nb
 obtain ⟨cb0, cb1, cb2, cb3, fb, lb⟩ := ob.s3
 go_wp2
 go_returns
 exact ⟨rfl, belowB⟩
theorem rCmpQ {va vb : Value} {r s : Rat} {i j : Nat} (w : World) (ha : FR w va r) (hb : FR w vb s) (hr : sz r i) (hs : sz s j) (hk : i + j ≤ 4095) :
  Calls Tryz.prog 45 #[va, vb] w fun e w' => e = .returned (.tuple #[.int .i64 (cmpQ r s), .int .i64 0]) ∧ Steps w w' := by
 have fa := ha.fit
 have fb := hb.fit
 have bo := fun (w' : World) (h : Steps w w') => rfboth_q w' (ha.steps h) (hb.steps h)
 obtain ⟨h1, h2, h3⟩ := sum_size hr hs
 have g1 := fits_bp h1 hk
 have g2 := fits_bp h2 hk
 obtain ⟨a2, a3, a4, a6, a7, a8, rfl, na, da, -⟩ := ha.nums
 obtain ⟨b2, b3, b4, b6, b7, b8, rfl, nb', db, -⟩ := hb.nums
 have m1 := fun (w' : World) (h : Steps w w') => rmul_fits w' (na.steps h) (db.steps h) fa.1 fb.2 g1
 have m2 := fun (w' : World) (h : Steps w w') => rmul_fits w' (nb'.steps h) (da.steps h) fb.1 fa.2 g2
 have cm : ∀ w' v u, Num w' v (r.num * s.den) → Num w' u (s.num * r.den) → Calls Tryz.prog 82 #[v, u] w' fun e w2 => e = .returned (.int .i64 (cmpQ r s)) ∧ Steps w' w2 := fun w' v u h1 h2 => by
  have := rcompared w' h1 h2 g1 g2
  rw [cmpI_rat] at this
  exact this
 obtain ⟨ga, hga⟩ : ∃ g, decide (r < 0) = g := ⟨_, rfl⟩
 obtain ⟨gb, hgb⟩ : ∃ g, decide (s < 0) = g := ⟨_, rfl⟩
 obtain ⟨c, hc⟩ : ∃ c, cmpQ r s = c := ⟨_, rfl⟩
 rw [hga] at m1 bo ⊢
 rw [hgb] at m2 bo ⊢
 rw [hc] at cm ⊢
 obtain ⟨X, hX⟩ : ∃ X : Int, r.num * s.den = X := ⟨_, rfl⟩
 obtain ⟨Y, hY⟩ : ∃ X : Int, s.num * r.den = X := ⟨_, rfl⟩
 rw [hX] at m1 cm
 rw [hY] at m2 cm
 clear hga hgb hc hX hY na da nb' db g1 g2 h1 h2 h3 fa fb ha hb hr hs hk
 go_enter Tryz.func45, Tryz.ntmps45
 go_wp2_with fail
 refine (bo _ belowB).mono ?_
 rintro e w1 ⟨rfl, hb1⟩
 have st : Steps _ w1 := hb1
 have Bn : Below w.heap.size w w1 := belowA st
 have oa : Blk w1 (w.heap.size) 27 #[.bool ga, .slice a2 a3 a4, .bool false, .slice a6 a7 a8] := Blk.stepsK st
 have ob : Blk w1 (w.heap.size + 1) 27 #[.bool gb, .slice b2 b3 b4, .bool false, .slice b6 b7 b8] := Blk.stepsK st
 clear st
 have B := Bn
 clear Bn
 obtain ⟨ca0, ca1, ca2, ca3, fa, la⟩ := oa.s3
 obtain ⟨cb0, cb1, cb2, cb3, fb, lb⟩ := ob.s3
 clear bo
 go_wp2_with fail
 refine (m1 _ B).mono ?_
 rintro e w2 ⟨vx, rfl, hvx, hb2⟩
 have st : Steps _ w2 := hb2
 have Bn : Below w.heap.size w w2 := belowA st
 have na := oa.stp st
 have nb := ob.stp st
 clear B oa ob ca0 ca1 ca2 ca3 fa la cb0 cb1 cb2 cb3 fb lb
 clear st
 have B := Bn
 clear Bn
 have oa := na
 clear na
 obtain ⟨ca0, ca1, ca2, ca3, fa, la⟩ := oa.s3
 have ob := nb
 clear nb
 obtain ⟨cb0, cb1, cb2, cb3, fb, lb⟩ := ob.s3
 obtain ⟨x1, x2, x3, x4, rfl⟩ := hvx.shape
 have Fx := Hid.mk_ hvx
 clear hvx
 clear m1
 have zx : w.heap.size + 1 < w2.heap.size := ob.lt
 go_wp2_with fail
 refine (m2 _ belowB).mono ?_
 rintro e w3 ⟨vy, rfl, hvy, hb3⟩
 have st : Steps _ w3 := hb3
 have Bn : Below w.heap.size w w3 := belowA st
 have kp : Keeps w2 w3 := Keeps.then_ keepsB st
 have na := oa.stp st
 have nb := ob.stp st
 have ox : Blk w3 (w2.heap.size) 25 #[.bool x1, .slice x2 x3 x4] := Blk.stepsK st
 clear B oa ob ca0 ca1 ca2 ca3 fa la cb0 cb1 cb2 cb3 fb lb
 clear st
 have B := Bn
 clear Bn
 replace Fx := Hid.mk_ (Fx.out.keeps kp)
 clear kp
 have oa := na
 clear na
 obtain ⟨ca0, ca1, ca2, ca3, fa, la⟩ := oa.s3
 have ob := nb
 clear nb
 obtain ⟨cb0, cb1, cb2, cb3, fb, lb⟩ := ob.s3
 obtain ⟨cx0, cx1, fx, lx⟩ := ox.s1
 obtain ⟨y1, y2, y3, y4, rfl⟩ := hvy.shape
 have Fy := Hid.mk_ hvy
 clear hvy
 clear m2
 have zy : w2.heap.size < w3.heap.size := ox.lt
 go_wp2_with fail
 refine (cm _ _ _ (Fx.out.keeps keepsB) (Fy.out.keeps keepsB)).mono ?_
 rintro e w4 ⟨rfl, hb4⟩
 have st : Steps _ w4 := hb4
 have Bn : Below w.heap.size w w4 := belowA st
 have kp : Keeps w3 w4 := Keeps.then_ keepsB st
 have na := oa.stp st
 have nb := ob.stp st
 have nx := ox.stp st
 have oy : Blk w4 (w3.heap.size) 25 #[.bool y1, .slice y2 y3 y4] := Blk.stepsK st
 clear B oa ob ox ca0 ca1 ca2 ca3 fa la cb0 cb1 cb2 cb3 fb lb cx0 cx1 fx lx
 clear st
 have B := Bn
 clear Bn
 replace Fx := Hid.mk_ (Fx.out.keeps kp)
 replace Fy := Hid.mk_ (Fy.out.keeps kp)
 clear kp
 have oa := na
 clear na
 obtain ⟨ca0, ca1, ca2, ca3, fa, la⟩ := oa.s3
 have ob := nb
 clear nb
 obtain ⟨cb0, cb1, cb2, cb3, fb, lb⟩ := ob.s3
 have ox := nx
 clear nx
 obtain ⟨cx0, cx1, fx, lx⟩ := ox.s1
 obtain ⟨cy0, cy1, fy, ly⟩ := oy.s1
 go_wp2
 go_returns
 exact ⟨rfl, belowB⟩
end Go.Proofs.YtmpambmpknaldaaGreat
