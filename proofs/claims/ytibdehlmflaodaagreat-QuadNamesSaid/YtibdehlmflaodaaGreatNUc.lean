import Derived.Test.YtibdehlmflaodaaGreatNUb
import Derived.Defers
import Derived.Recover
import Derived.Laws.Pointers
import Derived.WalkLawsBesides
import Derived.Test.YtibdehlmflaodaaGreatNNp
set_option linter.unusedVariables false
set_option linter.unusedSimpArgs false
set_option maxHeartbeats 6400000
set_option maxRecDepth 1000000
namespace Go.Proofs.YtibdehlmflaodaaGreat
open Go.RowKit
theorem fwant0 (w : World) : Calls Tryz.prog 52 #[.int .i64 0] w fun e w' => e = .returned (.tuple #[]) ∧ w' = w := by
 go_enter Tryz.func52, Tryz.ntmps52
 go_wp2
 go_end0
 exact ⟨rfl, rfl⟩
def fallV (e : Int) : Value := .iface 99 (.agg #[.int .i64 e])
theorem fcatch_idle (p : Addr) (w : World) :
  CallsD Tryz.prog 51 #[.pointer (some p)] .returning w fun e u' w' => e = .returned (.tuple #[]) ∧ u' = .returning ∧ w' = w := by
 refine callsD_of_wpS Tryz.func51 rfl fun c₀ cs hu => ?_
 apply wpS_seq
 apply wpS_region
 simp [wpOpsS, go_sem, recoverD, hu, Tryz.ntmps51, Exit.thenS]
 refine wpS_of_wp ?_
 show Code.wp _ _ _ ⟨#[.pointer (some p), undef, undef, undef, undef, .nilIface, undef, undef, undef, undef, undef, undef, undef, undef, undef], []⟩ w
 go_wp2_with fail
 cases c₀
 simp_all [bodyPostS, results, Tryz.results51]
theorem fits_small64 {x : Int} (x0 : -9223372036854775808 ≤ x) (x1 : x ≤ 9223372036854775807) : fits x := fits_bp (k := 2) (by rw [bp_two]; unfold absN; omega) (by omega)
theorem fmust {va : Value} {x : Int} (w : World) (ha : Num w va x) : Calls Tryz.prog 30 #[va, .int .i64 0] w fun e w2 => ∃ v, e = .returned v ∧ Num w2 v x ∧ Steps w w2 := by
 obtain ⟨a1, a2, a3, a4, rfl⟩ := ha.shape
 have Fa := Hid.mk_ ha
 clear ha
 go_enter Tryz.func30, Tryz.ntmps30
 go_wp2_with fail
 refine bodyPost_ret (by simp [results, Tryz.results30, go_sem, ]; rfl) rfl ?_
 exact ⟨_, rfl, Fa.out.keeps keepsB, belowB⟩
theorem freduce {va vb : Value} {x y : Int} (w : World) (ha : Num w va x) (hb : Num w vb y) (fx : fits x) (fy : fits y) (hy : y ≠ 0) :
  Calls Tryz.prog 53 #[va, vb] w fun e w' => ∃ v, e = .returned v ∧ FR w' v ((x : Rat) / (y : Rat)) ∧ Steps w w' := by
 have RA := rd_abs (x := x) hy
 have fP : fits (rdP x y) := fits_le RA.1 fx
 have fQ : fits (rdQ x y) := fits_le RA.2.1 fy
 have fG : fits (rg x y) := fits_le RA.2.2 fy
 have g0 := rg_ne (x := x) hy
 have gc : ∀ w' u v, Num w' u x → Num w' v y → Calls Tryz.prog 42 #[u, v] w' fun e w2 => ∃ v, e = .returned (.tuple #[v, .int .i64 0]) ∧ Num w2 v (gcdI x y) ∧ Steps w' w2 := fun w' u v h1 h2 => (wgcd w' h1 h2 fx fy).mono (by rintro e w2 ⟨v, rfl, h, -, hs⟩; exact ⟨v, rfl, h, hs⟩)
 have d1 : ∀ w' u v, Num w' u x → Num w' v (rg x y) → Calls Tryz.prog 77 #[u, v] w' fun e w2 => ∃ q r, e = .returned (.tuple #[q, r, .int .i64 0]) ∧ Num w2 q (rdP x y) ∧ Num w2 r (modF x (rg x y)) ∧ Steps w' w2 := fun w' u v h1 h2 => wdivmod w' h1 h2 fx fG g0
 have d2 : ∀ w' u v, Num w' u y → Num w' v (rg x y) → Calls Tryz.prog 77 #[u, v] w' fun e w2 => ∃ q r, e = .returned (.tuple #[q, r, .int .i64 0]) ∧ Num w2 q (rdQ x y) ∧ Num w2 r (modF y (rg x y)) ∧ Steps w' w2 := fun w' u v h1 h2 => wdivmod w' h1 h2 fy fG g0
 have MK : Hid (∀ w' a s b t, Num w' (.agg #[.bool a, s]) (rdP x y) → Num w' (.agg #[.bool b, t]) (rdQ x y) → FR w' (.agg #[.bool a, s, .bool b, t]) ((x : Rat) / (y : Rat))) := fun w' a s b t h1 h2 => FR.of_rd hy (Frc.mk' h1 h2 (rdQ_pos (x := x) hy) (rd_gcd (x := x) hy) fP fQ)
 have fg : fits (gcdI x y) := by
  unfold rg at fG
  split at fG
  · have := fits_neg fG; rwa [Int.neg_neg] at this
  · exact fG
 have ng : ∀ w' v, Num w' v (gcdI x y) → Calls Tryz.prog 76 #[v] w' fun e w2 => ∃ v, e = .returned (.tuple #[v, .int .i64 0]) ∧ Num w2 v (-gcdI x y) ∧ Steps w' w2 := fun w' v h => wNeg w' h fg
 obtain ⟨a1, a2, a3, a4, rfl⟩ := ha.shape
 have Fa := Hid.mk_ ha
 clear ha
 obtain ⟨b2, b4, rfl, -⟩ := hb.parts
 obtain ⟨b3, hb3⟩ : ∃ n, (limbs (absN y)).length = n := ⟨_, rfl⟩
 rw [hb3] at hb ⊢
 by_cases hs : y < 0
 ·
  rw [decide_eq_true hs] at hb ⊢
  have HG : rg x y = -gcdI x y := if_pos hs
  rw [HG] at d1 d2
  have Fb := Hid.mk_ hb
  clear hb hb3 hs HG fg hy fx fy g0 RA fP fQ fG
  go_enter Tryz.func53, Tryz.ntmps53
  go_wp2_with fail
  refine (gc _ _ _ (Fa.out.keeps keepsB) (Fb.out.keeps keepsB)).mono ?_
  rintro e w1 ⟨vg, rfl, hvg, hb1⟩
  have st : Steps _ w1 := hb1
  have B : Below w.heap.size w w1 := belowA st
  have kp : Keeps w w1 := Keeps.then_ keepsB st
  have oa : Blk w1 (w.heap.size) 28 #[.bool a1, .slice a2 a3 a4] := Blk.stepsK st
  have ob : Blk w1 (w.heap.size + 1) 28 #[.bool true, .slice b2 b3 b4] := Blk.stepsK st
  have or : Blk w1 (w.heap.size + 1 + 1) 30 #[.bool false, .slice none 0 0, .bool false, .slice none 0 0] := Blk.stepsK st
  replace Fa := Hid.mk_ (Fa.out.keeps kp)
  replace Fb := Hid.mk_ (Fb.out.keeps kp)
  clear kp
  clear st
  obtain ⟨g1, g2, g3, g4, rfl⟩ := hvg.shape
  have Fg := Hid.mk_ hvg
  clear hvg
  clear gc
  go_wp2_with fail
  refine (fmust _ (Fg.out.keeps keepsB)).mono ?_
  rintro e w2 ⟨vm1_, rfl, hvm1_, hb2⟩
  have st : Steps _ w2 := hb2
  have sk : Below w1.heap.size w1 w2 := belowA st
  replace B := below_steps B (Nat.le_refl _) sk
  replace oa := oa.steps sk
  replace ob := ob.steps sk
  replace or := or.steps sk
  replace Fa := Hid.mk_ (Fa.out.steps sk)
  replace Fb := Hid.mk_ (Fb.out.steps sk)
  replace Fg := Hid.mk_ (Fg.out.steps sk)
  clear st sk
  have la := oa.lt
  obtain ⟨cb0, cb1⟩ := ob.r1
  have lb := ob.lt
  have lr := or.lt
  obtain ⟨m1_1, m1_2, m1_3, m1_4, rfl⟩ := hvm1_.shape
  have Fm1_ := Hid.mk_ hvm1_
  clear hvm1_
  have zr : w.heap.size + 1 + 1 < w2.heap.size := or.lt
  have zz2 := B.size
  go_wp2_with fail
  refine (ng _ _ (Fm1_.out.keeps keepsB)).mono ?_
  rintro e w3 ⟨vh, rfl, hvh, hb3⟩
  have st : Steps _ w3 := hb3
  have sk : Below w2.heap.size w2 w3 := belowA st
  replace B := below_steps B (Nat.le_refl _) sk
  have og : Blk w3 (w2.heap.size) 28 #[.bool m1_1, .slice m1_2 m1_3 m1_4] := Blk.stepsK st
  replace oa := oa.steps sk
  replace ob := ob.steps sk
  replace or := or.steps sk
  replace Fa := Hid.mk_ (Fa.out.steps sk)
  replace Fb := Hid.mk_ (Fb.out.steps sk)
  replace Fg := Hid.mk_ (Fg.out.steps sk)
  replace Fm1_ := Hid.mk_ (Fm1_.out.steps sk)
  clear st sk la cb0 cb1 lb lr
  obtain ⟨h1, h2, h3, h4, rfl⟩ := hvh.shape
  have Fh := Hid.mk_ hvh
  clear hvh
  clear ng
  go_wp2_with fail
  refine (fmust _ (Fh.out.keeps keepsB)).mono ?_
  rintro e w4 ⟨vm2_, rfl, hvm2_, hb4⟩
  have st : Steps _ w4 := hb4
  have sk : Below w3.heap.size w3 w4 := belowA st
  replace B := below_steps B (Nat.le_refl _) sk
  replace oa := oa.steps sk
  replace ob := ob.steps sk
  replace or := or.steps sk
  replace og := og.steps sk
  replace Fa := Hid.mk_ (Fa.out.steps sk)
  replace Fb := Hid.mk_ (Fb.out.steps sk)
  replace Fg := Hid.mk_ (Fg.out.steps sk)
  replace Fm1_ := Hid.mk_ (Fm1_.out.steps sk)
  replace Fh := Hid.mk_ (Fh.out.steps sk)
  clear st sk
  obtain ⟨ca0, ca1⟩ := oa.r1
  have la := oa.lt
  have lb := ob.lt
  have lr := or.lt
  obtain ⟨cg0, cg1, fg, lg⟩ := og.s1
  obtain ⟨m2_1, m2_2, m2_3, m2_4, rfl⟩ := hvm2_.shape
  have Fm2_ := Hid.mk_ hvm2_
  clear hvm2_
  go_wp2_with fail
  refine (d1 _ _ _ (Fa.out.keeps keepsB) (Fm2_.out.keeps keepsB)).mono ?_
  rintro e w5 ⟨vp, vs, rfl, hvp, hvs, hb5⟩
  have st : Steps _ w5 := hb5
  have Bn : Below w.heap.size w w5 := belowA st
  have kp : Keeps w4 w5 := Keeps.then_ keepsB st
  replace oa : Blk w5 (w.heap.size) 28 #[.bool a1, .slice a2 a3 a4] := Blk.stepsK st
  replace ob : Blk w5 (w.heap.size + 1) 28 #[.bool true, .slice b2 b3 b4] := Blk.stepsK st
  replace or : Blk w5 (w.heap.size + 1 + 1) 30 #[.bool false, .slice none 0 0, .bool false, .slice none 0 0] := Blk.stepsK st
  replace og : Blk w5 (w2.heap.size) 28 #[.bool m2_1, .slice m2_2 m2_3 m2_4] := Blk.stepsK st
  clear ca0 ca1 la lb lr cg0 cg1 fg lg
  replace B := Bn
  replace Fa := Hid.mk_ (Fa.out.keeps kp)
  replace Fb := Hid.mk_ (Fb.out.keeps kp)
  replace Fg := Hid.mk_ (Fg.out.keeps kp)
  replace Fm1_ := Hid.mk_ (Fm1_.out.keeps kp)
  replace Fh := Hid.mk_ (Fh.out.keeps kp)
  replace Fm2_ := Hid.mk_ (Fm2_.out.keeps kp)
  clear kp
  clear st
  have la := oa.lt
  obtain ⟨cb0, cb1⟩ := ob.r1
  have lb := ob.lt
  have lr := or.lt
  obtain ⟨cg0, cg1⟩ := og.r1
  have lg := og.lt
  obtain ⟨p1, p2, p3, p4, rfl⟩ := hvp.shape
  obtain ⟨s1, s2, s3, s4, rfl⟩ := hvs.shape
  have Fp := Hid.mk_ hvp
  clear hvp
  have Fs := Hid.mk_ hvs
  clear hvs
  clear d1
  have zg : w2.heap.size < w5.heap.size := og.lt
  have zz5 := B.size
  go_wp2_with fail
  refine (d2 _ _ _ (Fb.out.keeps keepsB) (Fm2_.out.keeps keepsB)).mono ?_
  rintro e w6 ⟨vq, vt, rfl, hvq, hvt, hb6⟩
  have st : Steps _ w6 := hb6
  have sk : Below w5.heap.size w5 w6 := belowA st
  replace B := below_steps B (Nat.le_refl _) sk
  have op : Blk w6 (w5.heap.size) 28 #[.bool p1, .slice p2 p3 p4] := Blk.stepsK st
  have os : Blk w6 (w5.heap.size + 1) 28 #[.bool s1, .slice s2 s3 s4] := Blk.stepsK st
  replace oa := oa.steps sk
  replace ob := ob.steps sk
  replace or := or.steps sk
  replace og := og.steps sk
  replace Fa := Hid.mk_ (Fa.out.steps sk)
  replace Fb := Hid.mk_ (Fb.out.steps sk)
  replace Fg := Hid.mk_ (Fg.out.steps sk)
  replace Fm1_ := Hid.mk_ (Fm1_.out.steps sk)
  replace Fh := Hid.mk_ (Fh.out.steps sk)
  replace Fm2_ := Hid.mk_ (Fm2_.out.steps sk)
  replace Fp := Hid.mk_ (Fp.out.steps sk)
  replace Fs := Hid.mk_ (Fs.out.steps sk)
  clear st sk la cb0 cb1 lb lr cg0 cg1 lg
  have la := oa.lt
  have lb := ob.lt
  obtain ⟨cr0, cr1, cr2, cr3, fr, lr⟩ := or.s3
  obtain ⟨cp0, cp1⟩ := op.r1
  have lp := op.lt
  have ls := os.lt
  obtain ⟨q1, q2, q3, q4, rfl⟩ := hvq.shape
  obtain ⟨t1, t2, t3, t4, rfl⟩ := hvt.shape
  have Fq := Hid.mk_ hvq
  clear hvq
  have Ft := Hid.mk_ hvt
  clear hvt
  clear d2
  have zs : w5.heap.size + 1 < w6.heap.size := os.lt
  have zz6 := B.size
  go_wp2_with fail
  refine bodyPost_ret (by simp [results, Tryz.results53, go_sem, la, lb, cr0, cr1, cr2, cr3, fr, lr, cp0, cp1, lp, ls]; rfl) rfl ?_
  exact ⟨_, rfl, MK.out _ _ _ _ _ (Fp.out.keeps keepsB) (Fq.out.keeps keepsB), belowB⟩
 ·
  rw [decide_eq_false hs] at hb ⊢
  have HG : rg x y = gcdI x y := if_neg hs
  rw [HG] at d1 d2
  have Fb := Hid.mk_ hb
  clear hb hb3 hs HG fg hy fx fy g0 RA fP fQ fG ng
  go_enter Tryz.func53, Tryz.ntmps53
  go_wp2_with fail
  refine (gc _ _ _ (Fa.out.keeps keepsB) (Fb.out.keeps keepsB)).mono ?_
  rintro e w1 ⟨vg, rfl, hvg, hb1⟩
  have st : Steps _ w1 := hb1
  have B : Below w.heap.size w w1 := belowA st
  have kp : Keeps w w1 := Keeps.then_ keepsB st
  have oa : Blk w1 (w.heap.size) 28 #[.bool a1, .slice a2 a3 a4] := Blk.stepsK st
  have ob : Blk w1 (w.heap.size + 1) 28 #[.bool false, .slice b2 b3 b4] := Blk.stepsK st
  have or : Blk w1 (w.heap.size + 1 + 1) 30 #[.bool false, .slice none 0 0, .bool false, .slice none 0 0] := Blk.stepsK st
  replace Fa := Hid.mk_ (Fa.out.keeps kp)
  replace Fb := Hid.mk_ (Fb.out.keeps kp)
  clear kp
  clear st
  obtain ⟨g1, g2, g3, g4, rfl⟩ := hvg.shape
  have Fg := Hid.mk_ hvg
  clear hvg
  clear gc
  go_wp2_with fail
  refine (fmust _ (Fg.out.keeps keepsB)).mono ?_
  rintro e w2 ⟨vm1_, rfl, hvm1_, hb2⟩
  have st : Steps _ w2 := hb2
  have sk : Below w1.heap.size w1 w2 := belowA st
  replace B := below_steps B (Nat.le_refl _) sk
  replace oa := oa.steps sk
  replace ob := ob.steps sk
  replace or := or.steps sk
  replace Fa := Hid.mk_ (Fa.out.steps sk)
  replace Fb := Hid.mk_ (Fb.out.steps sk)
  replace Fg := Hid.mk_ (Fg.out.steps sk)
  clear st sk
  obtain ⟨ca0, ca1⟩ := oa.r1
  have la := oa.lt
  obtain ⟨cb0, cb1⟩ := ob.r1
  have lb := ob.lt
  have lr := or.lt
  obtain ⟨m1_1, m1_2, m1_3, m1_4, rfl⟩ := hvm1_.shape
  have Fm1_ := Hid.mk_ hvm1_
  clear hvm1_
  have zr : w.heap.size + 1 + 1 < w2.heap.size := or.lt
  have zz2 := B.size
  go_wp2_with fail
  refine (d1 _ _ _ (Fa.out.keeps keepsB) (Fm1_.out.keeps keepsB)).mono ?_
  rintro e w3 ⟨vp, vs, rfl, hvp, hvs, hb3⟩
  have st : Steps _ w3 := hb3
  have sk : Below w2.heap.size w2 w3 := belowA st
  replace B := below_steps B (Nat.le_refl _) sk
  have og : Blk w3 (w2.heap.size) 28 #[.bool m1_1, .slice m1_2 m1_3 m1_4] := Blk.stepsK st
  replace oa := oa.steps sk
  replace ob := ob.steps sk
  replace or := or.steps sk
  replace Fa := Hid.mk_ (Fa.out.steps sk)
  replace Fb := Hid.mk_ (Fb.out.steps sk)
  replace Fg := Hid.mk_ (Fg.out.steps sk)
  replace Fm1_ := Hid.mk_ (Fm1_.out.steps sk)
  clear st sk ca0 ca1 la cb0 cb1 lb lr
  have la := oa.lt
  obtain ⟨cb0, cb1⟩ := ob.r1
  have lb := ob.lt
  have lr := or.lt
  obtain ⟨cg0, cg1⟩ := og.r1
  have lg := og.lt
  obtain ⟨p1, p2, p3, p4, rfl⟩ := hvp.shape
  obtain ⟨s1, s2, s3, s4, rfl⟩ := hvs.shape
  have Fp := Hid.mk_ hvp
  clear hvp
  have Fs := Hid.mk_ hvs
  clear hvs
  clear d1
  have zg : w2.heap.size < w3.heap.size := og.lt
  have zz3 := B.size
  go_wp2_with fail
  refine (d2 _ _ _ (Fb.out.keeps keepsB) (Fm1_.out.keeps keepsB)).mono ?_
  rintro e w4 ⟨vq, vt, rfl, hvq, hvt, hb4⟩
  have st : Steps _ w4 := hb4
  have sk : Below w3.heap.size w3 w4 := belowA st
  replace B := below_steps B (Nat.le_refl _) sk
  have op : Blk w4 (w3.heap.size) 28 #[.bool p1, .slice p2 p3 p4] := Blk.stepsK st
  have os : Blk w4 (w3.heap.size + 1) 28 #[.bool s1, .slice s2 s3 s4] := Blk.stepsK st
  replace oa := oa.steps sk
  replace ob := ob.steps sk
  replace or := or.steps sk
  replace og := og.steps sk
  replace Fa := Hid.mk_ (Fa.out.steps sk)
  replace Fb := Hid.mk_ (Fb.out.steps sk)
  replace Fg := Hid.mk_ (Fg.out.steps sk)
  replace Fm1_ := Hid.mk_ (Fm1_.out.steps sk)
  replace Fp := Hid.mk_ (Fp.out.steps sk)
  replace Fs := Hid.mk_ (Fs.out.steps sk)
  clear st sk la cb0 cb1 lb lr cg0 cg1 lg
  have la := oa.lt
  have lb := ob.lt
  obtain ⟨cr0, cr1, cr2, cr3, fr, lr⟩ := or.s3
  obtain ⟨cp0, cp1⟩ := op.r1
  have lp := op.lt
  have ls := os.lt
  obtain ⟨q1, q2, q3, q4, rfl⟩ := hvq.shape
  obtain ⟨t1, t2, t3, t4, rfl⟩ := hvt.shape
  have Fq := Hid.mk_ hvq
  clear hvq
  have Ft := Hid.mk_ hvt
  clear hvt
  clear d2
  have zs : w3.heap.size + 1 < w4.heap.size := os.lt
  have zz4 := B.size
  go_wp2_with fail
  refine bodyPost_ret (by simp [results, Tryz.results53, go_sem, la, lb, cr0, cr1, cr2, cr3, fr, lr, cp0, cp1, lp, ls]; rfl) rfl ?_
  exact ⟨_, rfl, MK.out _ _ _ _ _ (Fp.out.keeps keepsB) (Fq.out.keeps keepsB), belowB⟩
theorem fwant0s (w : World) : Calls Tryz.prog 52 #[.int .i64 0] w fun e w' => e = .returned (.tuple #[]) ∧ Steps w w' := (fwant0 w).mono (by rintro e w' ⟨rfl, rfl⟩; exact ⟨rfl, Below.refl _ _⟩)
theorem fmake {va vb : Value} {x y : Int} (w : World) (ha : Num w va x) (hb : Num w vb y) (fx : fits x) (fy : fits y) (hy : y ≠ 0) :
  Calls Tryz.prog 65 #[va, vb] w fun e w' => ∃ v, e = .returned (.tuple #[v, .int .i64 0]) ∧ FR w' v ((x : Rat) / (y : Rat)) ∧ Steps w w' := by
 have c1 : ∀ w' v, Num w' v x → Calls Tryz.prog 84 #[v] w' fun e w2 => e = .returned (.int .i64 0) ∧ Steps w' w2 := fun w' v h => wCheck w' h fx
 have c2 : ∀ w' v, Num w' v y → Calls Tryz.prog 84 #[v] w' fun e w2 => e = .returned (.int .i64 0) ∧ Steps w' w2 := fun w' v h => wCheck w' h fy
 have zr : ∀ w' v, Num w' v y → Calls Tryz.prog 43 #[v] w' fun e w2 => e = .returned (.bool false) ∧ Steps w' w2 := fun w' v h => by have := fzero w' h; rwa [decide_eq_false hy] at this
 have rd : ∀ w' u v, Num w' u x → Num w' v y → Calls Tryz.prog 53 #[u, v] w' fun e w2 => ∃ v, e = .returned v ∧ FR w2 v ((x : Rat) / (y : Rat)) ∧ Steps w' w2 := fun w' u v h1 h2 => freduce w' h1 h2 fx fy hy
 obtain ⟨a1, a2, a3, a4, rfl⟩ := ha.shape
 have Fa := Hid.mk_ ha
 clear ha
 obtain ⟨b1, b2, b3, b4, rfl⟩ := hb.shape
 have Fb := Hid.mk_ hb
 clear hb
 clear fx fy hy
 go_enter_defers Tryz.func65, Tryz.ntmps65
 go_wp2_with fail
 refine (c1 _ _ (Fa.out.keeps keepsB)).mono ?_
 rintro e w1 ⟨rfl, hb1⟩
 have st : Steps _ w1 := hb1
 have B : Below w.heap.size w w1 := belowA st
 have kp : Keeps w w1 := Keeps.then_ keepsB st
 have oa : Blk w1 (w.heap.size) 28 #[.bool a1, .slice a2 a3 a4] := Blk.stepsK st
 have ob : Blk w1 (w.heap.size + 1) 28 #[.bool b1, .slice b2 b3 b4] := Blk.stepsK st
 have or : Blk w1 (w.heap.size + 1 + 1) 30 #[.bool false, .slice none 0 0, .bool false, .slice none 0 0] := Blk.stepsK st
 have oe : Blk w1 (w.heap.size + 1 + 1 + 1) 34 #[.int .i64 0] := Blk.stepsK st
 replace Fa := Hid.mk_ (Fa.out.keeps kp)
 replace Fb := Hid.mk_ (Fb.out.keeps kp)
 clear kp
 clear st
 go_wp2_with fail
 refine (fwant0s _).mono ?_
 rintro e w2 ⟨rfl, hb2⟩
 have st : Steps _ w2 := hb2
 have sk : Below w1.heap.size w1 w2 := belowA st
 replace B := below_steps B (Nat.le_refl _) sk
 replace oa := oa.steps sk
 replace ob := ob.steps sk
 replace or := or.steps sk
 replace oe := oe.steps sk
 replace Fa := Hid.mk_ (Fa.out.steps sk)
 replace Fb := Hid.mk_ (Fb.out.steps sk)
 clear st sk
 have la := oa.lt
 obtain ⟨cb0, cb1⟩ := ob.r1
 have lb := ob.lt
 have lr := or.lt
 have le := oe.lt
 go_wp2_with fail
 refine (c2 _ _ (Fb.out.keeps keepsB)).mono ?_
 rintro e w3 ⟨rfl, hb3⟩
 have st : Steps _ w3 := hb3
 have sk : Below w2.heap.size w2 w3 := belowA st
 replace B := below_steps B (Nat.le_refl _) sk
 replace oa := oa.steps sk
 replace ob := ob.steps sk
 replace or := or.steps sk
 replace oe := oe.steps sk
 replace Fa := Hid.mk_ (Fa.out.steps sk)
 replace Fb := Hid.mk_ (Fb.out.steps sk)
 clear st sk la cb0 cb1 lb lr le
 go_wp2_with fail
 refine (fwant0s _).mono ?_
 rintro e w4 ⟨rfl, hb4⟩
 have st : Steps _ w4 := hb4
 have sk : Below w3.heap.size w3 w4 := belowA st
 replace B := below_steps B (Nat.le_refl _) sk
 replace oa := oa.steps sk
 replace ob := ob.steps sk
 replace or := or.steps sk
 replace oe := oe.steps sk
 replace Fa := Hid.mk_ (Fa.out.steps sk)
 replace Fb := Hid.mk_ (Fb.out.steps sk)
 clear st sk
 have la := oa.lt
 obtain ⟨cb0, cb1⟩ := ob.r1
 have lb := ob.lt
 have lr := or.lt
 have le := oe.lt
 go_wp2_with fail
 refine (zr _ _ (Fb.out.keeps keepsB)).mono ?_
 rintro e w5 ⟨rfl, hb5⟩
 have st : Steps _ w5 := hb5
 have sk : Below w4.heap.size w4 w5 := belowA st
 replace B := below_steps B (Nat.le_refl _) sk
 replace oa := oa.steps sk
 replace ob := ob.steps sk
 replace or := or.steps sk
 replace oe := oe.steps sk
 replace Fa := Hid.mk_ (Fa.out.steps sk)
 replace Fb := Hid.mk_ (Fb.out.steps sk)
 clear st sk la cb0 cb1 lb lr le
 obtain ⟨ca0, ca1⟩ := oa.r1
 have la := oa.lt
 obtain ⟨cb0, cb1⟩ := ob.r1
 have lb := ob.lt
 have lr := or.lt
 have le := oe.lt
 go_wp2_with fail
 refine (rd _ _ _ (Fa.out.keeps keepsB) (Fb.out.keeps keepsB)).mono ?_
 rintro e w6 ⟨vq, rfl, hvq, hb6⟩
 have st : Steps _ w6 := hb6
 have sk : Below w5.heap.size w5 w6 := belowA st
 replace B := below_steps B (Nat.le_refl _) sk
 replace oa := oa.steps sk
 replace ob := ob.steps sk
 replace or := or.steps sk
 replace oe := oe.steps sk
 replace Fa := Hid.mk_ (Fa.out.steps sk)
 replace Fb := Hid.mk_ (Fb.out.steps sk)
 clear st sk ca0 ca1 la cb0 cb1 lb lr le
 have la := oa.lt
 have lb := ob.lt
 obtain ⟨cr0, cr1, cr2, cr3, fr, lr⟩ := or.s3
 have ce0 := oe.q0
 have fe := oe.fr
 have le := oe.lt
 obtain ⟨q1, q2, q3, q4, q5, q6, q7, q8, rfl⟩ := hvq.shape
 have Fq := Hid.mk_ hvq
 clear hvq
 go_wp2_with fail
 refine leaves_cons (f := 51) (args := #[.pointer (some ⟨w.heap.size + 1 + 1 + 1, 0, none⟩)]) (by simp) (by simp [go_sem]) ?_
 refine (fcatch_idle _ _).mono ?_
 rintro e u' w'' ⟨rfl, rfl, rfl⟩
 refine ⟨_, by simp [results, Tryz.results65, go_sem, la, lb, cr0, cr1, cr2, cr3, fr, lr, ce0, fe, le]; rfl, ?_⟩
 exact ⟨_, rfl, Fq.out.keeps keepsB, belowB⟩
theorem fofQ (x y : Int) (w : World) (x0 : -9223372036854775808 ≤ x) (x1 : x ≤ 9223372036854775807) (y0 : -9223372036854775808 ≤ y) (y1 : y ≤ 9223372036854775807) (hy : y ≠ 0) :
  Calls Tryz.prog 38 #[.int .i64 x, .int .i64 y] w fun e w' => ∃ v, e = .returned (.tuple #[v, .int .i64 0]) ∧ FR w' v ((x : Rat) / (y : Rat)) ∧ Steps w w' := by
 have fx : fits x := fits_small64 x0 x1
 have fy : fits y := fits_small64 y0 y1
 have f1 := fun w' => wfrom x w' x0 x1
 have f2 := fun w' => wfrom y w' y0 y1
 have mk : ∀ w' u v, Num w' u x → Num w' v y → Calls Tryz.prog 65 #[u, v] w' fun e w2 => ∃ v, e = .returned (.tuple #[v, .int .i64 0]) ∧ FR w2 v ((x : Rat) / (y : Rat)) ∧ Steps w' w2 := fun w' u v h1 h2 => fmake w' h1 h2 fx fy hy
 clear x0 x1 y0 y1 fx fy hy
 go_enter Tryz.func38, Tryz.ntmps38
 go_wp2_with fail
 refine (f1 _).mono ?_
 rintro e w1 ⟨vnx, rfl, hvnx, hb1⟩
 have st : Steps _ w1 := hb1
 have B : Below w.heap.size w w1 := belowA st
 have or : Blk w1 (w.heap.size) 30 #[.bool false, .slice none 0 0, .bool false, .slice none 0 0] := Blk.stepsK st
 clear st
 obtain ⟨nx1, nx2, nx3, nx4, rfl⟩ := hvnx.shape
 have Fnx := Hid.mk_ hvnx
 clear hvnx
 go_wp2_with fail
 refine (f2 _).mono ?_
 rintro e w2 ⟨vny, rfl, hvny, hb2⟩
 have st : Steps _ w2 := hb2
 have sk : Below w1.heap.size w1 w2 := belowA st
 replace B := below_steps B (Nat.le_refl _) sk
 replace or := or.steps sk
 replace Fnx := Hid.mk_ (Fnx.out.steps sk)
 clear st sk
 obtain ⟨ny1, ny2, ny3, ny4, rfl⟩ := hvny.shape
 have Fny := Hid.mk_ hvny
 clear hvny
 go_wp2_with fail
 refine (mk _ _ _ (Fnx.out.keeps keepsB) (Fny.out.keeps keepsB)).mono ?_
 rintro e w3 ⟨vq, rfl, hvq, hb3⟩
 have st : Steps _ w3 := hb3
 have sk : Below w2.heap.size w2 w3 := belowA st
 replace B := below_steps B (Nat.le_refl _) sk
 replace or := or.steps sk
 replace Fnx := Hid.mk_ (Fnx.out.steps sk)
 replace Fny := Hid.mk_ (Fny.out.steps sk)
 clear st sk
 obtain ⟨cr0, cr1, cr2, cr3, fr, lr⟩ := or.s3
 obtain ⟨q1, q2, q3, q4, q5, q6, q7, q8, rfl⟩ := hvq.shape
 have Fq := Hid.mk_ hvq
 clear hvq
 go_wp2_with fail
 refine bodyPost_ret (by simp [results, Tryz.results38, go_sem, cr0, cr1, cr2, cr3, fr, lr]; rfl) rfl ?_
 exact ⟨_, rfl, Fq.out.keeps keepsB, belowB⟩
theorem fcross {va vb : Value} {r s : Rat} (w : World) (ha : FR w va r) (hb : FR w vb s) (f : fits (r.num * s.den)) :
  Calls Tryz.prog 32 #[va, vb] w fun e w' => ∃ v, e = .returned v ∧ Num w' v (r.num * s.den) ∧ Steps w w' := by
 have fa := ha.fit
 have fb := hb.fit
 obtain ⟨a2, a3, a4, a6, a7, a8, rfl, na, da, -⟩ := ha.nums
 obtain ⟨b2, b3, b4, b6, b7, b8, rfl, nb', db, -⟩ := hb.nums
 have m1 : ∀ w' u v, Num w' u r.num → Num w' v s.den → Calls Tryz.prog 33 #[u, v] w' fun e w2 => ∃ v, e = .returned (.tuple #[v, .int .i64 0]) ∧ Num w2 v (r.num * s.den) ∧ Steps w' w2 := fun w' u v h1 h2 => by
  have := wMul w' h1 h2 fa.1 fb.2
  rw [errN_fits f, clipN_fits f] at this
  exact this
 obtain ⟨ga, hga⟩ : ∃ g, decide (r < 0) = g := ⟨_, rfl⟩
 obtain ⟨gb, hgb⟩ : ∃ g, decide (s < 0) = g := ⟨_, rfl⟩
 rw [hga] at na ⊢
 rw [hgb]
 have Fa := Hid.mk_ na
 have Fb := Hid.mk_ db
 clear hga hgb na da nb' db fa fb ha hb f
 go_enter Tryz.func32, Tryz.ntmps32
 go_wp2_with fail
 refine (m1 _ _ _ (Fa.out.keeps keepsB) (Fb.out.keeps keepsB)).mono ?_
 rintro e w1 ⟨vp, rfl, hvp, hb1⟩
 have st : Steps _ w1 := hb1
 have B : Below w.heap.size w w1 := belowA st
 have kp : Keeps w w1 := Keeps.then_ keepsB st
 have oa : Blk w1 (w.heap.size) 30 #[.bool ga, .slice a2 a3 a4, .bool false, .slice a6 a7 a8] := Blk.stepsK st
 have ob : Blk w1 (w.heap.size + 1) 30 #[.bool gb, .slice b2 b3 b4, .bool false, .slice b6 b7 b8] := Blk.stepsK st
 have or : Blk w1 (w.heap.size + 1 + 1) 28 #[.bool false, .slice none 0 0] := Blk.stepsK st
 replace Fa := Hid.mk_ (Fa.out.keeps kp)
 replace Fb := Hid.mk_ (Fb.out.keeps kp)
 clear kp
 clear st
 obtain ⟨p1, p2, p3, p4, rfl⟩ := hvp.shape
 have Fp := Hid.mk_ hvp
 clear hvp
 go_wp2_with fail
 refine (fmust _ (Fp.out.keeps keepsB)).mono ?_
 rintro e w2 ⟨vq, rfl, hvq, hb2⟩
 have st : Steps _ w2 := hb2
 have sk : Below w1.heap.size w1 w2 := belowA st
 replace B := below_steps B (Nat.le_refl _) sk
 replace oa := oa.steps sk
 replace ob := ob.steps sk
 replace or := or.steps sk
 replace Fa := Hid.mk_ (Fa.out.steps sk)
 replace Fb := Hid.mk_ (Fb.out.steps sk)
 replace Fp := Hid.mk_ (Fp.out.steps sk)
 clear st sk
 have la := oa.lt
 have lb := ob.lt
 obtain ⟨cr0, cr1, fr, lr⟩ := or.s1
 obtain ⟨q1, q2, q3, q4, rfl⟩ := hvq.shape
 have Fq := Hid.mk_ hvq
 clear hvq
 go_wp2_with fail
 refine bodyPost_ret (by simp [results, Tryz.results32, go_sem, la, lb, cr0, cr1, fr, lr]; rfl) rfl ?_
 exact ⟨_, rfl, Fq.out.keeps keepsB, belowB⟩
theorem fcheck_q {v : Value} {r : Rat} (w : World) (h : FR w v r) : Calls Tryz.prog 22 #[v] w fun e w' => e = .returned (.int .i64 0) ∧ Steps w w' := fcheck_ok w h
theorem fcheck_bad {v : Value} (w : World) (h : Bad w v) : Calls Tryz.prog 22 #[v] w fun e w' => e = .returned (.int .i64 8) ∧ Steps w w' := by
 obtain ⟨gx, sa, gy, sb, la, lb, rfl, l1, l2, hv⟩ := h
 have := fcheck gx gy w l1 l2
 rw [errC_eq, if_neg hv] at this
 exact this
theorem fSub1 {va vb : Value} {r s : Rat} (w : World) (ha : FR w va r) (hb : FR w vb s) (g1 : fits (r.num * s.den)) (g2 : fits (s.num * r.den)) (g3 : fits (r.num * s.den - s.num * r.den)) (g4 : fits (r.den * s.den)) :
  Calls Tryz.prog 72 #[va, vb] w fun e w' => ∃ u v, e = .returned (.tuple #[u, v]) ∧ Num w' u (r.num * s.den - s.num * r.den) ∧ Num w' v (r.den * s.den) ∧ Steps w w' := by
 have fa := ha.fit
 have fb := hb.fit
 have m2 : ∀ w' u v, Num w' u (r.den) → Num w' v (s.den) → Calls Tryz.prog 33 #[u, v] w' fun e w2 => ∃ v, e = .returned (.tuple #[v, .int .i64 0]) ∧ Num w2 v (r.den * s.den) ∧ Steps w' w2 := fun w' u v h1 h2 => by
  have := wMul w' h1 h2 fa.2 fb.2
  rw [errN_fits g4, clipN_fits g4] at this
  exact this
 have cr1 : ∀ w' u v, FR w' u r → FR w' v s → Calls Tryz.prog 32 #[u, v] w' fun e w2 => ∃ v, e = .returned v ∧ Num w2 v (r.num * s.den) ∧ Steps w' w2 := fun w' u v h1 h2 => fcross w' h1 h2 g1
 have cr2 : ∀ w' u v, FR w' u s → FR w' v r → Calls Tryz.prog 32 #[u, v] w' fun e w2 => ∃ v, e = .returned v ∧ Num w2 v (s.num * r.den) ∧ Steps w' w2 := fun w' u v h1 h2 => fcross w' h1 h2 g2
 have ad : ∀ w' u v, Num w' u (r.num * s.den) → Num w' v (s.num * r.den) → Calls Tryz.prog 73 #[u, v] w' fun e w2 => ∃ v, e = .returned (.tuple #[v, .int .i64 0]) ∧ Num w2 v (r.num * s.den - s.num * r.den) ∧ Steps w' w2 := fun w' u v h1 h2 => by
  have := wSub w' h1 h2 g1 g2
  rw [errN_fits g3, clipN_fits g3] at this
  exact this
 have ha0 := ha
 have hb0 := hb
 obtain ⟨a2, a3, a4, a6, a7, a8, rfl, na, da, -⟩ := ha.nums
 obtain ⟨b2, b3, b4, b6, b7, b8, rfl, nb', db, -⟩ := hb.nums
 obtain ⟨ga, hga⟩ : ∃ g, decide (r < 0) = g := ⟨_, rfl⟩
 obtain ⟨gb, hgb⟩ : ∃ g, decide (s < 0) = g := ⟨_, rfl⟩
 rw [hga] at na ha0 ⊢
 rw [hgb] at nb' hb0 ⊢
 have Fa := Hid.mk_ ha0
 have Fb := Hid.mk_ hb0
 have Fna := Hid.mk_ na
 have Fnb := Hid.mk_ nb'
 have Fda := Hid.mk_ da
 have Fdb := Hid.mk_ db
 clear hga hgb na da nb' db ha hb ha0 hb0 fa fb
 clear g3 g4 g1 g2
 go_enter Tryz.func72, Tryz.ntmps72
 go_upto_region 1 with fail
 refine Reg.wp_chain_n (fun N0 D v W => Below w.heap.size w W ∧ Keeps w W ∧ N0 ≤ W.heap.size ∧ Blk W (w.heap.size) 30 #[.bool ga, .slice a2 a3 a4, .bool false, .slice a6 a7 a8] ∧ Blk W (w.heap.size + 1) 30 #[.bool gb, .slice b2 b3 b4, .bool false, .slice b6 b7 b8] ∧ ((D 18 = false → Blk W (w.heap.size + 1 + 1) 28 #[.bool false, .slice none 0 0]) ∧ (D 18 = true → D 9 = true ∧ ∃ cs, v 9 = .agg cs ∧ Blk W (w.heap.size + 1 + 1) 28 cs)) ∧ ((D 19 = false → Blk W (w.heap.size + 1 + 1 + 1) 28 #[.bool false, .slice none 0 0]) ∧ (D 19 = true → D 17 = true ∧ ∃ cs, v 17 = .agg cs ∧ Blk W (w.heap.size + 1 + 1 + 1) 28 cs)))
  (Reg.inl [2, 5, 6, 9, 14, 17, 18, 19]) (Reg.gv [(2, IsNu), (5, IsNu), (6, IsNuE 0), (9, IsNu), (14, IsNuE 0), (17, IsNu)]) (gw [(2, GNu (r.num * s.den)), (5, GNu (s.num * r.den)), (6, GNuE (r.num * s.den - s.num * r.den) 0), (9, GNu (r.num * s.den - s.num * r.den)), (14, GNuE (r.den * s.den) 0), (17, GNu (r.den * s.den))]) (fun _ => Keeps) (fun _ _ => False) (Reg.pl [(6, [(2, some 8), (5, some 11)]), (9, [(6, some 12)]), (17, [(14, some 20)]), (18, [(9, some 15)]), (19, [(17, some 23)]), (20, [(2, some 8), (5, some 11), (6, some 12), (9, some 15), (14, some 20), (17, some 23)])]) (Reg.pl [(9, [18]), (17, [19])])
  (by kernel_rfl) (by kernel_rfl) (by kernel_rfl) (Reg.gvA _) (fun N0 hN0 => ⟨fun v => ?_, fun D v v' W hv hj => ?_, fun D v k j W W' x _ _ _ _ hk hg => gwA hk hg, fun _ _ _ _ h => h.elim, fun ops' Q' hops hQ => ?_⟩)
 · exact ⟨belowB, keepsB, Nat.le_of_eq hN0.out, ownK, ownK, ⟨fun _ => ownK, (fun h => Bool.noConfusion h)⟩, ⟨fun _ => ownK, (fun h => Bool.noConfusion h)⟩⟩
 ·
  obtain ⟨j0, jk, jn, b_a, b_b, b_p, b_q⟩ := hj
  exact ⟨j0, jk, jn, b_a, b_b, ⟨b_p.1, fun h => by obtain ⟨d, cs, e, hb⟩ := b_p.2 h; exact ⟨d, cs, (hv 9 d) ▸ e, hb⟩⟩, ⟨b_q.1, fun h => by obtain ⟨d, cs, e, hb⟩ := b_q.2 h; exact ⟨d, cs, (hv 17 d) ▸ e, hb⟩⟩⟩
 have eN := hN0.out
 try simp only [World.size_alloc, World.size_setCell, World.size_drew, World.heap_drewN] at eN
 have i_a : w.heap.size < N0 := by first | omega | (have h := oa.lt; omega)
 have i_b : w.heap.size + 1 < N0 := by first | omega | (have h := ob.lt; omega)
 have i_p : w.heap.size + 1 + 1 < N0 := by first | omega | (have h := op.lt; omega)
 have i_q : w.heap.size + 1 + 1 + 1 < N0 := by first | omega | (have h := oq.lt; omega)
 have iw : w.heap.size ≤ N0 := by first | omega | (have h := B.size; omega)
 clear hN0 eN
 apply Reg.RP rfl rfl rfl 6 rfl rfl
 ·
  intro D v' W' hc hj hf K hK
  obtain ⟨j0, jk, jn, b_a, b_b, b_p, b_q⟩ := hj
  obtain ⟨c0, c1, c2, c3⟩ := b_a.r3
  go_step
  exact hK.out
 · rfl
 apply Reg.RP rfl rfl rfl 7 rfl rfl
 ·
  intro D v' W' hc hj hf K hK
  obtain ⟨j0, jk, jn, b_a, b_b, b_p, b_q⟩ := hj
  obtain ⟨c0, c1, c2, c3⟩ := b_b.r3
  go_step
  exact hK.out
 · rfl
 refine Reg.RC_call rfl (tlt rfl) rfl (fun D v' W' hc hj hf K hK => ?_) ?_
 ·
  obtain ⟨j0, jk, jn, b_a, b_b, b_p, b_q⟩ := hj
  clear hf
  go_step
  refine (cr1 W' _ _ (Fa.out.keeps jk) (Fb.out.keeps jk)).mono ?_
  rintro e W2 ⟨u, rfl, hu, hs⟩
  obtain ⟨x1_1, x1_2, x1_3, x1_4, rfl⟩ := hu.shape
  exact hK.out _ W2 (Keeps.steps hs) ⟨jst j0 hs, jk.then_ hs, jsz jn hs, b_a.steps hs, b_b.steps hs, ⟨fun h => (b_p.1 h).steps hs, fun h => by obtain ⟨d, cs, e, hb⟩ := b_p.2 h; exact ⟨d, cs, e, hb.steps hs⟩⟩, ⟨fun h => (b_q.1 h).steps hs, fun h => by obtain ⟨d, cs, e, hb⟩ := b_q.2 h; exact ⟨d, cs, e, hb.steps hs⟩⟩⟩ hu ⟨_, _, _, _, rfl⟩
 rintro _ ⟨x1_1, x1_2, x1_3, x1_4, rfl⟩
 refine Reg.at24 rfl ?_
 apply Reg.RP rfl rfl rfl 9 rfl rfl
 ·
  intro D v' W' hc hj hf K hK
  obtain ⟨j0, jk, jn, b_a, b_b, b_p, b_q⟩ := hj
  obtain ⟨c0, c1, c2, c3⟩ := b_b.r3
  go_step
  exact hK.out
 · rfl
 apply Reg.RP rfl rfl rfl 10 rfl rfl
 ·
  intro D v' W' hc hj hf K hK
  obtain ⟨j0, jk, jn, b_a, b_b, b_p, b_q⟩ := hj
  obtain ⟨c0, c1, c2, c3⟩ := b_a.r3
  go_step
  exact hK.out
 · rfl
 refine Reg.RC_call rfl (tlt rfl) rfl (fun D v' W' hc hj hf K hK => ?_) ?_
 ·
  obtain ⟨j0, jk, jn, b_a, b_b, b_p, b_q⟩ := hj
  clear hf
  go_step
  refine (cr2 W' _ _ (Fb.out.keeps jk) (Fa.out.keeps jk)).mono ?_
  rintro e W2 ⟨u, rfl, hu, hs⟩
  obtain ⟨x2_1, x2_2, x2_3, x2_4, rfl⟩ := hu.shape
  exact hK.out _ W2 (Keeps.steps hs) ⟨jst j0 hs, jk.then_ hs, jsz jn hs, b_a.steps hs, b_b.steps hs, ⟨fun h => (b_p.1 h).steps hs, fun h => by obtain ⟨d, cs, e, hb⟩ := b_p.2 h; exact ⟨d, cs, e, hb.steps hs⟩⟩, ⟨fun h => (b_q.1 h).steps hs, fun h => by obtain ⟨d, cs, e, hb⟩ := b_q.2 h; exact ⟨d, cs, e, hb.steps hs⟩⟩⟩ hu ⟨_, _, _, _, rfl⟩
 rintro _ ⟨x2_1, x2_2, x2_3, x2_4, rfl⟩
 refine Reg.at24 rfl ?_
 refine Reg.RC_call rfl (tlt rfl) rfl (fun D v' W' hc hj hf K hK => ?_) ?_
 ·
  obtain ⟨j0, jk, jn, b_a, b_b, b_p, b_q⟩ := hj
  have g2 : GNu (r.num * s.den) _ W' := (hf (2, some 8) (.head _) rfl).2.2
  have g2 : Num W' _ (r.num * s.den) := g2
  have g5 : GNu (s.num * r.den) _ W' := (hf (5, some 11) (.tail _ (.head _)) rfl).2.2
  have g5 : Num W' _ (s.num * r.den) := g5
  clear hf
  go_step
  refine (ad W' _ _ g2 g5).mono ?_
  rintro e W2 ⟨u, rfl, hu, hs⟩
  obtain ⟨x3_1, x3_2, x3_3, x3_4, rfl⟩ := hu.shape
  exact hK.out _ W2 (Keeps.steps hs) ⟨jst j0 hs, jk.then_ hs, jsz jn hs, b_a.steps hs, b_b.steps hs, ⟨fun h => (b_p.1 h).steps hs, fun h => by obtain ⟨d, cs, e, hb⟩ := b_p.2 h; exact ⟨d, cs, e, hb.steps hs⟩⟩, ⟨fun h => (b_q.1 h).steps hs, fun h => by obtain ⟨d, cs, e, hb⟩ := b_q.2 h; exact ⟨d, cs, e, hb.steps hs⟩⟩⟩ ⟨_, rfl, hu⟩ ⟨_, _, _, _, rfl⟩
 rintro _ ⟨x3_1, x3_2, x3_3, x3_4, rfl⟩
 refine Reg.at24 rfl ?_
 refine Reg.RP0 13 ?_
 refine Reg.RP0 14 ?_
 refine Reg.RC_call rfl (tlt rfl) rfl (fun D v' W' hc hj hf K hK => ?_) ?_
 ·
  obtain ⟨j0, jk, jn, b_a, b_b, b_p, b_q⟩ := hj
  have g6 : GNuE (r.num * s.den - s.num * r.den) 0 _ W' := (hf (6, some 12) (.head _) rfl).2.2
  have g6 := g6.get
  clear hf
  go_step
  refine (fmust W' g6).mono ?_
  rintro e W2 ⟨u, rfl, hu, hs⟩
  obtain ⟨N1, N2, N3, N4, rfl⟩ := hu.shape
  exact hK.out _ W2 (Keeps.steps hs) ⟨jst j0 hs, jk.then_ hs, jsz jn hs, b_a.steps hs, b_b.steps hs, ⟨fun h => (b_p.1 h).steps hs, fun h => Bool.noConfusion ((hc.2 18 (by decide)).symm.trans h)⟩, ⟨fun h => (b_q.1 h).steps hs, fun h => by obtain ⟨d, cs, e, hb⟩ := b_q.2 h; exact ⟨d, cs, e, hb.steps hs⟩⟩⟩ hu ⟨_, _, _, _, rfl⟩
 rintro _ ⟨N1, N2, N3, N4, rfl⟩
 refine Reg.at24 rfl ?_
 refine Reg.RP0 16 ?_
 apply Reg.RP rfl rfl rfl 17 rfl rfl
 ·
  intro D v' W' hc hj hf K hK
  obtain ⟨j0, jk, jn, b_a, b_b, b_p, b_q⟩ := hj
  obtain ⟨c0, c1, c2, c3⟩ := b_a.r3
  go_step
  exact hK.out
 · rfl
 refine Reg.RP0 18 ?_
 apply Reg.RP rfl rfl rfl 19 rfl rfl
 ·
  intro D v' W' hc hj hf K hK
  obtain ⟨j0, jk, jn, b_a, b_b, b_p, b_q⟩ := hj
  obtain ⟨c0, c1, c2, c3⟩ := b_b.r3
  go_step
  exact hK.out
 · rfl
 refine Reg.RC_call rfl (tlt rfl) rfl (fun D v' W' hc hj hf K hK => ?_) ?_
 ·
  obtain ⟨j0, jk, jn, b_a, b_b, b_p, b_q⟩ := hj
  clear hf
  go_step
  refine (m2 W' _ _ (Fda.out.keeps jk) (Fdb.out.keeps jk)).mono ?_
  rintro e W2 ⟨u, rfl, hu, hs⟩
  obtain ⟨x4_1, x4_2, x4_3, x4_4, rfl⟩ := hu.shape
  exact hK.out _ W2 (Keeps.steps hs) ⟨jst j0 hs, jk.then_ hs, jsz jn hs, b_a.steps hs, b_b.steps hs, ⟨fun h => (b_p.1 h).steps hs, fun h => by obtain ⟨d, cs, e, hb⟩ := b_p.2 h; exact ⟨d, cs, e, hb.steps hs⟩⟩, ⟨fun h => (b_q.1 h).steps hs, fun h => by obtain ⟨d, cs, e, hb⟩ := b_q.2 h; exact ⟨d, cs, e, hb.steps hs⟩⟩⟩ ⟨_, rfl, hu⟩ ⟨_, _, _, _, rfl⟩
 rintro _ ⟨x4_1, x4_2, x4_3, x4_4, rfl⟩
 refine Reg.at24 rfl ?_
 refine Reg.RP0 21 ?_
 refine Reg.RP0 22 ?_
 refine Reg.RC_call rfl (tlt rfl) rfl (fun D v' W' hc hj hf K hK => ?_) ?_
 ·
  obtain ⟨j0, jk, jn, b_a, b_b, b_p, b_q⟩ := hj
  have g14 : GNuE (r.den * s.den) 0 _ W' := (hf (14, some 20) (.head _) rfl).2.2
  have g14 := g14.get
  clear hf
  go_step
  refine (fmust W' g14).mono ?_
  rintro e W2 ⟨u, rfl, hu, hs⟩
  obtain ⟨D1, D2, D3, D4, rfl⟩ := hu.shape
  exact hK.out _ W2 (Keeps.steps hs) ⟨jst j0 hs, jk.then_ hs, jsz jn hs, b_a.steps hs, b_b.steps hs, ⟨fun h => (b_p.1 h).steps hs, fun h => by obtain ⟨d, cs, e, hb⟩ := b_p.2 h; exact ⟨d, cs, e, hb.steps hs⟩⟩, ⟨fun h => (b_q.1 h).steps hs, fun h => Bool.noConfusion ((hc.2 19 (by decide)).symm.trans h)⟩⟩ hu ⟨_, _, _, _, rfl⟩
 rintro _ ⟨D1, D2, D3, D4, rfl⟩
 refine Reg.at24 rfl ?_
 refine Reg.RC_call rfl (by intro t ht; cases ht) rfl (fun D v' W' hc hj hf K hK => ?_) (fun _ _ => Reg.RC_at (b := ⟨_, _⟩) rfl ?_)
 ·
  obtain ⟨j0, jk, jn, b_a, b_b, b_p, b_q⟩ := hj
  have hb := b_p.1 hc.1
  have e2 : w.heap.size ≤ w.heap.size + 1 + 1 := by omega
  have fc := hf (9, some 15) (.head _) rfl
  have ec : v' 9 = .agg #[.bool N1, .slice N2 N3 N4] := fc.2.1
  have ff := hb.fr
  obtain ⟨cc0, cc1⟩ := hb.r1
  go_step
  exact hK.out undef _ (Keeps.only hb rfl ((Only.refl _ _).set.set)) ⟨(Below.setCell (p := ⟨w.heap.size + 1 + 1, 1, none⟩) (Below.setCell (p := ⟨w.heap.size + 1 + 1, 0, none⟩) j0 (by show w.heap.size ≤ w.heap.size + 1 + 1; omega) _) (by show w.heap.size ≤ w.heap.size + 1 + 1; omega) _), jk.trans (Keeps.only hb rfl ((Only.refl _ _).set.set)), by simpa using jn, ((b_a).far' (show w.heap.size ≠ w.heap.size + 1 + 1 by omega)).far' (show w.heap.size ≠ w.heap.size + 1 + 1 by omega), ((b_b).far' (show w.heap.size + 1 ≠ w.heap.size + 1 + 1 by omega)).far' (show w.heap.size + 1 ≠ w.heap.size + 1 + 1 by omega), ⟨fun h => Bool.noConfusion h, fun _ => ⟨fc.1, _, ec, (Blk.set2 (cs' := #[.bool N1, .slice N2 N3 N4]) (Blk.set2 (cs' := #[.bool N1, .slice none 0 0]) hb (i := 0) rfl) (i := 1) rfl)⟩⟩, ⟨fun h => ((b_q.1 h).far' (show w.heap.size + 1 + 1 + 1 ≠ w.heap.size + 1 + 1 by omega)).far' (show w.heap.size + 1 + 1 + 1 ≠ w.heap.size + 1 + 1 by omega), fun h => by obtain ⟨d, cs, e, hb2⟩ := b_q.2 h; exact ⟨d, cs, e, ((hb2).far' (show w.heap.size + 1 + 1 + 1 ≠ w.heap.size + 1 + 1 by omega)).far' (show w.heap.size + 1 + 1 + 1 ≠ w.heap.size + 1 + 1 by omega)⟩⟩⟩ trivial trivial
 refine Reg.RC_call rfl (by intro t ht; cases ht) rfl (fun D v' W' hc hj hf K hK => ?_) (fun _ _ => Reg.RC_at (b := ⟨_, _⟩) rfl ?_)
 ·
  obtain ⟨j0, jk, jn, b_a, b_b, b_p, b_q⟩ := hj
  have hb := b_q.1 hc.1
  have e2 : w.heap.size ≤ w.heap.size + 1 + 1 + 1 := by omega
  have fc := hf (17, some 23) (.head _) rfl
  have ec : v' 17 = .agg #[.bool D1, .slice D2 D3 D4] := fc.2.1
  have ff := hb.fr
  obtain ⟨cc0, cc1⟩ := hb.r1
  go_step
  exact hK.out undef _ (Keeps.only hb rfl ((Only.refl _ _).set.set)) ⟨(Below.setCell (p := ⟨w.heap.size + 1 + 1 + 1, 1, none⟩) (Below.setCell (p := ⟨w.heap.size + 1 + 1 + 1, 0, none⟩) j0 (by show w.heap.size ≤ w.heap.size + 1 + 1 + 1; omega) _) (by show w.heap.size ≤ w.heap.size + 1 + 1 + 1; omega) _), jk.trans (Keeps.only hb rfl ((Only.refl _ _).set.set)), by simpa using jn, ((b_a).far' (show w.heap.size ≠ w.heap.size + 1 + 1 + 1 by omega)).far' (show w.heap.size ≠ w.heap.size + 1 + 1 + 1 by omega), ((b_b).far' (show w.heap.size + 1 ≠ w.heap.size + 1 + 1 + 1 by omega)).far' (show w.heap.size + 1 ≠ w.heap.size + 1 + 1 + 1 by omega), ⟨fun h => ((b_p.1 h).far' (show w.heap.size + 1 + 1 ≠ w.heap.size + 1 + 1 + 1 by omega)).far' (show w.heap.size + 1 + 1 ≠ w.heap.size + 1 + 1 + 1 by omega), fun h => by obtain ⟨d, cs, e, hb2⟩ := b_p.2 h; exact ⟨d, cs, e, ((hb2).far' (show w.heap.size + 1 + 1 ≠ w.heap.size + 1 + 1 + 1 by omega)).far' (show w.heap.size + 1 + 1 ≠ w.heap.size + 1 + 1 + 1 by omega)⟩⟩, ⟨fun h => Bool.noConfusion h, fun _ => ⟨fc.1, _, ec, (Blk.set2 (cs' := #[.bool D1, .slice D2 D3 D4]) (Blk.set2 (cs' := #[.bool D1, .slice none 0 0]) hb (i := 0) rfl) (i := 1) rfl)⟩⟩⟩ trivial trivial
 refine Reg.RC_end (fun Dn v' w1 hd hj hf => ?_)
 obtain ⟨j0, jk, jn, b_a, b_b, b_p, b_q⟩ := hj
 have B := j0
 have oa := b_a
 clear b_a
 have ob := b_b
 clear b_b
 obtain ⟨-, cs_, ee, op⟩ := b_p.2 (hd 18 (Nat.le_of_ble_eq_true rfl))
 have ef : v' 9 = .agg #[.bool N1, .slice N2 N3 N4] := (hf (9, some 15) (.tail _ (.tail _ (.tail _ (.head _)))) rfl).2.1
 obtain rfl : #[.bool N1, .slice N2 N3 N4] = cs_ := by have := ef.symm.trans ee; simpa only [Value.tuple.injEq, Value.agg.injEq, Array.mk.injEq, List.cons.injEq, and_true, true_and] using this
 clear b_p ee ef
 obtain ⟨-, cs_, ee, oq⟩ := b_q.2 (hd 19 (Nat.le_of_ble_eq_true rfl))
 have ef : v' 17 = .agg #[.bool D1, .slice D2 D3 D4] := (hf (17, some 23) (.tail _ (.tail _ (.tail _ (.tail _ (.tail _ (.head _)))))) rfl).2.1
 obtain rfl : #[.bool D1, .slice D2 D3 D4] = cs_ := by have := ef.symm.trans ee; simpa only [Value.tuple.injEq, Value.agg.injEq, Array.mk.injEq, List.cons.injEq, and_true, true_and] using this
 clear b_q ee ef
 have FN : Hid (Num w1 (.agg #[.bool N1, .slice N2 N3 N4]) (r.num * s.den - s.num * r.den)) := (hf (9, some 15) (.tail _ (.tail _ (.tail _ (.head _)))) rfl).2.2
 have FD : Hid (Num w1 (.agg #[.bool D1, .slice D2 D3 D4]) (r.den * s.den)) := (hf (17, some 23) (.tail _ (.tail _ (.tail _ (.tail _ (.tail _ (.head _)))))) rfl).2.2
 replace Fa := Hid.mk_ (Fa.out.keeps jk)
 replace Fb := Hid.mk_ (Fb.out.keeps jk)
 replace Fna := Hid.mk_ (Fna.out.keeps jk)
 replace Fda := Hid.mk_ (Fda.out.keeps jk)
 replace Fnb := Hid.mk_ (Fnb.out.keeps jk)
 replace Fdb := Hid.mk_ (Fdb.out.keeps jk)
 clear hd hf jk j0
 refine hQ _ _ ?_
 clear hQ hops Q' ops'
 have la := oa.lt
 have lb := ob.lt
 obtain ⟨cp0, cp1⟩ := op.r1
 have lp := op.lt
 obtain ⟨cq0, cq1⟩ := oq.r1
 have lq := oq.lt
 go_wp2_with fail
 refine bodyPost_ret (by simp [results, Tryz.results72, go_sem, la, lb, cp0, cp1, lp, cq0, cq1, lq]; rfl) rfl ?_
 exact ⟨_, _, rfl, FN.out.keeps keepsB, FD.out.keeps keepsB, belowB⟩
theorem fSub2 {va vb : Value} {r s : Rat} (w : World) (ha : FR w va r) (hb : FR w vb s) (g1 : fits (r.num * s.den)) (g2 : fits (s.num * r.den)) (g3 : fits (r.num * s.den - s.num * r.den)) (g4 : fits (r.den * s.den)) :
  Calls Tryz.prog 28 #[va, vb, .func (.func 72) #[] #[]] w fun e w' => ∃ v, e = .returned (.tuple #[v, .int .i64 0]) ∧ FR w' v (r - s) ∧ Steps w w' := by
 have cl : ∀ w' u v, FR w' u r → FR w' v s → Calls Tryz.prog 72 #[u, v] w' fun e w2 => ∃ u v, e = .returned (.tuple #[u, v]) ∧ Num w2 u (r.num * s.den - s.num * r.den) ∧ Num w2 v (r.den * s.den) ∧ Steps w' w2 := fun w' u v h1 h2 => fSub1 w' h1 h2 g1 g2 g3 g4
 have rd : ∀ w' u v, Num w' u (r.num * s.den - s.num * r.den) → Num w' v (r.den * s.den) → Calls Tryz.prog 53 #[u, v] w' fun e w2 => ∃ v, e = .returned v ∧ FR w2 v (r - s) ∧ Steps w' w2 := fun w' u v h1 h2 => by
  have := freduce w' h1 h2 g3 g4 (dens_ne r s)
  rw [sub_frac] at this
  exact this
 obtain ⟨a1, a2, a3, a4, a5, a6, a7, a8, rfl⟩ := ha.shape
 obtain ⟨b1, b2, b3, b4, b5, b6, b7, b8, rfl⟩ := hb.shape
 have Fa := Hid.mk_ ha
 have Fb := Hid.mk_ hb
 clear ha hb g3 g4 g1 g2
 go_enter_defers Tryz.func28, Tryz.ntmps28
 go_wp2_with fail
 refine (fcheck_q _ (Fa.out.keeps keepsB)).mono ?_
 rintro e w1 ⟨rfl, hb1⟩
 have st : Steps _ w1 := hb1
 have B : Below w.heap.size w w1 := belowA st
 have kp : Keeps w w1 := Keeps.then_ keepsB st
 have oa : Blk w1 (w.heap.size) 30 #[.bool a1, .slice a2 a3 a4, .bool a5, .slice a6 a7 a8] := Blk.stepsK st
 have ob : Blk w1 (w.heap.size + 1) 30 #[.bool b1, .slice b2 b3 b4, .bool b5, .slice b6 b7 b8] := Blk.stepsK st
 have or : Blk w1 (w.heap.size + 1 + 1) 30 #[.bool false, .slice none 0 0, .bool false, .slice none 0 0] := Blk.stepsK st
 have oe : Blk w1 (w.heap.size + 1 + 1 + 1) 34 #[.int .i64 0] := Blk.stepsK st
 replace Fa := Hid.mk_ (Fa.out.keeps kp)
 replace Fb := Hid.mk_ (Fb.out.keeps kp)
 clear kp
 clear st
 go_wp2_with fail
 refine (fwant0s _).mono ?_
 rintro e w2 ⟨rfl, hb2⟩
 have st : Steps _ w2 := hb2
 have sk : Below w1.heap.size w1 w2 := belowA st
 replace B := below_steps B (Nat.le_refl _) sk
 replace oa := oa.steps sk
 replace ob := ob.steps sk
 replace or := or.steps sk
 replace oe := oe.steps sk
 replace Fa := Hid.mk_ (Fa.out.steps sk)
 replace Fb := Hid.mk_ (Fb.out.steps sk)
 clear st sk
 have la := oa.lt
 obtain ⟨cb0, cb1, cb2, cb3⟩ := ob.r3
 have lb := ob.lt
 have lr := or.lt
 have le := oe.lt
 go_wp2_with fail
 refine (fcheck_q _ (Fb.out.keeps keepsB)).mono ?_
 rintro e w3 ⟨rfl, hb3⟩
 have st : Steps _ w3 := hb3
 have sk : Below w2.heap.size w2 w3 := belowA st
 replace B := below_steps B (Nat.le_refl _) sk
 replace oa := oa.steps sk
 replace ob := ob.steps sk
 replace or := or.steps sk
 replace oe := oe.steps sk
 replace Fa := Hid.mk_ (Fa.out.steps sk)
 replace Fb := Hid.mk_ (Fb.out.steps sk)
 clear st sk la cb0 cb1 cb2 cb3 lb lr le
 go_wp2_with fail
 refine (fwant0s _).mono ?_
 rintro e w4 ⟨rfl, hb4⟩
 have st : Steps _ w4 := hb4
 have sk : Below w3.heap.size w3 w4 := belowA st
 replace B := below_steps B (Nat.le_refl _) sk
 replace oa := oa.steps sk
 replace ob := ob.steps sk
 replace or := or.steps sk
 replace oe := oe.steps sk
 replace Fa := Hid.mk_ (Fa.out.steps sk)
 replace Fb := Hid.mk_ (Fb.out.steps sk)
 clear st sk
 obtain ⟨ca0, ca1, ca2, ca3⟩ := oa.r3
 have la := oa.lt
 obtain ⟨cb0, cb1, cb2, cb3⟩ := ob.r3
 have lb := ob.lt
 have lr := or.lt
 have le := oe.lt
 go_wp2_with fail
 refine (cl _ _ _ (Fa.out.keeps keepsB) (Fb.out.keeps keepsB)).mono ?_
 rintro e w5 ⟨vn, vd, rfl, hvn, hvd, hb5⟩
 have st : Steps _ w5 := hb5
 have sk : Below w4.heap.size w4 w5 := belowA st
 replace B := below_steps B (Nat.le_refl _) sk
 replace oa := oa.steps sk
 replace ob := ob.steps sk
 replace or := or.steps sk
 replace oe := oe.steps sk
 replace Fa := Hid.mk_ (Fa.out.steps sk)
 replace Fb := Hid.mk_ (Fb.out.steps sk)
 clear st sk ca0 ca1 ca2 ca3 la cb0 cb1 cb2 cb3 lb lr le
 obtain ⟨n1, n2, n3, n4, rfl⟩ := hvn.shape
 obtain ⟨d1, d2, d3, d4, rfl⟩ := hvd.shape
 have Fn := Hid.mk_ hvn
 clear hvn
 have Fd := Hid.mk_ hvd
 clear hvd
 go_wp2_with fail
 refine (rd _ _ _ (Fn.out.keeps keepsB) (Fd.out.keeps keepsB)).mono ?_
 rintro e w6 ⟨vq, rfl, hvq, hb6⟩
 have st : Steps _ w6 := hb6
 have sk : Below w5.heap.size w5 w6 := belowA st
 replace B := below_steps B (Nat.le_refl _) sk
 replace oa := oa.steps sk
 replace ob := ob.steps sk
 replace or := or.steps sk
 replace oe := oe.steps sk
 replace Fa := Hid.mk_ (Fa.out.steps sk)
 replace Fb := Hid.mk_ (Fb.out.steps sk)
 replace Fn := Hid.mk_ (Fn.out.steps sk)
 replace Fd := Hid.mk_ (Fd.out.steps sk)
 clear st sk
 have la := oa.lt
 have lb := ob.lt
 obtain ⟨cr0, cr1, cr2, cr3, fr, lr⟩ := or.s3
 have ce0 := oe.q0
 have fe := oe.fr
 have le := oe.lt
 obtain ⟨q1, q2, q3, q4, q5, q6, q7, q8, rfl⟩ := hvq.shape
 have Fq := Hid.mk_ hvq
 clear hvq
 go_wp2_with fail
 refine leaves_cons (f := 51) (args := #[.pointer (some ⟨w.heap.size + 1 + 1 + 1, 0, none⟩)]) (by simp) (by simp [go_sem]) ?_
 refine (fcatch_idle _ _).mono ?_
 rintro e u' w'' ⟨rfl, rfl, rfl⟩
 refine ⟨_, by simp [results, Tryz.results28, go_sem, la, lb, cr0, cr1, cr2, cr3, fr, lr, ce0, fe, le]; rfl, ?_⟩
 exact ⟨_, rfl, Fq.out.keeps keepsB, belowB⟩
theorem fSubQ {va vb : Value} {r s : Rat} {i j : Nat} (w : World) (ha : FR w va r) (hb : FR w vb s) (hr : sz r i) (hs : sz s j) (hk : i + j ≤ 4094) :
  Calls Tryz.prog 46 #[va, vb] w fun e w' => ∃ v, e = .returned (.tuple #[v, .int .i64 0]) ∧ FR w' v (r - s) ∧ Steps w w' := by
 obtain ⟨h1, h2, h3⟩ := sum_size hr hs
 have g1 := fits_bp h1 (by omega)
 have g2 := fits_bp h2 (by omega)
 have g4 := fits_bp h3 (by omega)
 have g3 : fits (r.num * s.den - s.num * r.den) := by rw [Int.sub_eq_add_neg]; exact fits_bp (absN_add_le h1 (by rw [absN_neg]; exact h2)) (by omega)
 have bo : ∀ w' u v, FR w' u r → FR w' v s → Calls Tryz.prog 28 #[u, v, .func (.func 72) #[] #[]] w' fun e w2 => ∃ v, e = .returned (.tuple #[v, .int .i64 0]) ∧ FR w2 v (r - s) ∧ Steps w' w2 := fun w' u v h1 h2 => fSub2 w' h1 h2 g1 g2 g3 g4
 obtain ⟨a1, a2, a3, a4, a5, a6, a7, a8, rfl⟩ := ha.shape
 obtain ⟨b1, b2, b3, b4, b5, b6, b7, b8, rfl⟩ := hb.shape
 have Fa := Hid.mk_ ha
 have Fb := Hid.mk_ hb
 clear ha hb hr hs hk g1 g2 g3 g4
 clear h1 h2 h3
 go_enter Tryz.func46, Tryz.ntmps46
 go_wp2_with fail
 refine (bo _ _ _ (Fa.out.keeps keepsB) (Fb.out.keeps keepsB)).mono ?_
 rintro e w1 ⟨vq, rfl, hvq, hb1⟩
 have st : Steps _ w1 := hb1
 have B : Below w.heap.size w w1 := belowA st
 have kp : Keeps w w1 := Keeps.then_ keepsB st
 have oa : Blk w1 (w.heap.size) 30 #[.bool a1, .slice a2 a3 a4, .bool a5, .slice a6 a7 a8] := Blk.stepsK st
 have ob : Blk w1 (w.heap.size + 1) 30 #[.bool b1, .slice b2 b3 b4, .bool b5, .slice b6 b7 b8] := Blk.stepsK st
 have or : Blk w1 (w.heap.size + 1 + 1) 30 #[.bool false, .slice none 0 0, .bool false, .slice none 0 0] := Blk.stepsK st
 replace Fa := Hid.mk_ (Fa.out.keeps kp)
 replace Fb := Hid.mk_ (Fb.out.keeps kp)
 clear kp
 clear st
 have la := oa.lt
 have lb := ob.lt
 obtain ⟨cr0, cr1, cr2, cr3, fr, lr⟩ := or.s3
 obtain ⟨q1, q2, q3, q4, q5, q6, q7, q8, rfl⟩ := hvq.shape
 have Fq := Hid.mk_ hvq
 clear hvq
 go_wp2_with fail
 refine bodyPost_ret (by simp [results, Tryz.results46, go_sem, la, lb, cr0, cr1, cr2, cr3, fr, lr]; rfl) rfl ?_
 exact ⟨_, rfl, Fq.out.keeps keepsB, belowB⟩
theorem fCmpQ {va vb : Value} {r s : Rat} {i j : Nat} (w : World) (ha : FR w va r) (hb : FR w vb s) (hr : sz r i) (hs : sz s j) (hk : i + j ≤ 4095) :
  Calls Tryz.prog 47 #[va, vb] w fun e w' => e = .returned (.tuple #[.int .i64 (cmpQ r s), .int .i64 0]) ∧ Steps w w' := by
 obtain ⟨h1, h2, h3⟩ := sum_size hr hs
 have g1 := fits_bp h1 hk
 have g2 := fits_bp h2 hk
 have cr1 : ∀ w' u v, FR w' u r → FR w' v s → Calls Tryz.prog 32 #[u, v] w' fun e w2 => ∃ v, e = .returned v ∧ Num w2 v (r.num * s.den) ∧ Steps w' w2 := fun w' u v h1 h2 => fcross w' h1 h2 g1
 have cr2 : ∀ w' u v, FR w' u s → FR w' v r → Calls Tryz.prog 32 #[u, v] w' fun e w2 => ∃ v, e = .returned v ∧ Num w2 v (s.num * r.den) ∧ Steps w' w2 := fun w' u v h1 h2 => fcross w' h1 h2 g2
 have cm : ∀ w' v u, Num w' v (r.num * s.den) → Num w' u (s.num * r.den) → Calls Tryz.prog 71 #[v, u] w' fun e w2 => e = .returned (.tuple #[.int .i64 (cmpQ r s), .int .i64 0]) ∧ Steps w' w2 := fun w' v u h1 h2 => by
  have := wCmp w' h1 h2 g1 g2
  rw [cmpI_rat] at this
  exact this
 obtain ⟨c, hc⟩ : ∃ c, cmpQ r s = c := ⟨_, rfl⟩
 rw [hc] at cm ⊢
 obtain ⟨a1, a2, a3, a4, a5, a6, a7, a8, rfl⟩ := ha.shape
 obtain ⟨b1, b2, b3, b4, b5, b6, b7, b8, rfl⟩ := hb.shape
 have Fa := Hid.mk_ ha
 have Fb := Hid.mk_ hb
 clear ha hb hr hs hk g1 g2 h1 h2 h3 hc
 go_enter_defers Tryz.func47, Tryz.ntmps47
 go_wp2_with fail
 refine (fcheck_q _ (Fa.out.keeps keepsB)).mono ?_
 rintro e w1 ⟨rfl, hb1⟩
 have st : Steps _ w1 := hb1
 have B : Below w.heap.size w w1 := belowA st
 have kp : Keeps w w1 := Keeps.then_ keepsB st
 have oa : Blk w1 (w.heap.size) 30 #[.bool a1, .slice a2 a3 a4, .bool a5, .slice a6 a7 a8] := Blk.stepsK st
 have ob : Blk w1 (w.heap.size + 1) 30 #[.bool b1, .slice b2 b3 b4, .bool b5, .slice b6 b7 b8] := Blk.stepsK st
 have oe : Blk w1 (w.heap.size + 1 + 1) 34 #[.int .i64 0] := Blk.stepsK st
 replace Fa := Hid.mk_ (Fa.out.keeps kp)
 replace Fb := Hid.mk_ (Fb.out.keeps kp)
 clear kp
 clear st
 go_wp2_with fail
 refine (fwant0s _).mono ?_
 rintro e w2 ⟨rfl, hb2⟩
 have st : Steps _ w2 := hb2
 have sk : Below w1.heap.size w1 w2 := belowA st
 replace B := below_steps B (Nat.le_refl _) sk
 replace oa := oa.steps sk
 replace ob := ob.steps sk
 replace oe := oe.steps sk
 replace Fa := Hid.mk_ (Fa.out.steps sk)
 replace Fb := Hid.mk_ (Fb.out.steps sk)
 clear st sk
 have la := oa.lt
 obtain ⟨cb0, cb1, cb2, cb3⟩ := ob.r3
 have lb := ob.lt
 have le := oe.lt
 go_wp2_with fail
 refine (fcheck_q _ (Fb.out.keeps keepsB)).mono ?_
 rintro e w3 ⟨rfl, hb3⟩
 have st : Steps _ w3 := hb3
 have sk : Below w2.heap.size w2 w3 := belowA st
 replace B := below_steps B (Nat.le_refl _) sk
 replace oa := oa.steps sk
 replace ob := ob.steps sk
 replace oe := oe.steps sk
 replace Fa := Hid.mk_ (Fa.out.steps sk)
 replace Fb := Hid.mk_ (Fb.out.steps sk)
 clear st sk la cb0 cb1 cb2 cb3 lb le
 go_wp2_with fail
 refine (fwant0s _).mono ?_
 rintro e w4 ⟨rfl, hb4⟩
 have st : Steps _ w4 := hb4
 have sk : Below w3.heap.size w3 w4 := belowA st
 replace B := below_steps B (Nat.le_refl _) sk
 replace oa := oa.steps sk
 replace ob := ob.steps sk
 replace oe := oe.steps sk
 replace Fa := Hid.mk_ (Fa.out.steps sk)
 replace Fb := Hid.mk_ (Fb.out.steps sk)
 clear st sk
 obtain ⟨ca0, ca1, ca2, ca3⟩ := oa.r3
 have la := oa.lt
 obtain ⟨cb0, cb1, cb2, cb3⟩ := ob.r3
 have lb := ob.lt
 have le := oe.lt
 have ze : w.heap.size + 1 + 1 < w4.heap.size := oe.lt
 have zz4 := B.size
 go_upto_region 4 with fail
 refine Reg.wp_chain_n (fun N0 D v W => Below w.heap.size w W ∧ Keeps w4 W ∧ N0 ≤ W.heap.size ∧ Blk W (w.heap.size) 30 #[.bool a1, .slice a2 a3 a4, .bool a5, .slice a6 a7 a8] ∧ Blk W (w.heap.size + 1) 30 #[.bool b1, .slice b2 b3 b4, .bool b5, .slice b6 b7 b8] ∧ ((D 10 = false → Blk W (w.heap.size + 1 + 1) 34 #[.int .i64 0]) ∧ (D 10 = true → Blk W (w.heap.size + 1 + 1) 34 #[.int .i64 0])))
  (Reg.inl [2, 5, 6, 10]) (Reg.gv [(2, IsNu), (5, IsNu), (6, fun z_ => z_ = .tuple #[.int .i64 c, .int .i64 0])]) (gw [(2, GNu (r.num * s.den)), (5, GNu (s.num * r.den))]) (fun _ => Keeps) (fun _ _ => False) (Reg.pl [(6, [(2, some 14), (5, some 17)]), (10, [(6, some 18)]), (11, [(2, some 14), (5, some 17), (6, some 18)])]) (Reg.pl [])
  (by kernel_rfl) (by kernel_rfl) (by kernel_rfl) (Reg.gvA _) (fun N0 hN0 => ⟨fun v => ?_, fun D v v' W hv hj => ?_, fun D v k j W W' x _ _ _ _ hk hg => gwA hk hg, fun _ _ _ _ h => h.elim, fun ops' Q' hops hQ => ?_⟩)
 · exact ⟨belowB, keepsB, Nat.le_of_eq hN0.out, ownK, ownK, ⟨fun _ => ownK, (fun h => Bool.noConfusion h)⟩⟩
 ·
  obtain ⟨j0, jk, jn, b_a, b_b, b_e⟩ := hj
  exact ⟨j0, jk, jn, b_a, b_b, b_e⟩
 have eN := hN0.out
 try simp only [World.size_alloc, World.size_setCell, World.size_drew, World.heap_drewN] at eN
 have i_a : w.heap.size < N0 := by first | omega | (have h := oa.lt; omega)
 have i_b : w.heap.size + 1 < N0 := by first | omega | (have h := ob.lt; omega)
 have i_e : w.heap.size + 1 + 1 < N0 := by first | omega | (have h := oe.lt; omega)
 have iw : w.heap.size ≤ N0 := by first | omega | (have h := B.size; omega)
 clear ca0 ca1 ca2 ca3 la cb0 cb1 cb2 cb3 lb le
 clear hN0
 apply Reg.RP rfl rfl rfl 12 rfl rfl
 ·
  intro D v' W' hc hj hf K hK
  obtain ⟨j0, jk, jn, b_a, b_b, b_e⟩ := hj
  obtain ⟨c0, c1, c2, c3⟩ := b_a.r3
  go_step
  exact hK.out
 · rfl
 apply Reg.RP rfl rfl rfl 13 rfl rfl
 ·
  intro D v' W' hc hj hf K hK
  obtain ⟨j0, jk, jn, b_a, b_b, b_e⟩ := hj
  obtain ⟨c0, c1, c2, c3⟩ := b_b.r3
  go_step
  exact hK.out
 · rfl
 refine Reg.RC_call rfl (tlt rfl) rfl (fun D v' W' hc hj hf K hK => ?_) ?_
 ·
  obtain ⟨j0, jk, jn, b_a, b_b, b_e⟩ := hj
  clear hf
  go_step
  refine (cr1 W' _ _ (Fa.out.keeps jk) (Fb.out.keeps jk)).mono ?_
  rintro e W2 ⟨u, rfl, hu, hs⟩
  obtain ⟨x1, x2, x3, x4, rfl⟩ := hu.shape
  exact hK.out _ W2 (Keeps.steps hs) ⟨jst j0 hs, jk.then_ hs, jsz jn hs, b_a.steps hs, b_b.steps hs, ⟨fun h => (b_e.1 h).steps hs, fun h => (b_e.2 h).steps hs⟩⟩ hu ⟨_, _, _, _, rfl⟩
 rintro _ ⟨x1, x2, x3, x4, rfl⟩
 refine Reg.RC_at (b := ⟨#[_,_,_,_,_,_,_,_,_,_,_,_,_,_,_,_,_,_,_,_,_], _⟩) rfl ?_
 apply Reg.RP rfl rfl rfl 15 rfl rfl
 ·
  intro D v' W' hc hj hf K hK
  obtain ⟨j0, jk, jn, b_a, b_b, b_e⟩ := hj
  obtain ⟨c0, c1, c2, c3⟩ := b_b.r3
  go_step
  exact hK.out
 · rfl
 apply Reg.RP rfl rfl rfl 16 rfl rfl
 ·
  intro D v' W' hc hj hf K hK
  obtain ⟨j0, jk, jn, b_a, b_b, b_e⟩ := hj
  obtain ⟨c0, c1, c2, c3⟩ := b_a.r3
  go_step
  exact hK.out
 · rfl
 refine Reg.RC_call rfl (tlt rfl) rfl (fun D v' W' hc hj hf K hK => ?_) ?_
 ·
  obtain ⟨j0, jk, jn, b_a, b_b, b_e⟩ := hj
  clear hf
  go_step
  refine (cr2 W' _ _ (Fb.out.keeps jk) (Fa.out.keeps jk)).mono ?_
  rintro e W2 ⟨u, rfl, hu, hs⟩
  obtain ⟨y1, y2, y3, y4, rfl⟩ := hu.shape
  exact hK.out _ W2 (Keeps.steps hs) ⟨jst j0 hs, jk.then_ hs, jsz jn hs, b_a.steps hs, b_b.steps hs, ⟨fun h => (b_e.1 h).steps hs, fun h => (b_e.2 h).steps hs⟩⟩ hu ⟨_, _, _, _, rfl⟩
 rintro _ ⟨y1, y2, y3, y4, rfl⟩
 refine Reg.RC_at (b := ⟨#[_,_,_,_,_,_,_,_,_,_,_,_,_,_,_,_,_,_,_,_,_], _⟩) rfl ?_
 refine Reg.RC_call rfl (tlt rfl) rfl (fun D v' W' hc hj hf K hK => ?_) ?_
 ·
  obtain ⟨j0, jk, jn, b_a, b_b, b_e⟩ := hj
  have g2 : GNu (r.num * s.den) _ W' := (hf (2, some 14) (.head _) rfl).2.2
  have g2 : Num W' _ (r.num * s.den) := g2
  have g5 : GNu (s.num * r.den) _ W' := (hf (5, some 17) (.tail _ (.head _)) rfl).2.2
  have g5 : Num W' _ (s.num * r.den) := g5
  clear hf
  go_step
  refine (cm W' _ _ g2 g5).mono ?_
  rintro e W2 ⟨rfl, hs⟩
  exact hK.out _ W2 (Keeps.steps hs) ⟨jst j0 hs, jk.then_ hs, jsz jn hs, b_a.steps hs, b_b.steps hs, ⟨fun h => (b_e.1 h).steps hs, fun h => (b_e.2 h).steps hs⟩⟩ trivial rfl
 rintro _ rfl
 refine Reg.RC_at (b := ⟨#[_,_,_,_,_,_,_,_,_,_,_,_,_,_,_,_,_,_,_,_,_], _⟩) rfl ?_
 refine Reg.RP0 19 ?_
 refine Reg.RP0 20 ?_
 refine Reg.RP0 4 ?_
 refine Reg.RC_call rfl (by intro t ht; cases ht) rfl (fun D v' W' hc hj hf K hK => ?_) (fun _ _ => Reg.RC_at (b := ⟨_, _⟩) rfl ?_)
 ·
  obtain ⟨j0, jk, jn, b_a, b_b, b_e⟩ := hj
  have hb := b_e.1 hc.1
  have e2 : w.heap.size ≤ w.heap.size + 1 + 1 := by omega
  have ff := hb.fr
  have cc0 := hb.q0
  go_step
  exact hK.out undef _ (Keeps.only hb rfl ((Only.refl _ _).set)) ⟨(Below.setCell (p := ⟨w.heap.size + 1 + 1, 0, none⟩) j0 (by show w.heap.size ≤ w.heap.size + 1 + 1; omega) _), jk.trans (Keeps.only hb rfl ((Only.refl _ _).set)), by simpa using jn, (b_a).far' (show w.heap.size ≠ w.heap.size + 1 + 1 by omega), (b_b).far' (show w.heap.size + 1 ≠ w.heap.size + 1 + 1 by omega), ⟨fun h => Bool.noConfusion h, fun _ => (Blk.set2 (cs' := #[.int .i64 0]) hb (i := 0) rfl)⟩⟩ trivial trivial
 refine Reg.RC_end (fun Dn v' w5 hd hj hf => ?_)
 obtain ⟨j0, jk, jn, b_a, b_b, b_e⟩ := hj
 have B := j0
 have oa := b_a
 clear b_a
 have ob := b_b
 clear b_b
 have oe := b_e.2 (hd 10 (Nat.le_of_ble_eq_true rfl))
 clear b_e
 replace Fa := Hid.mk_ (Fa.out.keeps jk)
 replace Fb := Hid.mk_ (Fb.out.keeps jk)
 clear hd hf jk j0
 refine hQ _ _ ?_
 clear hQ hops Q' ops'
 have la := oa.lt
 have lb := ob.lt
 have ce0 := oe.q0
 have le := oe.lt
 go_wp2_with fail
 refine leaves_cons (f := 51) (args := #[.pointer (some ⟨w.heap.size + 1 + 1, 0, none⟩)]) (by simp) (by simp [go_sem]) ?_
 refine (fcatch_idle _ _).mono ?_
 rintro e u' w'' ⟨rfl, rfl, rfl⟩
 refine ⟨_, by simp [results, Tryz.results47, go_sem, la, lb, ce0, le]; rfl, ?_⟩
 exact ⟨rfl, belowB⟩
def PCells (w : World) (b o : Nat) (l : List (Int × Int)) : Prop := ∀ t, t < l.length → w.cell? ⟨b, o + t * 2, none⟩ = some (.int .i64 (l.getD t (0, 0)).1) ∧ w.cell? ⟨b, o + t * 2 + 1, none⟩ = some (.int .i64 (l.getD t (0, 0)).2)
def Pts (w : World) (v : Value) (l : List (Int × Int)) : Prop :=
 (∀ k, -9223372036854775808 ≤ (l.getD k (0, 0)).1 ∧ (l.getD k (0, 0)).1 ≤ 9223372036854775807 ∧ -9223372036854775808 ≤ (l.getD k (0, 0)).2 ∧ (l.getD k (0, 0)).2 ≤ 9223372036854775807) ∧
 ∃ ao cap, v = .slice ao l.length cap ∧ l.length ≤ cap ∧ (l ≠ [] → ∃ b o, ao = some ⟨b, o, none⟩ ∧ b < w.heap.size ∧ PCells w b o l)
theorem Pts.steps {w w' : World} {v : Value} {l : List (Int × Int)} (h : Pts w v l) (hs : Steps w w') : Pts w' v l := by
 obtain ⟨h0, ao, cap, rfl, h1, h2⟩ := h
 refine ⟨h0, ao, cap, rfl, h1, fun hn => ?_⟩
 obtain ⟨b, o, rfl, hb, hc⟩ := h2 hn
 exact ⟨b, o, rfl, Nat.lt_of_lt_of_le hb hs.size, fun t ht => ⟨(hs.cell (p := ⟨b, o + t * 2, none⟩) hb).trans (hc t ht).1, (hs.cell (p := ⟨b, o + t * 2 + 1, none⟩) hb).trans (hc t ht).2⟩⟩
theorem Pts.shape {w : World} {v : Value} {l : List (Int × Int)} (h : Pts w v l) : ∃ ao cap, v = .slice ao l.length cap := by obtain ⟨_, ao, cap, e, _⟩ := h; exact ⟨ao, cap, e⟩
theorem Pts.cells {w : World} {ao : Option Addr} {n cap : Nat} {l : List (Int × Int)} (h : Pts w (.slice ao n cap) l) : n = l.length ∧ n ≤ cap ∧ (0 < n → ∃ b o, ao = some ⟨b, o, none⟩ ∧ b < w.heap.size ∧ PCells w b o l) := by
 obtain ⟨_, ao', cap', e, h1, h2⟩ := h
 injection e with e1 e2 e3
 subst e1 e2 e3
 refine ⟨rfl, h1, fun hp => h2 ?_⟩
 rintro rfl
 cases hp
def okP (p : Int × Int) : Prop := -1048576 ≤ p.1 ∧ p.1 ≤ 1048576 ∧ -1048576 ≤ p.2 ∧ p.2 ≤ 1048576
instance (p : Int × Int) : Decidable (okP p) := by unfold okP; infer_instance
def chkP (l : List (Int × Int)) : Int := if 200 < l.length then 4 else if ∀ p ∈ l, okP p then 0 else 8
theorem chk_all {l : List (Int × Int)} (h : ∀ k, k < l.length → okP (l.getD k (0, 0))) : ∀ p ∈ l, okP p := by
 intro p hp
 obtain ⟨k, hk, e⟩ := List.getElem_of_mem hp
 have := h k hk
 simp [List.getD, hk, e] at this
 exact this
theorem chk_not {l : List (Int × Int)} {k : Nat} (hk : k < l.length) (h : ¬ okP (l.getD k (0, 0))) : ¬ ∀ p ∈ l, okP p := by
 intro ha
 apply h
 simp only [List.getD, List.getElem?_eq_getElem hk, Option.getD_some]
 exact ha _ (List.getElem_mem hk)
theorem max_step (m y : Int) : (if m < y then y else m) = max m y := by split <;> omega
theorem run_max4 {P : Program} (ts : Array TypeId) (t : TypeId) (x y z u : Int) (w : World) : (Builtin.max_ ts t #[.int .i64 x, .int .i64 y, .int .i64 z, .int .i64 u]).run P w = .ok (.int .i64 (max (max (max x y) z) u)) w := by
 rw [← max_step, ← max_step, ← max_step]
 by_cases h1 : x < y <;> simp only [h1, if_true, if_false] <;> (first | (by_cases h2 : y < z <;> simp [Builtin.max_, Builtin.max2, go_sem, h1, h2] <;> split <;> simp_all) | (by_cases h2 : x < z <;> simp [Builtin.max_, Builtin.max2, go_sem, h1, h2] <;> split <;> simp_all))
theorem qcheckP {v : Value} {l : List (Int × Int)} (w : World) (hv : Pts w v l) (hl : l.length ≤ 1000) :
  Calls Tryz.prog 16 #[v] w fun e w' => e = .returned (.int .i64 (chkP l)) ∧ Steps w w' := by
 have hbd := hv.1
 obtain ⟨ao, cap, rfl⟩ := hv.shape
 obtain ⟨-, h1, h2⟩ := hv.cells
 obtain ⟨n, hn⟩ : ∃ n, l.length = n := ⟨_, rfl⟩
 have H := Hid.mk_ hn
 have HBD := Hid.mk_ hbd
 rw [hn] at h1 h2 hl ⊢
 clear hv hn hbd
 by_cases hg : 200 < n
 ·
  have E : Hid (chkP l = 4) := if_pos (by rw [H.out]; exact hg)
  go_enter Tryz.func16, Tryz.ntmps16
  go_wp2
  go_returns
  exact ⟨retI E.out.symm, belowB⟩
 ·
  have E : Hid (chkP l = if ∀ p ∈ l, okP p then 0 else 8) := if_neg (by rw [H.out]; exact hg)
  go_enter Tryz.func16, Tryz.ntmps16
  go_wp2
  go_loopw [4, 10] (fun _ kk wr => ∃ k : Nat, k ≤ n ∧ kk = .int .i64 k ∧ (∀ t, t < k → okP (l.getD t (0, 0))) ∧ Below w.heap.size w wr) (fun _ kk _ => (n - (intOf kk).toNat))
  case atStart => exact ⟨0, Nat.zero_le _, rfl, (fun _ h => by cases h), Below.refl _ _⟩
  case round =>
   obtain ⟨k, hk, rfl, hall, hb⟩ := hrel
   have HB := Hid.mk_ hb
   have HA := Hid.mk_ hall
   have zb := hb.size
   rcases Nat.lt_or_ge k n with h3 | h3
   ·
    obtain ⟨b, o, rfl, hbb, hc⟩ := h2 (by omega)
    obtain ⟨bx1, bx2, by1, by2⟩ := HBD.out k
    obtain ⟨x, hx⟩ : ∃ x, (l.getD k (0, 0)).1 = x := ⟨_, rfl⟩
    obtain ⟨y, hy⟩ : ∃ x, (l.getD k (0, 0)).2 = x := ⟨_, rfl⟩
    rw [hx] at bx1 bx2
    rw [hy] at by1 by2
    have c1 : wr.cell? ⟨b, o + k * 2, none⟩ = some (.int .i64 x) := by rw [← hx]; exact (hb.cell (p := ⟨b, o + k * 2, none⟩) hbb).trans (hc k (by rw [H.out]; omega)).1
    have c2 : wr.cell? ⟨b, o + k * 2 + 1, none⟩ = some (.int .i64 y) := by rw [← hy]; exact (hb.cell (p := ⟨b, o + k * 2 + 1, none⟩) hbb).trans (hc k (by rw [H.out]; omega)).2
    have HX := Hid.mk_ (And.intro hx hy)
    clear hc h2 hall hx hy hb
    obtain ⟨nx, hnx⟩ : ∃ z, wrap64 (-x) = z := ⟨_, rfl⟩
    obtain ⟨ny, hny⟩ : ∃ z, wrap64 (-y) = z := ⟨_, rfl⟩
    obtain ⟨M, hM⟩ : ∃ M, max (max (max x nx) y) ny = M := ⟨_, rfl⟩
    obtain ⟨mm, hmm⟩ : ∃ z, (if y < x then y else x) = z := ⟨_, rfl⟩
    have hmx : ∀ w' : World, (Builtin.max_ #[2, 2, 2, 2] 2 #[.int .i64 x, .int .i64 nx, .int .i64 y, .int .i64 ny]).run Tryz.prog w' = .ok (.int .i64 M) w' := fun w' => by rw [← hM]; exact run_max4 _ _ _ _ _ _ w'
    have F : Hid (okP (x, y) ↔ ¬ 1048576 < M ∧ ¬ mm < -1048576) := by
     show _ ↔ _
     rw [← hM, ← hmm, ← hnx, ← hny]
     unfold okP wrap64
     dsimp only
     constructor
     · rintro ⟨q1, q2, q3, q4⟩; split <;> omega
     · rintro ⟨q1, q2⟩; split at q2 <;> omega
    clear hM
    have bad : ¬ okP (x, y) → Hid (chkP l = 8) := fun hq => by
     show chkP l = 8
     rw [E.out, if_neg]
     refine chk_not (k := k) (by rw [H.out]; exact h3) ?_
     have e : l.getD k (0, 0) = (x, y) := Prod.ext HX.out.1 HX.out.2
     rw [e]; exact hq
    by_cases a1 : 1048576 < M
    ·
     have BB := bad (fun h => (F.out.1 h).1 a1)
     clear bad
     go_wp2
     go_returns
     exact ⟨retI BB.out.symm, HB.out.alloc zb _⟩
    by_cases a2 : mm < -1048576
    ·
     have BB := bad (fun h => (F.out.1 h).2 a2)
     clear bad
     go_wp2
     go_returns
     exact ⟨retI BB.out.symm, HB.out.alloc zb _⟩
    have HQ := Hid.mk_ (F.out.2 ⟨a1, a2⟩)
    have hq := HQ.out
    unfold okP at hq
    dsimp only at hq
    have e1 : nx = -x := by rw [← hnx]; unfold wrap64; omega
    have e2 : ny = -y := by rw [← hny]; unfold wrap64; omega
    rw [e1, e2] at hmx
    clear hq e1 e2 hnx hny
    clear bad F
    go_wp2
    go_roundw
    case rel =>
     refine ⟨k + 1, by omega, by go_num, fun t ht => ?_, HB.out.alloc zb _⟩
     rcases Nat.lt_or_ge t k with h4 | h4
     · exact HA.out t h4
     ·
      obtain rfl : t = k := by omega
      have e : l.getD t (0, 0) = (x, y) := Prod.ext HX.out.1 HX.out.2
      rw [e]; exact HQ.out
    case measure => simp [intOf]; omega
   ·
    have hkn : k = n := by omega
    subst hkn
    clear h2 hb
    go_wp2
    go_returns
    refine ⟨retI ?_, HB.out⟩
    rw [E.out, if_pos (chk_all (fun t ht => HA.out t (by rw [H.out] at ht; exact ht)))]
end Go.Proofs.YtibdehlmflaodaaGreat
