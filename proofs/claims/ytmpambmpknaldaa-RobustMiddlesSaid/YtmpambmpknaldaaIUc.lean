import Derived.Test.YtmpambmpknaldaaIUb
import Derived.Defers
import Derived.Recover
import Derived.Laws.Pointers
import Derived.WalkLawsBesides
import Derived.Test.YtmpambmpknaldaaINp
set_option linter.unusedVariables false
set_option linter.unusedSimpArgs false
set_option maxHeartbeats 6400000
set_option maxRecDepth 1000000
namespace Go.Proofs.Ytmpambmpknaldaa
open Go.RowKit
theorem fwant0 (w : World) : Calls Try.prog 38 #[.int .i64 0] w fun e w' => e = .returned (.tuple #[]) ∧ w' = w := by
 go_enter Try.func38, Try.ntmps38
 go_wp2
 go_end0
 exact ⟨rfl, rfl⟩
def fallV (e : Int) : Value := .iface 74 (.agg #[.int .i64 e])
theorem fcatch_idle (p : Addr) (w : World) :
  CallsD Try.prog 37 #[.pointer (some p)] .returning w fun e u' w' => e = .returned (.tuple #[]) ∧ u' = .returning ∧ w' = w := by
 refine callsD_of_wpS Try.func37 rfl fun c₀ cs hu => ?_
 apply wpS_seq
 apply wpS_region
 simp [wpOpsS, go_sem, recoverD, hu, Try.ntmps37, Exit.thenS]
 refine wpS_of_wp ?_
 show Code.wp _ _ _ ⟨#[.pointer (some p), undef, undef, undef, undef, .nilIface, undef, undef, undef, undef, undef, undef, undef, undef, undef], []⟩ w
 go_wp2_with fail
 cases c₀
 simp_all [bodyPostS, results, Try.results37]
theorem fits_small64 {x : Int} (x0 : -9223372036854775808 ≤ x) (x1 : x ≤ 9223372036854775807) : fits x := fits_bp (k := 2) (by rw [bp_two]; unfold absN; omega) (by omega)
theorem fmust {va : Value} {x : Int} (w : World) (ha : Num w va x) : Calls Try.prog 49 #[va, .int .i64 0] w fun e w2 => ∃ v, e = .returned v ∧ Num w2 v x ∧ Steps w w2 := by
 obtain ⟨a1, a2, a3, a4, rfl⟩ := ha.shape
 have Fa := Hid.mk_ ha
 clear ha
 go_enter Try.func49, Try.ntmps49
 go_wp2_with fail
 refine bodyPost_ret (by simp [results, Try.results49, go_sem, ]; rfl) rfl ?_
 exact ⟨_, rfl, Fa.out.keeps keepsB, belowB⟩
theorem freduce {va vb : Value} {x y : Int} (w : World) (ha : Num w va x) (hb : Num w vb y) (fx : fits x) (fy : fits y) (hy : y ≠ 0) :
  Calls Try.prog 41 #[va, vb] w fun e w' => ∃ v, e = .returned v ∧ FR w' v ((x : Rat) / (y : Rat)) ∧ Steps w w' := by
 have RA := rd_abs (x := x) hy
 have fP : fits (rdP x y) := fits_le RA.1 fx
 have fQ : fits (rdQ x y) := fits_le RA.2.1 fy
 have fG : fits (rg x y) := fits_le RA.2.2 fy
 have g0 := rg_ne (x := x) hy
 have gc : ∀ w' u v, Num w' u x → Num w' v y → Calls Try.prog 50 #[u, v] w' fun e w2 => ∃ v, e = .returned (.tuple #[v, .int .i64 0]) ∧ Num w2 v (gcdI x y) ∧ Steps w' w2 := fun w' u v h1 h2 => (wgcd w' h1 h2 fx fy).mono (by rintro e w2 ⟨v, rfl, h, -, hs⟩; exact ⟨v, rfl, h, hs⟩)
 have d1 : ∀ w' u v, Num w' u x → Num w' v (rg x y) → Calls Try.prog 52 #[u, v] w' fun e w2 => ∃ q r, e = .returned (.tuple #[q, r, .int .i64 0]) ∧ Num w2 q (rdP x y) ∧ Num w2 r (modF x (rg x y)) ∧ Steps w' w2 := fun w' u v h1 h2 => wdivmod w' h1 h2 fx fG g0
 have d2 : ∀ w' u v, Num w' u y → Num w' v (rg x y) → Calls Try.prog 52 #[u, v] w' fun e w2 => ∃ q r, e = .returned (.tuple #[q, r, .int .i64 0]) ∧ Num w2 q (rdQ x y) ∧ Num w2 r (modF y (rg x y)) ∧ Steps w' w2 := fun w' u v h1 h2 => wdivmod w' h1 h2 fy fG g0
 have MK : Hid (∀ w' a s b t, Num w' (.agg #[.bool a, s]) (rdP x y) → Num w' (.agg #[.bool b, t]) (rdQ x y) → FR w' (.agg #[.bool a, s, .bool b, t]) ((x : Rat) / (y : Rat))) := fun w' a s b t h1 h2 => FR.of_rd hy (Frc.mk' h1 h2 (rdQ_pos (x := x) hy) (rd_gcd (x := x) hy) fP fQ)
 have fg : fits (gcdI x y) := by
  unfold rg at fG
  split at fG
  · have := fits_neg fG; rwa [Int.neg_neg] at this
  · exact fG
 have ng : ∀ w' v, Num w' v (gcdI x y) → Calls Try.prog 51 #[v] w' fun e w2 => ∃ v, e = .returned (.tuple #[v, .int .i64 0]) ∧ Num w2 v (-gcdI x y) ∧ Steps w' w2 := fun w' v h => wNeg w' h fg
 obtain ⟨a1, a2, a3, a4, rfl⟩ := ha.shape
 have Fa := Hid.mk_ ha
 clear ha
 obtain ⟨b2, b4, rfl, -⟩ := hb.parts
 obtain ⟨b3, hb3⟩ : ∃ n, (limbs (absN y)).length = n := ⟨_, rfl⟩
 rw [hb3] at hb ⊢
 by_cases hs : y < 0
 ·
  rw [decide_eq_true hs] at hb ⊢
  have HG : rg x y = -gcdI x y := if_pos hs
  rw [HG] at d1 d2
  have Fb := Hid.mk_ hb
  clear hb hb3 hs HG fg hy fx fy g0 RA fP fQ fG
  go_enter Try.func41, Try.ntmps41
  go_wp2_with fail
  refine (gc _ _ _ (Fa.out.keeps keepsB) (Fb.out.keeps keepsB)).mono ?_
  rintro e w1 ⟨vg, rfl, hvg, hb1⟩
  have st : Steps _ w1 := hb1
  have B : Below w.heap.size w w1 := belowA st
  have kp : Keeps w w1 := Keeps.then_ keepsB st
  have oa : Blk w1 (w.heap.size) 26 #[.bool a1, .slice a2 a3 a4] := Blk.stepsK st
  have ob : Blk w1 (w.heap.size + 1) 26 #[.bool true, .slice b2 b3 b4] := Blk.stepsK st
  have or : Blk w1 (w.heap.size + 1 + 1) 28 #[.bool false, .slice none 0 0, .bool false, .slice none 0 0] := Blk.stepsK st
  replace Fa := Hid.mk_ (Fa.out.keeps kp)
  replace Fb := Hid.mk_ (Fb.out.keeps kp)
  clear kp
  clear st
  obtain ⟨g1, g2, g3, g4, rfl⟩ := hvg.shape
  have Fg := Hid.mk_ hvg
  clear hvg
  clear gc
  go_wp2_with fail
  refine (fmust _ (Fg.out.keeps keepsB)).mono ?_
  rintro e w2 ⟨vm1_, rfl, hvm1_, hb2⟩
  have st : Steps _ w2 := hb2
  have sk : Below w1.heap.size w1 w2 := belowA st
  replace B := below_steps B (Nat.le_refl _) sk
  replace oa := oa.steps sk
  replace ob := ob.steps sk
  replace or := or.steps sk
  replace Fa := Hid.mk_ (Fa.out.steps sk)
  replace Fb := Hid.mk_ (Fb.out.steps sk)
  replace Fg := Hid.mk_ (Fg.out.steps sk)
  clear st sk
  have la := oa.lt
  obtain ⟨cb0, cb1⟩ := ob.r1
  have lb := ob.lt
  have lr := or.lt
  obtain ⟨m1_1, m1_2, m1_3, m1_4, rfl⟩ := hvm1_.shape
  have Fm1_ := Hid.mk_ hvm1_
  clear hvm1_
  have zr : w.heap.size + 1 + 1 < w2.heap.size := or.lt
  have zz2 := B.size
  go_wp2_with fail
  refine (ng _ _ (Fm1_.out.keeps keepsB)).mono ?_
  rintro e w3 ⟨vh, rfl, hvh, hb3⟩
  have st : Steps _ w3 := hb3
  have sk : Below w2.heap.size w2 w3 := belowA st
  replace B := below_steps B (Nat.le_refl _) sk
  have og : Blk w3 (w2.heap.size) 26 #[.bool m1_1, .slice m1_2 m1_3 m1_4] := Blk.stepsK st
  replace oa := oa.steps sk
  replace ob := ob.steps sk
  replace or := or.steps sk
  replace Fa := Hid.mk_ (Fa.out.steps sk)
  replace Fb := Hid.mk_ (Fb.out.steps sk)
  replace Fg := Hid.mk_ (Fg.out.steps sk)
  replace Fm1_ := Hid.mk_ (Fm1_.out.steps sk)
  clear st sk la cb0 cb1 lb lr
  obtain ⟨h1, h2, h3, h4, rfl⟩ := hvh.shape
  have Fh := Hid.mk_ hvh
  clear hvh
  clear ng
  go_wp2_with fail
  refine (fmust _ (Fh.out.keeps keepsB)).mono ?_
  rintro e w4 ⟨vm2_, rfl, hvm2_, hb4⟩
  have st : Steps _ w4 := hb4
  have sk : Below w3.heap.size w3 w4 := belowA st
  replace B := below_steps B (Nat.le_refl _) sk
  replace oa := oa.steps sk
  replace ob := ob.steps sk
  replace or := or.steps sk
  replace og := og.steps sk
  replace Fa := Hid.mk_ (Fa.out.steps sk)
  replace Fb := Hid.mk_ (Fb.out.steps sk)
  replace Fg := Hid.mk_ (Fg.out.steps sk)
  replace Fm1_ := Hid.mk_ (Fm1_.out.steps sk)
  replace Fh := Hid.mk_ (Fh.out.steps sk)
  clear st sk
  obtain ⟨ca0, ca1⟩ := oa.r1
  have la := oa.lt
  have lb := ob.lt
  have lr := or.lt
  obtain ⟨cg0, cg1, fg, lg⟩ := og.s1
  obtain ⟨m2_1, m2_2, m2_3, m2_4, rfl⟩ := hvm2_.shape
  have Fm2_ := Hid.mk_ hvm2_
  clear hvm2_
  go_wp2_with fail
  refine (d1 _ _ _ (Fa.out.keeps keepsB) (Fm2_.out.keeps keepsB)).mono ?_
  rintro e w5 ⟨vp, vs, rfl, hvp, hvs, hb5⟩
  have st : Steps _ w5 := hb5
  have Bn : Below w.heap.size w w5 := belowA st
  have kp : Keeps w4 w5 := Keeps.then_ keepsB st
  replace oa : Blk w5 (w.heap.size) 26 #[.bool a1, .slice a2 a3 a4] := Blk.stepsK st
  replace ob : Blk w5 (w.heap.size + 1) 26 #[.bool true, .slice b2 b3 b4] := Blk.stepsK st
  replace or : Blk w5 (w.heap.size + 1 + 1) 28 #[.bool false, .slice none 0 0, .bool false, .slice none 0 0] := Blk.stepsK st
  replace og : Blk w5 (w2.heap.size) 26 #[.bool m2_1, .slice m2_2 m2_3 m2_4] := Blk.stepsK st
  clear ca0 ca1 la lb lr cg0 cg1 fg lg
  replace B := Bn
  replace Fa := Hid.mk_ (Fa.out.keeps kp)
  replace Fb := Hid.mk_ (Fb.out.keeps kp)
  replace Fg := Hid.mk_ (Fg.out.keeps kp)
  replace Fm1_ := Hid.mk_ (Fm1_.out.keeps kp)
  replace Fh := Hid.mk_ (Fh.out.keeps kp)
  replace Fm2_ := Hid.mk_ (Fm2_.out.keeps kp)
  clear kp
  clear st
  have la := oa.lt
  obtain ⟨cb0, cb1⟩ := ob.r1
  have lb := ob.lt
  have lr := or.lt
  obtain ⟨cg0, cg1⟩ := og.r1
  have lg := og.lt
  obtain ⟨p1, p2, p3, p4, rfl⟩ := hvp.shape
  obtain ⟨s1, s2, s3, s4, rfl⟩ := hvs.shape
  have Fp := Hid.mk_ hvp
  clear hvp
  have Fs := Hid.mk_ hvs
  clear hvs
  clear d1
  have zg : w2.heap.size < w5.heap.size := og.lt
  have zz5 := B.size
  go_wp2_with fail
  refine (d2 _ _ _ (Fb.out.keeps keepsB) (Fm2_.out.keeps keepsB)).mono ?_
  rintro e w6 ⟨vq, vt, rfl, hvq, hvt, hb6⟩
  have st : Steps _ w6 := hb6
  have sk : Below w5.heap.size w5 w6 := belowA st
  replace B := below_steps B (Nat.le_refl _) sk
  have op : Blk w6 (w5.heap.size) 26 #[.bool p1, .slice p2 p3 p4] := Blk.stepsK st
  have os : Blk w6 (w5.heap.size + 1) 26 #[.bool s1, .slice s2 s3 s4] := Blk.stepsK st
  replace oa := oa.steps sk
  replace ob := ob.steps sk
  replace or := or.steps sk
  replace og := og.steps sk
  replace Fa := Hid.mk_ (Fa.out.steps sk)
  replace Fb := Hid.mk_ (Fb.out.steps sk)
  replace Fg := Hid.mk_ (Fg.out.steps sk)
  replace Fm1_ := Hid.mk_ (Fm1_.out.steps sk)
  replace Fh := Hid.mk_ (Fh.out.steps sk)
  replace Fm2_ := Hid.mk_ (Fm2_.out.steps sk)
  replace Fp := Hid.mk_ (Fp.out.steps sk)
  replace Fs := Hid.mk_ (Fs.out.steps sk)
  clear st sk la cb0 cb1 lb lr cg0 cg1 lg
  have la := oa.lt
  have lb := ob.lt
  obtain ⟨cr0, cr1, cr2, cr3, fr, lr⟩ := or.s3
  obtain ⟨cp0, cp1⟩ := op.r1
  have lp := op.lt
  have ls := os.lt
  obtain ⟨q1, q2, q3, q4, rfl⟩ := hvq.shape
  obtain ⟨t1, t2, t3, t4, rfl⟩ := hvt.shape
  have Fq := Hid.mk_ hvq
  clear hvq
  have Ft := Hid.mk_ hvt
  clear hvt
  clear d2
  have zs : w5.heap.size + 1 < w6.heap.size := os.lt
  have zz6 := B.size
  go_wp2_with fail
  refine bodyPost_ret (by simp [results, Try.results41, go_sem, la, lb, cr0, cr1, cr2, cr3, fr, lr, cp0, cp1, lp, ls]; rfl) rfl ?_
  exact ⟨_, rfl, MK.out _ _ _ _ _ (Fp.out.keeps keepsB) (Fq.out.keeps keepsB), belowB⟩
 ·
  rw [decide_eq_false hs] at hb ⊢
  have HG : rg x y = gcdI x y := if_neg hs
  rw [HG] at d1 d2
  have Fb := Hid.mk_ hb
  clear hb hb3 hs HG fg hy fx fy g0 RA fP fQ fG ng
  go_enter Try.func41, Try.ntmps41
  go_wp2_with fail
  refine (gc _ _ _ (Fa.out.keeps keepsB) (Fb.out.keeps keepsB)).mono ?_
  rintro e w1 ⟨vg, rfl, hvg, hb1⟩
  have st : Steps _ w1 := hb1
  have B : Below w.heap.size w w1 := belowA st
  have kp : Keeps w w1 := Keeps.then_ keepsB st
  have oa : Blk w1 (w.heap.size) 26 #[.bool a1, .slice a2 a3 a4] := Blk.stepsK st
  have ob : Blk w1 (w.heap.size + 1) 26 #[.bool false, .slice b2 b3 b4] := Blk.stepsK st
  have or : Blk w1 (w.heap.size + 1 + 1) 28 #[.bool false, .slice none 0 0, .bool false, .slice none 0 0] := Blk.stepsK st
  replace Fa := Hid.mk_ (Fa.out.keeps kp)
  replace Fb := Hid.mk_ (Fb.out.keeps kp)
  clear kp
  clear st
  obtain ⟨g1, g2, g3, g4, rfl⟩ := hvg.shape
  have Fg := Hid.mk_ hvg
  clear hvg
  clear gc
  go_wp2_with fail
  refine (fmust _ (Fg.out.keeps keepsB)).mono ?_
  rintro e w2 ⟨vm1_, rfl, hvm1_, hb2⟩
  have st : Steps _ w2 := hb2
  have sk : Below w1.heap.size w1 w2 := belowA st
  replace B := below_steps B (Nat.le_refl _) sk
  replace oa := oa.steps sk
  replace ob := ob.steps sk
  replace or := or.steps sk
  replace Fa := Hid.mk_ (Fa.out.steps sk)
  replace Fb := Hid.mk_ (Fb.out.steps sk)
  replace Fg := Hid.mk_ (Fg.out.steps sk)
  clear st sk
  obtain ⟨ca0, ca1⟩ := oa.r1
  have la := oa.lt
  obtain ⟨cb0, cb1⟩ := ob.r1
  have lb := ob.lt
  have lr := or.lt
  obtain ⟨m1_1, m1_2, m1_3, m1_4, rfl⟩ := hvm1_.shape
  have Fm1_ := Hid.mk_ hvm1_
  clear hvm1_
  have zr : w.heap.size + 1 + 1 < w2.heap.size := or.lt
  have zz2 := B.size
  go_wp2_with fail
  refine (d1 _ _ _ (Fa.out.keeps keepsB) (Fm1_.out.keeps keepsB)).mono ?_
  rintro e w3 ⟨vp, vs, rfl, hvp, hvs, hb3⟩
  have st : Steps _ w3 := hb3
  have sk : Below w2.heap.size w2 w3 := belowA st
  replace B := below_steps B (Nat.le_refl _) sk
  have og : Blk w3 (w2.heap.size) 26 #[.bool m1_1, .slice m1_2 m1_3 m1_4] := Blk.stepsK st
  replace oa := oa.steps sk
  replace ob := ob.steps sk
  replace or := or.steps sk
  replace Fa := Hid.mk_ (Fa.out.steps sk)
  replace Fb := Hid.mk_ (Fb.out.steps sk)
  replace Fg := Hid.mk_ (Fg.out.steps sk)
  replace Fm1_ := Hid.mk_ (Fm1_.out.steps sk)
  clear st sk ca0 ca1 la cb0 cb1 lb lr
  have la := oa.lt
  obtain ⟨cb0, cb1⟩ := ob.r1
  have lb := ob.lt
  have lr := or.lt
  obtain ⟨cg0, cg1⟩ := og.r1
  have lg := og.lt
  obtain ⟨p1, p2, p3, p4, rfl⟩ := hvp.shape
  obtain ⟨s1, s2, s3, s4, rfl⟩ := hvs.shape
  have Fp := Hid.mk_ hvp
  clear hvp
  have Fs := Hid.mk_ hvs
  clear hvs
  clear d1
  have zg : w2.heap.size < w3.heap.size := og.lt
  have zz3 := B.size
  go_wp2_with fail
  refine (d2 _ _ _ (Fb.out.keeps keepsB) (Fm1_.out.keeps keepsB)).mono ?_
  rintro e w4 ⟨vq, vt, rfl, hvq, hvt, hb4⟩
  have st : Steps _ w4 := hb4
  have sk : Below w3.heap.size w3 w4 := belowA st
  replace B := below_steps B (Nat.le_refl _) sk
  have op : Blk w4 (w3.heap.size) 26 #[.bool p1, .slice p2 p3 p4] := Blk.stepsK st
  have os : Blk w4 (w3.heap.size + 1) 26 #[.bool s1, .slice s2 s3 s4] := Blk.stepsK st
  replace oa := oa.steps sk
  replace ob := ob.steps sk
  replace or := or.steps sk
  replace og := og.steps sk
  replace Fa := Hid.mk_ (Fa.out.steps sk)
  replace Fb := Hid.mk_ (Fb.out.steps sk)
  replace Fg := Hid.mk_ (Fg.out.steps sk)
  replace Fm1_ := Hid.mk_ (Fm1_.out.steps sk)
  replace Fp := Hid.mk_ (Fp.out.steps sk)
  replace Fs := Hid.mk_ (Fs.out.steps sk)
  clear st sk la cb0 cb1 lb lr cg0 cg1 lg
  have la := oa.lt
  have lb := ob.lt
  obtain ⟨cr0, cr1, cr2, cr3, fr, lr⟩ := or.s3
  obtain ⟨cp0, cp1⟩ := op.r1
  have lp := op.lt
  have ls := os.lt
  obtain ⟨q1, q2, q3, q4, rfl⟩ := hvq.shape
  obtain ⟨t1, t2, t3, t4, rfl⟩ := hvt.shape
  have Fq := Hid.mk_ hvq
  clear hvq
  have Ft := Hid.mk_ hvt
  clear hvt
  clear d2
  have zs : w3.heap.size + 1 < w4.heap.size := os.lt
  have zz4 := B.size
  go_wp2_with fail
  refine bodyPost_ret (by simp [results, Try.results41, go_sem, la, lb, cr0, cr1, cr2, cr3, fr, lr, cp0, cp1, lp, ls]; rfl) rfl ?_
  exact ⟨_, rfl, MK.out _ _ _ _ _ (Fp.out.keeps keepsB) (Fq.out.keeps keepsB), belowB⟩
theorem fwant0s (w : World) : Calls Try.prog 38 #[.int .i64 0] w fun e w' => e = .returned (.tuple #[]) ∧ Steps w w' := (fwant0 w).mono (by rintro e w' ⟨rfl, rfl⟩; exact ⟨rfl, Below.refl _ _⟩)
theorem fmake {va vb : Value} {x y : Int} (w : World) (ha : Num w va x) (hb : Num w vb y) (fx : fits x) (fy : fits y) (hy : y ≠ 0) :
  Calls Try.prog 26 #[va, vb] w fun e w' => ∃ v, e = .returned (.tuple #[v, .int .i64 0]) ∧ FR w' v ((x : Rat) / (y : Rat)) ∧ Steps w w' := by
 have c1 : ∀ w' v, Num w' v x → Calls Try.prog 39 #[v] w' fun e w2 => e = .returned (.int .i64 0) ∧ Steps w' w2 := fun w' v h => wCheck w' h fx
 have c2 : ∀ w' v, Num w' v y → Calls Try.prog 39 #[v] w' fun e w2 => e = .returned (.int .i64 0) ∧ Steps w' w2 := fun w' v h => wCheck w' h fy
 have zr : ∀ w' v, Num w' v y → Calls Try.prog 40 #[v] w' fun e w2 => e = .returned (.bool false) ∧ Steps w' w2 := fun w' v h => by have := fzero w' h; rwa [decide_eq_false hy] at this
 have rd : ∀ w' u v, Num w' u x → Num w' v y → Calls Try.prog 41 #[u, v] w' fun e w2 => ∃ v, e = .returned v ∧ FR w2 v ((x : Rat) / (y : Rat)) ∧ Steps w' w2 := fun w' u v h1 h2 => freduce w' h1 h2 fx fy hy
 obtain ⟨a1, a2, a3, a4, rfl⟩ := ha.shape
 have Fa := Hid.mk_ ha
 clear ha
 obtain ⟨b1, b2, b3, b4, rfl⟩ := hb.shape
 have Fb := Hid.mk_ hb
 clear hb
 clear fx fy hy
 go_enter_defers Try.func26, Try.ntmps26
 go_wp2_with fail
 refine (c1 _ _ (Fa.out.keeps keepsB)).mono ?_
 rintro e w1 ⟨rfl, hb1⟩
 have st : Steps _ w1 := hb1
 have B : Below w.heap.size w w1 := belowA st
 have kp : Keeps w w1 := Keeps.then_ keepsB st
 have oa : Blk w1 (w.heap.size) 26 #[.bool a1, .slice a2 a3 a4] := Blk.stepsK st
 have ob : Blk w1 (w.heap.size + 1) 26 #[.bool b1, .slice b2 b3 b4] := Blk.stepsK st
 have or : Blk w1 (w.heap.size + 1 + 1) 28 #[.bool false, .slice none 0 0, .bool false, .slice none 0 0] := Blk.stepsK st
 have oe : Blk w1 (w.heap.size + 1 + 1 + 1) 29 #[.int .i64 0] := Blk.stepsK st
 replace Fa := Hid.mk_ (Fa.out.keeps kp)
 replace Fb := Hid.mk_ (Fb.out.keeps kp)
 clear kp
 clear st
 go_wp2_with fail
 refine (fwant0s _).mono ?_
 rintro e w2 ⟨rfl, hb2⟩
 have st : Steps _ w2 := hb2
 have sk : Below w1.heap.size w1 w2 := belowA st
 replace B := below_steps B (Nat.le_refl _) sk
 replace oa := oa.steps sk
 replace ob := ob.steps sk
 replace or := or.steps sk
 replace oe := oe.steps sk
 replace Fa := Hid.mk_ (Fa.out.steps sk)
 replace Fb := Hid.mk_ (Fb.out.steps sk)
 clear st sk
 have la := oa.lt
 obtain ⟨cb0, cb1⟩ := ob.r1
 have lb := ob.lt
 have lr := or.lt
 have le := oe.lt
 go_wp2_with fail
 refine (c2 _ _ (Fb.out.keeps keepsB)).mono ?_
 rintro e w3 ⟨rfl, hb3⟩
 have st : Steps _ w3 := hb3
 have sk : Below w2.heap.size w2 w3 := belowA st
 replace B := below_steps B (Nat.le_refl _) sk
 replace oa := oa.steps sk
 replace ob := ob.steps sk
 replace or := or.steps sk
 replace oe := oe.steps sk
 replace Fa := Hid.mk_ (Fa.out.steps sk)
 replace Fb := Hid.mk_ (Fb.out.steps sk)
 clear st sk la cb0 cb1 lb lr le
 go_wp2_with fail
 refine (fwant0s _).mono ?_
 rintro e w4 ⟨rfl, hb4⟩
 have st : Steps _ w4 := hb4
 have sk : Below w3.heap.size w3 w4 := belowA st
 replace B := below_steps B (Nat.le_refl _) sk
 replace oa := oa.steps sk
 replace ob := ob.steps sk
 replace or := or.steps sk
 replace oe := oe.steps sk
 replace Fa := Hid.mk_ (Fa.out.steps sk)
 replace Fb := Hid.mk_ (Fb.out.steps sk)
 clear st sk
 have la := oa.lt
 obtain ⟨cb0, cb1⟩ := ob.r1
 have lb := ob.lt
 have lr := or.lt
 have le := oe.lt
 go_wp2_with fail
 refine (zr _ _ (Fb.out.keeps keepsB)).mono ?_
 rintro e w5 ⟨rfl, hb5⟩
 have st : Steps _ w5 := hb5
 have sk : Below w4.heap.size w4 w5 := belowA st
 replace B := below_steps B (Nat.le_refl _) sk
 replace oa := oa.steps sk
 replace ob := ob.steps sk
 replace or := or.steps sk
 replace oe := oe.steps sk
 replace Fa := Hid.mk_ (Fa.out.steps sk)
 replace Fb := Hid.mk_ (Fb.out.steps sk)
 clear st sk la cb0 cb1 lb lr le
 obtain ⟨ca0, ca1⟩ := oa.r1
 have la := oa.lt
 obtain ⟨cb0, cb1⟩ := ob.r1
 have lb := ob.lt
 have lr := or.lt
 have le := oe.lt
 go_wp2_with fail
 refine (rd _ _ _ (Fa.out.keeps keepsB) (Fb.out.keeps keepsB)).mono ?_
 rintro e w6 ⟨vq, rfl, hvq, hb6⟩
 have st : Steps _ w6 := hb6
 have sk : Below w5.heap.size w5 w6 := belowA st
 replace B := below_steps B (Nat.le_refl _) sk
 replace oa := oa.steps sk
 replace ob := ob.steps sk
 replace or := or.steps sk
 replace oe := oe.steps sk
 replace Fa := Hid.mk_ (Fa.out.steps sk)
 replace Fb := Hid.mk_ (Fb.out.steps sk)
 clear st sk ca0 ca1 la cb0 cb1 lb lr le
 have la := oa.lt
 have lb := ob.lt
 obtain ⟨cr0, cr1, cr2, cr3, fr, lr⟩ := or.s3
 have ce0 := oe.q0
 have fe := oe.fr
 have le := oe.lt
 obtain ⟨q1, q2, q3, q4, q5, q6, q7, q8, rfl⟩ := hvq.shape
 have Fq := Hid.mk_ hvq
 clear hvq
 go_wp2_with fail
 refine leaves_cons (f := 37) (args := #[.pointer (some ⟨w.heap.size + 1 + 1 + 1, 0, none⟩)]) (by simp) (by simp [go_sem]) ?_
 refine (fcatch_idle _ _).mono ?_
 rintro e u' w'' ⟨rfl, rfl, rfl⟩
 refine ⟨_, by simp [results, Try.results26, go_sem, la, lb, cr0, cr1, cr2, cr3, fr, lr, ce0, fe, le]; rfl, ?_⟩
 exact ⟨_, rfl, Fq.out.keeps keepsB, belowB⟩
theorem fofQ (x y : Int) (w : World) (x0 : -9223372036854775808 ≤ x) (x1 : x ≤ 9223372036854775807) (y0 : -9223372036854775808 ≤ y) (y1 : y ≤ 9223372036854775807) (hy : y ≠ 0) :
  Calls Try.prog 15 #[.int .i64 x, .int .i64 y] w fun e w' => ∃ v, e = .returned (.tuple #[v, .int .i64 0]) ∧ FR w' v ((x : Rat) / (y : Rat)) ∧ Steps w w' := by
 have fx : fits x := fits_small64 x0 x1
 have fy : fits y := fits_small64 y0 y1
 have f1 := fun w' => wfrom x w' x0 x1
 have f2 := fun w' => wfrom y w' y0 y1
 have mk : ∀ w' u v, Num w' u x → Num w' v y → Calls Try.prog 26 #[u, v] w' fun e w2 => ∃ v, e = .returned (.tuple #[v, .int .i64 0]) ∧ FR w2 v ((x : Rat) / (y : Rat)) ∧ Steps w' w2 := fun w' u v h1 h2 => fmake w' h1 h2 fx fy hy
 clear x0 x1 y0 y1 fx fy hy
 go_enter Try.func15, Try.ntmps15
 go_wp2_with fail
 refine (f1 _).mono ?_
 rintro e w1 ⟨vnx, rfl, hvnx, hb1⟩
 have st : Steps _ w1 := hb1
 have B : Below w.heap.size w w1 := belowA st
 have or : Blk w1 (w.heap.size) 28 #[.bool false, .slice none 0 0, .bool false, .slice none 0 0] := Blk.stepsK st
 clear st
 obtain ⟨nx1, nx2, nx3, nx4, rfl⟩ := hvnx.shape
 have Fnx := Hid.mk_ hvnx
 clear hvnx
 go_wp2_with fail
 refine (f2 _).mono ?_
 rintro e w2 ⟨vny, rfl, hvny, hb2⟩
 have st : Steps _ w2 := hb2
 have sk : Below w1.heap.size w1 w2 := belowA st
 replace B := below_steps B (Nat.le_refl _) sk
 replace or := or.steps sk
 replace Fnx := Hid.mk_ (Fnx.out.steps sk)
 clear st sk
 obtain ⟨ny1, ny2, ny3, ny4, rfl⟩ := hvny.shape
 have Fny := Hid.mk_ hvny
 clear hvny
 go_wp2_with fail
 refine (mk _ _ _ (Fnx.out.keeps keepsB) (Fny.out.keeps keepsB)).mono ?_
 rintro e w3 ⟨vq, rfl, hvq, hb3⟩
 have st : Steps _ w3 := hb3
 have sk : Below w2.heap.size w2 w3 := belowA st
 replace B := below_steps B (Nat.le_refl _) sk
 replace or := or.steps sk
 replace Fnx := Hid.mk_ (Fnx.out.steps sk)
 replace Fny := Hid.mk_ (Fny.out.steps sk)
 clear st sk
 obtain ⟨cr0, cr1, cr2, cr3, fr, lr⟩ := or.s3
 obtain ⟨q1, q2, q3, q4, q5, q6, q7, q8, rfl⟩ := hvq.shape
 have Fq := Hid.mk_ hvq
 clear hvq
 go_wp2_with fail
 refine bodyPost_ret (by simp [results, Try.results15, go_sem, cr0, cr1, cr2, cr3, fr, lr]; rfl) rfl ?_
 exact ⟨_, rfl, Fq.out.keeps keepsB, belowB⟩
def PCells (w : World) (b o : Nat) (l : List (Int × Int)) : Prop := ∀ t, t < l.length → w.cell? ⟨b, o + t * 2, none⟩ = some (.int .i64 (l.getD t (0, 0)).1) ∧ w.cell? ⟨b, o + t * 2 + 1, none⟩ = some (.int .i64 (l.getD t (0, 0)).2)
def Pts (w : World) (v : Value) (l : List (Int × Int)) : Prop :=
 (∀ k, -9223372036854775808 ≤ (l.getD k (0, 0)).1 ∧ (l.getD k (0, 0)).1 ≤ 9223372036854775807 ∧ -9223372036854775808 ≤ (l.getD k (0, 0)).2 ∧ (l.getD k (0, 0)).2 ≤ 9223372036854775807) ∧
 ∃ ao cap, v = .slice ao l.length cap ∧ l.length ≤ cap ∧ (l ≠ [] → ∃ b o, ao = some ⟨b, o, none⟩ ∧ b < w.heap.size ∧ PCells w b o l)
theorem Pts.steps {w w' : World} {v : Value} {l : List (Int × Int)} (h : Pts w v l) (hs : Steps w w') : Pts w' v l := by
 obtain ⟨h0, ao, cap, rfl, h1, h2⟩ := h
 refine ⟨h0, ao, cap, rfl, h1, fun hn => ?_⟩
 obtain ⟨b, o, rfl, hb, hc⟩ := h2 hn
 exact ⟨b, o, rfl, Nat.lt_of_lt_of_le hb hs.size, fun t ht => ⟨(hs.cell (p := ⟨b, o + t * 2, none⟩) hb).trans (hc t ht).1, (hs.cell (p := ⟨b, o + t * 2 + 1, none⟩) hb).trans (hc t ht).2⟩⟩
theorem Pts.shape {w : World} {v : Value} {l : List (Int × Int)} (h : Pts w v l) : ∃ ao cap, v = .slice ao l.length cap := by obtain ⟨_, ao, cap, e, _⟩ := h; exact ⟨ao, cap, e⟩
theorem Pts.cells {w : World} {ao : Option Addr} {n cap : Nat} {l : List (Int × Int)} (h : Pts w (.slice ao n cap) l) : n = l.length ∧ n ≤ cap ∧ (0 < n → ∃ b o, ao = some ⟨b, o, none⟩ ∧ b < w.heap.size ∧ PCells w b o l) := by
 obtain ⟨_, ao', cap', e, h1, h2⟩ := h
 injection e with e1 e2 e3
 subst e1 e2 e3
 refine ⟨rfl, h1, fun hp => h2 ?_⟩
 rintro rfl
 cases hp
def okP (p : Int × Int) : Prop := -1048576 ≤ p.1 ∧ p.1 ≤ 1048576 ∧ -1048576 ≤ p.2 ∧ p.2 ≤ 1048576
instance (p : Int × Int) : Decidable (okP p) := by unfold okP; infer_instance
def chkP (l : List (Int × Int)) : Int := if 200 < l.length then 4 else if ∀ p ∈ l, okP p then 0 else 8
end Go.Proofs.Ytmpambmpknaldaa
