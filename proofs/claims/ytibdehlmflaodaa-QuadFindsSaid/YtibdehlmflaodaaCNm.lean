import Derived.Test.YtibdehlmflaodaaCTz
namespace Go.Proofs.Ytibdehlmflaodaa
open Go.RowKit
set_option maxHeartbeats 3200000 in
set_option maxRecDepth 1000000 in
theorem rnegN {va : Value} {x : Int} (w : World) (ha : Num w va x) (fx : fits x) :
    Calls Try.prog 126 #[va] w fun e w' => ∃ v, e = .returned (.tuple #[v, .int .i64 0]) ∧ Num w' v (-x) ∧ Steps w w' := by
  have fn := fits_neg fx
  obtain ⟨aa, ca, rfl, pa⟩ := ha.parts
  have ck : ∀ w', Steps w w' → Calls Try.prog 94 #[.agg #[.bool (decide (x < 0)), .slice aa (limbs (absN x)).length ca]] w' fun e w2 => e = .returned (.int .i64 0) ∧ Steps w' w2 := fun w' h => by
    have := rcheckN (decide (x < 0)) w' (pa.steps h)
    rw [show errC (valid (decide (x < 0)) (limbs (absN x))) = 0 from if_pos (valid_of fx)] at this
    exact this
  have mk : ∀ w', Steps w w' → Calls Try.prog 108 #[.bool (!decide (x < 0)), .slice aa (limbs (absN x)).length ca] w' fun e w2 => ∃ v', e = .returned (.tuple #[v', .int .i64 0]) ∧ Num w2 v' (-x) ∧ Steps w' w2 := fun w' h => by
    have := rmadeN (!decide (x < 0)) w' (pa.steps h) (by unfold fits at fx; unfold few; omega)
    rw [lval_limbs (absN_nonneg x), zv_not, errN_fits fn, clipN_fits fn] at this
    exact this
  obtain ⟨n, hn⟩ : ∃ n, (limbs (absN x)).length = n := ⟨_, rfl⟩
  obtain ⟨gx, hgx⟩ : ∃ b, decide (x < 0) = b := ⟨_, rfl⟩
  rw [hn, hgx] at ck mk ⊢
  clear ha pa hn hgx fx fn
  go_enter Try.func126, Try.ntmps126
  go_wp2_with fail
  refine (ck _ belowB).mono ?_
  rintro e w1 ⟨rfl, hb1⟩
  have st : Steps _ w1 := hb1
  have Bn : Below w.heap.size w w1 := belowA st
  have na : Blk w1 (w.heap.size) 26 #[.bool gx, .slice aa n ca] := Blk.stepsA st
  have nr : Blk w1 (w.heap.size + 1) 26 #[.bool false, .slice none 0 0] := Blk.stepsA st
  clear st
  have B := Bn
  clear Bn
  have oa := na
  clear na
  have ca0 := oa.q0
  have ca1 := oa.q1
  have fa := oa.fr
  have la := oa.lt
  have or := nr
  clear nr
  have cr0 := or.q0
  have cr1 := or.q1
  have fr := or.fr
  have lr := or.lt
  clear ck
  go_wp2_with fail
  refine (mk _ B).mono ?_
  rintro e w2 ⟨v2, rfl, hn2, hb2⟩
  have st : Steps _ w2 := hb2
  have Bn : Below w.heap.size w w2 := belowA st
  have na := oa.stq st
  have nr := or.stq st
  clear B oa or ca0 ca1 fa la cr0 cr1 fr lr
  clear st
  have B := Bn
  clear Bn
  have oa := na
  clear na
  have ca0 := oa.q0
  have ca1 := oa.q1
  have fa := oa.fr
  have la := oa.lt
  have or := nr
  clear nr
  have cr0 := or.q0
  have cr1 := or.q1
  have fr := or.fr
  have lr := or.lt
  clear mk
  obtain ⟨bb, ao, k, c, rfl⟩ := hn2.shape
  have HV := Hid.mk_ hn2
  clear hn2
  go_wp2
  refine bodyPost_ret (by simp [results, Try.results126, go_sem, ca0, ca1, fa, la, cr0, cr1, fr, lr]; rfl) rfl ?_
  exact ⟨_, rfl, HV.out.put2 or, belowB⟩
set_option maxHeartbeats 6400000 in
set_option maxRecDepth 1000000 in
theorem rreduced {va vb : Value} {x y : Int} (w : World) (ha : Num w va x) (hb : Num w vb y) (fx : fits x) (fy : fits y) (hy : y ≠ 0) :
    Calls Try.prog 107 #[va, vb] w fun e w' => ∃ v, e = .returned v ∧ Frc w' v (rdP x y) (rdQ x y) ∧ Steps w w' := by
  have RA := rd_abs (x := x) hy
  have fP : fits (rdP x y) := fits_le RA.1 fx
  have fQ : fits (rdQ x y) := fits_le RA.2.1 fy
  have fG : fits (rg x y) := fits_le RA.2.2 fy
  have g0 := rg_ne (x := x) hy
  have gc := fun (w' : World) (h : Steps w w') => rgcd w' (ha.steps h) (hb.steps h) fx fy
  have d1 : ∀ w' v, Steps w w' → Num w' v (rg x y) → Calls Try.prog 127 #[va, v] w' fun e w2 => ∃ q r, e = .returned (.tuple #[q, r, .int .i64 0]) ∧ Num w2 q (rdP x y) ∧ Num w2 r (modF x (rg x y)) ∧ Steps w' w2 := fun w' v h hv => rdivmod w' (ha.steps h) hv fx fG g0
  have d2 : ∀ w' v, Steps w w' → Num w' v (rg x y) → Calls Try.prog 127 #[vb, v] w' fun e w2 => ∃ q r, e = .returned (.tuple #[q, r, .int .i64 0]) ∧ Num w2 q (rdQ x y) ∧ Num w2 r (modF y (rg x y)) ∧ Steps w' w2 := fun w' v h hv => rdivmod w' (hb.steps h) hv fy fG g0
  have MK := Hid.mk_ (And.intro (rdQ_pos (x := x) hy) (And.intro (rd_gcd (x := x) hy) (And.intro fP fQ)))
  have fg : fits (gcdI x y) := by
    unfold rg at fG
    split at fG
    · have := fits_neg fG; rwa [Int.neg_neg] at this
    · exact fG
  obtain ⟨aa, ca, rfl, -⟩ := ha.parts
  obtain ⟨ab, cb, rfl, -⟩ := hb.parts
  obtain ⟨n, hn⟩ : ∃ n, (limbs (absN x)).length = n := ⟨_, rfl⟩
  obtain ⟨m, hm⟩ : ∃ m, (limbs (absN y)).length = m := ⟨_, rfl⟩
  rw [hn] at gc d1 ⊢
  rw [hm] at gc d2 ⊢
  obtain ⟨gx, hgx⟩ : ∃ b, decide (x < 0) = b := ⟨_, rfl⟩
  rw [hgx] at gc d1 ⊢
  clear ha hb hn hm hgx RA fP fQ fG g0 fx fy
  by_cases hs : y < 0
  · have e := decide_eq_true hs
    rw [e] at gc d2 ⊢
    have HG : rg x y = -gcdI x y := if_pos hs
    rw [HG] at d1 d2
    have ng : ∀ w' v, Num w' v (gcdI x y) → Calls Try.prog 126 #[v] w' fun e w2 => ∃ v', e = .returned (.tuple #[v', .int .i64 0]) ∧ Num w2 v' (-gcdI x y) ∧ Steps w' w2 := fun w' v h => rnegN w' h fg
    clear hs e HG fg hy
    go_enter Try.func107, Try.ntmps107
    go_wp2_with fail
    refine (gc _ belowB).mono ?_
    rintro e w1 ⟨vg, rfl, hg, fg, hb1⟩
    have st : Steps _ w1 := hb1
    have Bn : Below w.heap.size w w1 := belowA st
    have na : Blk w1 (w.heap.size) 26 #[.bool gx, .slice aa n ca] := Blk.stepsA st
    have nb : Blk w1 (w.heap.size + 1) 26 #[.bool true, .slice ab m cb] := Blk.stepsA st
    have nr : Blk w1 (w.heap.size + 1 + 1) 28 #[.bool false, .slice none 0 0, .bool false, .slice none 0 0] := Blk.stepsA st
    clear st
    have B := Bn
    clear Bn
    have oa := na
    clear na
    have ca0 := oa.q0
    have ca1 := oa.q1
    have fa := oa.fr
    have la := oa.lt
    have ob := nb
    clear nb
    have cb0 := ob.q0
    have cb1 := ob.q1
    have fb := ob.fr
    have lb := ob.lt
    have or := nr
    clear nr
    have cr0 := or.q0
    have cr1 := or.q1
    have cr2 := or.q2
    have cr3 := or.q3
    have fr := or.fr
    have lr := or.lt
    clear gc fg
    obtain ⟨bg, ag, ng_, cg, rfl⟩ := hg.shape
    have NG := Hid.mk_ hg
    clear hg
    have z1 : w.heap.size + 1 + 1 < w1.heap.size := or.lt
    go_wp2_with fail
    refine (ng _ _ (NG.out.alloc_ _)).mono ?_
    rintro e w2 ⟨vh, rfl, hh, hb2⟩
    have st : Steps _ w2 := hb2
    have Bn : Below w.heap.size w w2 := belowA st
    have na := oa.stq st
    have nb := ob.stq st
    have nr := or.stq st
    have ng : Blk w2 (w1.heap.size) 26 #[.bool bg, .slice ag ng_ cg] := Blk.stepsA st
    clear B oa ob or ca0 ca1 fa la cb0 cb1 fb lb cr0 cr1 cr2 cr3 fr lr
    clear st
    have B := Bn
    clear Bn
    have oa := na
    clear na
    have ca0 := oa.q0
    have ca1 := oa.q1
    have fa := oa.fr
    have la := oa.lt
    have ob := nb
    clear nb
    have cb0 := ob.q0
    have cb1 := ob.q1
    have fb := ob.fr
    have lb := ob.lt
    have or := nr
    clear nr
    have cr0 := or.q0
    have cr1 := or.q1
    have cr2 := or.q2
    have cr3 := or.q3
    have fr := or.fr
    have lr := or.lt
    have og := ng
    clear ng
    have cg0 := og.q0
    have cg1 := og.q1
    have fg := og.fr
    have lg := og.lt
    clear ng NG
    obtain ⟨bh, ah, nh, ch, rfl⟩ := hh.shape
    have NH := Hid.mk_ hh
    clear hh
    have og' := og
    go_wp2_with fail
    refine (d1 _ _ belowB (NH.out.put2 og')).mono ?_
    rintro e w3 ⟨vp, vr, rfl, hp, hr, hb3⟩
    have st : Steps _ w3 := hb3
    have Bn : Below w.heap.size w w3 := belowA st
    have na := oa.stq st
    have nb := ob.stq st
    have nr := or.stq st
    have ng : Blk w3 (w1.heap.size) 26 #[.bool bh, .slice ah nh ch] := Blk.stepsA st
    clear B oa ob or og ca0 ca1 fa la cb0 cb1 fb lb cr0 cr1 cr2 cr3 fr lr cg0 cg1 fg lg
    clear st
    have B := Bn
    clear Bn
    have oa := na
    clear na
    have ca0 := oa.q0
    have ca1 := oa.q1
    have fa := oa.fr
    have la := oa.lt
    have ob := nb
    clear nb
    have cb0 := ob.q0
    have cb1 := ob.q1
    have fb := ob.fr
    have lb := ob.lt
    have or := nr
    clear nr
    have cr0 := or.q0
    have cr1 := or.q1
    have cr2 := or.q2
    have cr3 := or.q3
    have fr := or.fr
    have lr := or.lt
    have og := ng
    clear ng
    have cg0 := og.q0
    have cg1 := og.q1
    have fg := og.fr
    have lg := og.lt
    clear d1
    have NG2 := Hid.mk_ ((NH.out.put2 og').steps hb3)
    clear NH og'
    obtain ⟨bp_, ap, np, cp, rfl⟩ := hp.shape
    have NP := Hid.mk_ hp
    clear hp
    obtain ⟨br, ar, nr_, cr, rfl⟩ := hr.shape
    clear hr
    have z2 : w1.heap.size < w3.heap.size := og.lt
    go_wp2_with fail
    refine (d2 _ _ belowB ((NG2.out.alloc_ _).alloc_ _)).mono ?_
    rintro e w4 ⟨vq, vt, rfl, hq, ht, hb4⟩
    have st : Steps _ w4 := hb4
    have Bn : Below w.heap.size w w4 := belowA st
    have na := oa.stq st
    have nb := ob.stq st
    have nr := or.stq st
    have ng := og.stq st
    have np : Blk w4 (w3.heap.size) 26 #[.bool bp_, .slice ap np cp] := Blk.stepsA st
    have ns : Blk w4 (w3.heap.size + 1) 26 #[.bool br, .slice ar nr_ cr] := Blk.stepsA st
    clear B oa ob or og ca0 ca1 fa la cb0 cb1 fb lb cr0 cr1 cr2 cr3 fr lr cg0 cg1 fg lg
    clear st
    have B := Bn
    clear Bn
    have oa := na
    clear na
    have ca0 := oa.q0
    have ca1 := oa.q1
    have fa := oa.fr
    have la := oa.lt
    have ob := nb
    clear nb
    have cb0 := ob.q0
    have cb1 := ob.q1
    have fb := ob.fr
    have lb := ob.lt
    have or := nr
    clear nr
    have cr0 := or.q0
    have cr1 := or.q1
    have cr2 := or.q2
    have cr3 := or.q3
    have fr := or.fr
    have lr := or.lt
    have og := ng
    clear ng
    have cg0 := og.q0
    have cg1 := og.q1
    have fg := og.fr
    have lg := og.lt
    have op := np
    clear np
    have cp0 := op.q0
    have cp1 := op.q1
    have fp := op.fr
    have lp := op.lt
    have os := ns
    clear ns
    have cs0 := os.q0
    have cs1 := os.q1
    have fs := os.fr
    have ls := os.lt
    clear d2
    have NP2 := Hid.mk_ (((NP.out.alloc_ (.cells #[.bool bp_, .slice ap np cp] 26)).alloc_ (.cells #[.bool br, .slice ar nr_ cr] 26)).steps hb4)
    clear NP NG2
    obtain ⟨bq, aq, nq, cq, rfl⟩ := hq.shape
    have NQ := Hid.mk_ hq
    clear hq
    obtain ⟨bt, at_', nt_, ct, rfl⟩ := ht.shape
    clear ht
    dsimp only; repeat' (first | go_values | go_skip | go_guarded | go_step | go_upon)
    refine bodyPost_ret (by simp [results, Try.results107, go_sem, ca0, ca1, fa, la, cb0, cb1, fb, lb, cr0, cr1, cr2, cr3, fr, lr, cg0, cg1, fg, lg, cp0, cp1, fp, lp, cs0, cs1, fs, ls]; rfl) rfl ?_
    refine ⟨_, rfl, ?_, belowB⟩
    have HM := MK.out
    exact (((Frc.mk' NP2.out NQ.out HM.1 HM.2.1 HM.2.2.1 HM.2.2.2).only or rfl ((Only.refl _ _).set.set.set.set)).alloc_ _).alloc_ _
  · have e := decide_eq_false hs
    rw [e] at gc d2 ⊢
    have HG : rg x y = gcdI x y := if_neg hs
    rw [HG] at d1 d2
    clear hs e HG fg hy
    go_enter Try.func107, Try.ntmps107
    go_wp2_with fail
    refine (gc _ belowB).mono ?_
    rintro e w1 ⟨vg, rfl, hg, fg, hb1⟩
    have st : Steps _ w1 := hb1
    have Bn : Below w.heap.size w w1 := belowA st
    have na : Blk w1 (w.heap.size) 26 #[.bool gx, .slice aa n ca] := Blk.stepsA st
    have nb : Blk w1 (w.heap.size + 1) 26 #[.bool false, .slice ab m cb] := Blk.stepsA st
    have nr : Blk w1 (w.heap.size + 1 + 1) 28 #[.bool false, .slice none 0 0, .bool false, .slice none 0 0] := Blk.stepsA st
    clear st
    have B := Bn
    clear Bn
    have oa := na
    clear na
    have ca0 := oa.q0
    have ca1 := oa.q1
    have fa := oa.fr
    have la := oa.lt
    have ob := nb
    clear nb
    have cb0 := ob.q0
    have cb1 := ob.q1
    have fb := ob.fr
    have lb := ob.lt
    have or := nr
    clear nr
    have cr0 := or.q0
    have cr1 := or.q1
    have cr2 := or.q2
    have cr3 := or.q3
    have fr := or.fr
    have lr := or.lt
    clear gc fg
    obtain ⟨bg, ag, ng_, cg, rfl⟩ := hg.shape
    have NG := Hid.mk_ hg
    clear hg
    have z1 : w.heap.size + 1 + 1 < w1.heap.size := or.lt
    go_wp2_with fail
    refine (d1 _ _ belowB (NG.out.alloc_ _)).mono ?_
    rintro e w2 ⟨vp, vr, rfl, hp, hr, hb2⟩
    have st : Steps _ w2 := hb2
    have Bn : Below w.heap.size w w2 := belowA st
    have na := oa.stq st
    have nb := ob.stq st
    have nr := or.stq st
    have ng : Blk w2 (w1.heap.size) 26 #[.bool bg, .slice ag ng_ cg] := Blk.stepsA st
    clear B oa ob or ca0 ca1 fa la cb0 cb1 fb lb cr0 cr1 cr2 cr3 fr lr
    clear st
    have B := Bn
    clear Bn
    have oa := na
    clear na
    have ca0 := oa.q0
    have ca1 := oa.q1
    have fa := oa.fr
    have la := oa.lt
    have ob := nb
    clear nb
    have cb0 := ob.q0
    have cb1 := ob.q1
    have fb := ob.fr
    have lb := ob.lt
    have or := nr
    clear nr
    have cr0 := or.q0
    have cr1 := or.q1
    have cr2 := or.q2
    have cr3 := or.q3
    have fr := or.fr
    have lr := or.lt
    have og := ng
    clear ng
    have cg0 := og.q0
    have cg1 := og.q1
    have fg := og.fr
    have lg := og.lt
    clear d1
    have NG2 := Hid.mk_ ((NG.out.alloc_ _).steps hb2)
    clear NG
    obtain ⟨bp_, ap, np, cp, rfl⟩ := hp.shape
    have NP := Hid.mk_ hp
    clear hp
    obtain ⟨br, ar, nr_, cr, rfl⟩ := hr.shape
    clear hr
    have z2 : w1.heap.size < w2.heap.size := og.lt
    go_wp2_with fail
    refine (d2 _ _ belowB ((NG2.out.alloc_ _).alloc_ _)).mono ?_
    rintro e w3 ⟨vq, vt, rfl, hq, ht, hb3⟩
    have st : Steps _ w3 := hb3
    have Bn : Below w.heap.size w w3 := belowA st
    have na := oa.stq st
    have nb := ob.stq st
    have nr := or.stq st
    have ng := og.stq st
    have np : Blk w3 (w2.heap.size) 26 #[.bool bp_, .slice ap np cp] := Blk.stepsA st
    have ns : Blk w3 (w2.heap.size + 1) 26 #[.bool br, .slice ar nr_ cr] := Blk.stepsA st
    clear B oa ob or og ca0 ca1 fa la cb0 cb1 fb lb cr0 cr1 cr2 cr3 fr lr cg0 cg1 fg lg
    clear st
    have B := Bn
    clear Bn
    have oa := na
    clear na
    have ca0 := oa.q0
    have ca1 := oa.q1
    have fa := oa.fr
    have la := oa.lt
    have ob := nb
    clear nb
    have cb0 := ob.q0
    have cb1 := ob.q1
    have fb := ob.fr
    have lb := ob.lt
    have or := nr
    clear nr
    have cr0 := or.q0
    have cr1 := or.q1
    have cr2 := or.q2
    have cr3 := or.q3
    have fr := or.fr
    have lr := or.lt
    have og := ng
    clear ng
    have cg0 := og.q0
    have cg1 := og.q1
    have fg := og.fr
    have lg := og.lt
    have op := np
    clear np
    have cp0 := op.q0
    have cp1 := op.q1
    have fp := op.fr
    have lp := op.lt
    have os := ns
    clear ns
    have cs0 := os.q0
    have cs1 := os.q1
    have fs := os.fr
    have ls := os.lt
    clear d2
    have NP2 := Hid.mk_ (((NP.out.alloc_ (.cells #[.bool bp_, .slice ap np cp] 26)).alloc_ (.cells #[.bool br, .slice ar nr_ cr] 26)).steps hb3)
    clear NP NG2
    obtain ⟨bq, aq, nq, cq, rfl⟩ := hq.shape
    have NQ := Hid.mk_ hq
    clear hq
    obtain ⟨bt, at_', nt_, ct, rfl⟩ := ht.shape
    clear ht
    dsimp only; repeat' (first | go_values | go_skip | go_guarded | go_step | go_upon)
    refine bodyPost_ret (by simp [results, Try.results107, go_sem, ca0, ca1, fa, la, cb0, cb1, fb, lb, cr0, cr1, cr2, cr3, fr, lr, cg0, cg1, fg, lg, cp0, cp1, fp, lp, cs0, cs1, fs, ls]; rfl) rfl ?_
    refine ⟨_, rfl, ?_, belowB⟩
    have HM := MK.out
    exact (((Frc.mk' NP2.out NQ.out HM.1 HM.2.1 HM.2.2.1 HM.2.2.2).only or rfl ((Only.refl _ _).set.set.set.set)).alloc_ _).alloc_ _
end Go.Proofs.Ytibdehlmflaodaa
