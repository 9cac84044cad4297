import Derived.Test.YtmpambmpknaldaaGreatANo
import Derived.Test.YtmpambmpknaldaaGreatATz
set_option linter.unusedVariables false
set_option linter.unusedSimpArgs false
set_option maxHeartbeats 6400000
set_option maxRecDepth 1000000
namespace Go.Proofs.YtmpambmpknaldaaGreat
open Go.RowKit
theorem zv_mul (x y : Int) : zv (decide (x < 0) != decide (y < 0)) (absN x * absN y) = x * y := by
 by_cases h1 : x < 0
 ·
  by_cases h2 : y < 0
  ·
   have e : absN x * absN y = x * y := by
    rw [show absN x = -x by unfold absN; omega, show absN y = -y by unfold absN; omega, Int.neg_mul_neg]
   simp [h1, h2, zv, e]
  ·
   have e : absN x * absN y = -(x * y) := by
    rw [show absN x = -x by unfold absN; omega, show absN y = y by unfold absN; omega, Int.neg_mul]
   simp [h1, h2, zv, e]
 ·
  by_cases h2 : y < 0
  ·
   have e : absN x * absN y = -(x * y) := by
    rw [show absN x = x by unfold absN; omega, show absN y = -y by unfold absN; omega, Int.mul_neg]
   simp [h1, h2, zv, e]
  ·
   have e : absN x * absN y = x * y := by
    rw [show absN x = x by unfold absN; omega, show absN y = y by unfold absN; omega]
   simp [h1, h2, zv, e]
theorem nmul {va vb : Value} {x y : Int} (w : World) (ha : Num w va x) (hb : Num w vb y) (fx : fits x) (fy : fits y) :
  Calls Tryz.prog 81 #[va, vb] w fun e w' => ∃ v, e = .returned (.tuple #[v, .int .i64 (errN (x * y))]) ∧ Num w' v (clipN (x * y)) ∧ Steps w w' := by
 have bo := fun (w' : World) (h : Steps w w') => rboth_ok w' (ha.steps h) (hb.steps h) fx fy
 obtain ⟨aa, ca, rfl, pa⟩ := ha.parts
 obtain ⟨ab, cb, rfl, pb⟩ := hb.parts
 unfold fits at fx fy
 have nx : (limbs (absN x)).length ≤ few := by unfold few; omega
 have ny : (limbs (absN y)).length ≤ few := by unfold few; omega
 have vx := lval_limbs (absN_nonneg x)
 have vy := lval_limbs (absN_nonneg y)
 obtain ⟨g, hg⟩ : ∃ g, (decide (x < 0) != decide (y < 0)) = g := ⟨_, rfl⟩
 have tm : ∀ w', Steps w w' → Calls Tryz.prog 112 #[.slice aa (limbs (absN x)).length ca, .slice ab (limbs (absN y)).length cb] w' fun e w2 => ∃ v l, e = .returned v ∧ Lim w2 v l ∧ lval l = absN x * absN y ∧ l.length ≤ few ∧ Steps w' w2 := fun w' h => by
  refine (ntimes w' (pa.steps h) (pb.steps h) nx ny).mono ?_
  rintro e w2 ⟨v, l, rfl, h1, h2, h3, h4⟩
  exact ⟨v, l, rfl, h1, by rw [h2, vx, vy], by unfold few; omega, h4⟩
 have mk : ∀ w' s l, Lim w' s l → lval l = absN x * absN y → l.length ≤ few → Calls Tryz.prog 111 #[.bool g, s] w' fun e w2 => ∃ v, e = .returned (.tuple #[v, .int .i64 (errN (x * y))]) ∧ Num w2 v (clipN (x * y)) ∧ Steps w' w2 := fun w' s l h h2 h3 => by
  have := rmadeN g w' h h3
  rw [h2, ← hg, zv_mul] at this
  rw [← hg]
  exact this
 obtain ⟨n, hn⟩ : ∃ n, (limbs (absN x)).length = n := ⟨_, rfl⟩
 obtain ⟨m, hm⟩ : ∃ m, (limbs (absN y)).length = m := ⟨_, rfl⟩
 rw [hn] at bo tm ⊢
 rw [hm] at bo tm ⊢
 obtain ⟨gx, hgx⟩ : ∃ b, decide (x < 0) = b := ⟨_, rfl⟩
 obtain ⟨gy, hgy⟩ : ∃ b, decide (y < 0) = b := ⟨_, rfl⟩
 rw [hgx, hgy] at hg bo ⊢
 have hgg : (gx == gy) = !g := by rw [← hg]; cases gx <;> cases gy <;> rfl
 clear ha hb pa pb hn hm hgx hgy hg fx fy nx ny vx vy
 go_enter Tryz.func81, Tryz.ntmps81
 go_wp2_with fail
 refine (bo _ belowB).mono ?_
 rintro e w1 ⟨rfl, hb1⟩
 have st : Steps _ w1 := hb1
 have Bn : Below w.heap.size w w1 := belowA st
 have oa : Blk w1 (w.heap.size) 25 #[.bool gx, .slice aa n ca] := Blk.stepsA st
 have ob : Blk w1 (w.heap.size + 1) 25 #[.bool gy, .slice ab m cb] := Blk.stepsA st
 have or : Blk w1 (w.heap.size + 1 + 1) 25 #[.bool false, .slice none 0 0] := Blk.stepsA st
 clear st
 have B := Bn
 clear Bn
 obtain ⟨ca0, ca1, fa, la⟩ := oa.s1
 obtain ⟨cb0, cb1, fb, lb⟩ := ob.s1
 obtain ⟨cr0, cr1, fr, lr⟩ := or.s1
 clear bo
 go_wp2_with fail
 go_region_held3 (fun w' => w'.cell? ⟨w.heap.size, 0, none⟩ = some (.bool gx) ∧ w'.cell? ⟨w.heap.size, 1, none⟩ = some (.slice aa n ca) ∧ w'.cell? ⟨w.heap.size + 1, 0, none⟩ = some (.bool gy) ∧ w'.cell? ⟨w.heap.size + 1, 1, none⟩ = some (.slice ab m cb))
  ((refine ⟨Blk.c (t := 25) (cs := #[.bool gx, .slice aa n ca]) ?_ 0 rfl, Blk.c (t := 25) (cs := #[.bool gx, .slice aa n ca]) ?_ 1 rfl, Blk.c (t := 25) (cs := #[.bool gy, .slice ab m cb]) ?_ 0 rfl, Blk.c (t := 25) (cs := #[.bool gy, .slice ab m cb]) ?_ 1 rfl⟩ <;> (repeat' first | with_reducible assumption | (with_reducible refine Blk.new' ?_; first | with_reducible rfl | (simp only [World.size_alloc, World.size_setCell, World.size_drew]; done)) | with_reducible refine Blk.alloc ?_ _ | with_reducible refine Blk.drew ?_ | with_reducible refine Blk.drewN ?_ _ | with_reducible apply Blk.both | with_reducible refine Blk.far' ?_ ?_ | (show _ ≠ _; omega))))
  (first
   | ((go_at_call 112; refine (tm _ belowB).mono ?_; rintro e wv ⟨v1, l1, rfl, hv1, vl1, ll1, hbv⟩; go_must (have HV1 := Hid.mk_ vl1; clear vl1; have st : Steps _ wv := hbv; have Bn : Below w.heap.size w wv := belowA st; have na : Blk wv (w.heap.size) 25 #[.bool gx, .slice aa n ca] := Blk.stepsA st; have nb : Blk wv (w.heap.size + 1) 25 #[.bool gy, .slice ab m cb] := Blk.stepsA st; have nr : Blk wv (w.heap.size + 1 + 1) 25 #[.bool false, .slice none 0 0] := Blk.stepsA st; clear B oa ob or ca0 ca1 fa la cb0 cb1 fb lb cr0 cr1 fr lr; clear st; have B := Bn; clear Bn; have oa := na; clear na; have ca0 : World.cell? wv ⟨w.heap.size, 0, none⟩ = some (.bool gx) := oa.c 0 rfl; have ca1 : World.cell? wv ⟨w.heap.size, 1, none⟩ = some (.slice aa n ca) := oa.c 1 rfl; have fa := oa.fr; have la := oa.lt; have ob := nb; clear nb; have cb0 : World.cell? wv ⟨w.heap.size + 1, 0, none⟩ = some (.bool gy) := ob.c 0 rfl; have cb1 : World.cell? wv ⟨w.heap.size + 1, 1, none⟩ = some (.slice ab m cb) := ob.c 1 rfl; have fb := ob.fr; have lb := ob.lt; have or := nr; clear nr; have cr0 : World.cell? wv ⟨w.heap.size + 1 + 1, 0, none⟩ = some (.bool false) := or.c 0 rfl; have cr1 : World.cell? wv ⟨w.heap.size + 1 + 1, 1, none⟩ = some (.slice none 0 0) := or.c 1 rfl; have fr := or.fr; have lr := or.lt)))
   | ((go_at_call 111; refine (mk _ _ l1 hv1 HV1.out ll1).mono ?_; rintro e wv ⟨v2, rfl, hv2, hbv⟩; go_must (have st : Steps _ wv := hbv; have Bn : Below w.heap.size w wv := belowA st; have na : Blk wv (w.heap.size) 25 #[.bool gx, .slice aa n ca] := Blk.stepsA st; have nb : Blk wv (w.heap.size + 1) 25 #[.bool gy, .slice ab m cb] := Blk.stepsA st; have nr : Blk wv (w.heap.size + 1 + 1) 25 #[.bool false, .slice none 0 0] := Blk.stepsA st; clear B oa ob or ca0 ca1 fa la cb0 cb1 fb lb cr0 cr1 fr lr; clear st; have B := Bn; clear Bn; have oa := na; clear na; have ca0 : World.cell? wv ⟨w.heap.size, 0, none⟩ = some (.bool gx) := oa.c 0 rfl; have ca1 : World.cell? wv ⟨w.heap.size, 1, none⟩ = some (.slice aa n ca) := oa.c 1 rfl; have fa := oa.fr; have la := oa.lt; have ob := nb; clear nb; have cb0 : World.cell? wv ⟨w.heap.size + 1, 0, none⟩ = some (.bool gy) := ob.c 0 rfl; have cb1 : World.cell? wv ⟨w.heap.size + 1, 1, none⟩ = some (.slice ab m cb) := ob.c 1 rfl; have fb := ob.fr; have lb := ob.lt; have or := nr; clear nr; have cr0 : World.cell? wv ⟨w.heap.size + 1 + 1, 0, none⟩ = some (.bool false) := or.c 0 rfl; have cr1 : World.cell? wv ⟨w.heap.size + 1 + 1, 1, none⟩ = some (.slice none 0 0) := or.c 1 rfl; have fr := or.fr; have lr := or.lt; obtain ⟨bb, ao2, n2, c2, rfl⟩ := hv2.shape))))
 have HV2 := Hid.mk_ hv2
 clear hv2
 go_wp2
 refine bodyPost_ret (by simp [results, Tryz.results81, go_sem, ca0, ca1, fa, la, cb0, cb1, fb, lb, cr0, cr1, fr, lr]; rfl) rfl ?_
 exact ⟨_, rfl, HV2.out.put2 or, belowB⟩
theorem nadd {va vb : Value} {x y : Int} (w : World) (ha : Num w va x) (hb : Num w vb y) (fx : fits x) (fy : fits y) :
  Calls Tryz.prog 122 #[va, vb] w fun e w' => ∃ v, e = .returned (.tuple #[v, .int .i64 (errN (x + y))]) ∧ Num w' v (clipN (x + y)) ∧ Steps w w' := by
 have bo := fun (w' : World) (h : Steps w w') => rboth_ok w' (ha.steps h) (hb.steps h) fx fy
 have sm := fun (w' : World) (h : Steps w w') => rsum w' (ha.steps h) (hb.steps h) fx fy
 obtain ⟨aa, ca, rfl, pa⟩ := ha.parts
 obtain ⟨ab, cb, rfl, pb⟩ := hb.parts
 obtain ⟨n, hn⟩ : ∃ n, (limbs (absN x)).length = n := ⟨_, rfl⟩
 obtain ⟨m, hm⟩ : ∃ m, (limbs (absN y)).length = m := ⟨_, rfl⟩
 rw [hn] at bo sm ⊢
 rw [hm] at bo sm ⊢
 obtain ⟨gx, hgx⟩ : ∃ b, decide (x < 0) = b := ⟨_, rfl⟩
 obtain ⟨gy, hgy⟩ : ∃ b, decide (y < 0) = b := ⟨_, rfl⟩
 rw [hgx] at bo sm ⊢
 rw [hgy] at bo sm ⊢
 clear ha hb pa pb hn hm hgx hgy fx fy
 go_enter Tryz.func122, Tryz.ntmps122
 go_wp2_with fail
 refine (bo _ belowB).mono ?_
 rintro e w1 ⟨rfl, hb1⟩
 have st : Steps _ w1 := hb1
 have Bn : Below w.heap.size w w1 := belowA st
 have oa : Blk w1 (w.heap.size) 25 #[.bool gx, .slice aa n ca] := Blk.stepsA st
 have ob : Blk w1 (w.heap.size + 1) 25 #[.bool gy, .slice ab m cb] := Blk.stepsA st
 have or : Blk w1 (w.heap.size + 1 + 1) 25 #[.bool false, .slice none 0 0] := Blk.stepsA st
 clear st
 have B := Bn
 clear Bn
 obtain ⟨ca0, ca1, fa, la⟩ := oa.s1
 obtain ⟨cb0, cb1, fb, lb⟩ := ob.s1
 obtain ⟨cr0, cr1, fr, lr⟩ := or.s1
 clear bo
 go_wp2_with fail
 refine (sm _ B).mono ?_
 rintro e w2 ⟨v2, rfl, hv2, hb2⟩
 have st : Steps _ w2 := hb2
 have Bn : Below w.heap.size w w2 := belowA st
 have na := oa.stq st
 have nb := ob.stq st
 have nr := or.stq st
 clear B oa ob or ca0 ca1 fa la cb0 cb1 fb lb cr0 cr1 fr lr
 clear st
 have B := Bn
 clear Bn
 have oa := na
 clear na
 obtain ⟨ca0, ca1, fa, la⟩ := oa.s1
 have ob := nb
 clear nb
 obtain ⟨cb0, cb1, fb, lb⟩ := ob.s1
 have or := nr
 clear nr
 obtain ⟨cr0, cr1, fr, lr⟩ := or.s1
 clear sm
 obtain ⟨bb, ao2, n2, c2, rfl⟩ := hv2.shape
 have HV2 := Hid.mk_ hv2
 clear hv2
 go_wp2
 refine bodyPost_ret (by simp [results, Tryz.results122, go_sem, ca0, ca1, fa, la, cb0, cb1, fb, lb, cr0, cr1, fr, lr]; rfl) rfl ?_
 exact ⟨_, rfl, HV2.out.put2 or, belowB⟩
theorem Num.neg_parts {w : World} {y : Int} {ab : Option Addr} {m cb : Nat} (h : Lim w (.slice ab m cb) (limbs (absN y))) : Num w (.agg #[.bool (decide (-y < 0)), .slice ab m cb]) (-y) :=
 ⟨_, rfl, by rw [absN_neg]; exact h⟩
theorem nsub {va vb : Value} {x y : Int} (w : World) (ha : Num w va x) (hb : Num w vb y) (fx : fits x) (fy : fits y) :
  Calls Tryz.prog 123 #[va, vb] w fun e w' => ∃ v, e = .returned (.tuple #[v, .int .i64 (errN (x - y))]) ∧ Num w' v (clipN (x - y)) ∧ Steps w w' := by
 have bo := fun (w' : World) (h : Steps w w') => rboth_ok w' (ha.steps h) (hb.steps h) fx fy
 obtain ⟨aa, ca, rfl, pa⟩ := ha.parts
 obtain ⟨ab, cb, rfl, pb⟩ := hb.parts
 have sm : ∀ w' v, Steps w w' → Num w' v (-y) → Calls Tryz.prog 138 #[.agg #[.bool (decide (x < 0)), .slice aa (limbs (absN x)).length ca], v] w' fun e w2 => ∃ v', e = .returned (.tuple #[v', .int .i64 (errN (x - y))]) ∧ Num w2 v' (clipN (x - y)) ∧ Steps w' w2 := fun w' v h hv => by
  have := rsum w' (ha.steps h) hv fx (fits_neg fy)
  rw [← Int.sub_eq_add_neg] at this
  exact this
 have y0 : (limbs (absN y)).length = 0 ↔ y = 0 := by
  rw [List.length_eq_zero_iff, limbs_nil (absN_nonneg y)]
  unfold absN; omega
 have ngp := fun (w' : World) (h : Steps w w') => Num.neg_parts (pb.steps h)
 obtain ⟨n, hn⟩ : ∃ n, (limbs (absN x)).length = n := ⟨_, rfl⟩
 obtain ⟨m, hm⟩ : ∃ m, (limbs (absN y)).length = m := ⟨_, rfl⟩
 rw [hn] at bo sm ⊢
 rw [hm] at bo ngp y0 ⊢
 obtain ⟨gx, hgx⟩ : ∃ b, decide (x < 0) = b := ⟨_, rfl⟩
 rw [hgx] at bo sm ⊢
 clear ha hb pa pb hn hm hgx fx fy
 rcases (show y < 0 ∨ y = 0 ∨ 0 < y by omega) with h | h | h
 ·
  have e1 : decide (y < 0) = true := by simp; omega
  have e2 : decide (-y < 0) = false := by simp; omega
  rw [e1] at bo ⊢
  rw [e2] at ngp
  clear e1 e2 y0 h
  go_enter Tryz.func123, Tryz.ntmps123
  go_wp2_with fail
  refine (bo _ belowB).mono ?_
  rintro e w1 ⟨rfl, hb1⟩
  have st : Steps _ w1 := hb1
  have Bn : Below w.heap.size w w1 := belowA st
  have oa : Blk w1 (w.heap.size) 25 #[.bool gx, .slice aa n ca] := Blk.stepsA st
  have ob : Blk w1 (w.heap.size + 1) 25 #[.bool true, .slice ab m cb] := Blk.stepsA st
  have or : Blk w1 (w.heap.size + 1 + 1) 25 #[.bool false, .slice none 0 0] := Blk.stepsA st
  clear st
  have B := Bn
  clear Bn
  obtain ⟨ca0, ca1, fa, la⟩ := oa.s1
  obtain ⟨cb0, cb1, fb, lb⟩ := ob.s1
  obtain ⟨cr0, cr1, fr, lr⟩ := or.s1
  clear bo
  go_wp2_with fail
  refine (sm _ _ B (ngp _ B)).mono ?_
  rintro e w2 ⟨v2, rfl, hv2, hb2⟩
  have st : Steps _ w2 := hb2
  have Bn : Below w.heap.size w w2 := belowA st
  have na := oa.stq st
  have nb := ob.stq st
  have nr := or.stq st
  clear B oa ob or ca0 ca1 fa la cb0 cb1 fb lb cr0 cr1 fr lr
  clear st
  have B := Bn
  clear Bn
  have oa := na
  clear na
  obtain ⟨ca0, ca1, fa, la⟩ := oa.s1
  have ob := nb
  clear nb
  obtain ⟨cb0, cb1, fb, lb⟩ := ob.s1
  have or := nr
  clear nr
  obtain ⟨cr0, cr1, fr, lr⟩ := or.s1
  clear sm ngp
  obtain ⟨bb, ao2, n2, c2, rfl⟩ := hv2.shape
  have HV2 := Hid.mk_ hv2
  clear hv2
  go_wp2
  refine bodyPost_ret (by simp [results, Tryz.results123, go_sem, ca0, ca1, fa, la, cb0, cb1, fb, lb, cr0, cr1, fr, lr]; rfl) rfl ?_
  exact ⟨_, rfl, HV2.out.put2 or, belowB⟩
 ·
  have e1 : decide (y < 0) = false := by simp; omega
  have e2 : decide (-y < 0) = false := by simp; omega
  rw [e1] at bo ⊢
  rw [e2] at ngp
  have hm0 : m = 0 := y0.2 h
  subst hm0
  clear e1 e2 y0 h
  go_enter Tryz.func123, Tryz.ntmps123
  go_wp2_with fail
  refine (bo _ belowB).mono ?_
  rintro e w1 ⟨rfl, hb1⟩
  have st : Steps _ w1 := hb1
  have Bn : Below w.heap.size w w1 := belowA st
  have oa : Blk w1 (w.heap.size) 25 #[.bool gx, .slice aa n ca] := Blk.stepsA st
  have ob : Blk w1 (w.heap.size + 1) 25 #[.bool false, .slice ab 0 cb] := Blk.stepsA st
  have or : Blk w1 (w.heap.size + 1 + 1) 25 #[.bool false, .slice none 0 0] := Blk.stepsA st
  clear st
  have B := Bn
  clear Bn
  obtain ⟨ca0, ca1, fa, la⟩ := oa.s1
  obtain ⟨cb0, cb1, fb, lb⟩ := ob.s1
  obtain ⟨cr0, cr1, fr, lr⟩ := or.s1
  clear bo
  go_wp2_with fail
  refine (sm _ _ B (ngp _ B)).mono ?_
  rintro e w2 ⟨v2, rfl, hv2, hb2⟩
  have st : Steps _ w2 := hb2
  have Bn : Below w.heap.size w w2 := belowA st
  have na := oa.stq st
  have nb := ob.stq st
  have nr := or.stq st
  clear B oa ob or ca0 ca1 fa la cb0 cb1 fb lb cr0 cr1 fr lr
  clear st
  have B := Bn
  clear Bn
  have oa := na
  clear na
  obtain ⟨ca0, ca1, fa, la⟩ := oa.s1
  have ob := nb
  clear nb
  obtain ⟨cb0, cb1, fb, lb⟩ := ob.s1
  have or := nr
  clear nr
  obtain ⟨cr0, cr1, fr, lr⟩ := or.s1
  clear sm ngp
  obtain ⟨bb, ao2, n2, c2, rfl⟩ := hv2.shape
  have HV2 := Hid.mk_ hv2
  clear hv2
  go_wp2
  refine bodyPost_ret (by simp [results, Tryz.results123, go_sem, ca0, ca1, fa, la, cb0, cb1, fb, lb, cr0, cr1, fr, lr]; rfl) rfl ?_
  exact ⟨_, rfl, HV2.out.put2 or, belowB⟩
 ·
  have e1 : decide (y < 0) = false := by simp; omega
  have e2 : decide (-y < 0) = true := by simp; omega
  rw [e1] at bo ⊢
  rw [e2] at ngp
  have hm0 : 0 < m := by rcases Nat.eq_zero_or_pos m with g | g; (have := y0.1 g; omega); exact g
  have hm1 : decide (0 < m) = true := decide_eq_true hm0
  have hm2 : decide (0 < (m : Int)) = true := decide_eq_true (by omega)
  clear e1 e2 y0 h
  go_enter Tryz.func123, Tryz.ntmps123
  go_wp2_with fail
  refine (bo _ belowB).mono ?_
  rintro e w1 ⟨rfl, hb1⟩
  have st : Steps _ w1 := hb1
  have Bn : Below w.heap.size w w1 := belowA st
  have oa : Blk w1 (w.heap.size) 25 #[.bool gx, .slice aa n ca] := Blk.stepsA st
  have ob : Blk w1 (w.heap.size + 1) 25 #[.bool false, .slice ab m cb] := Blk.stepsA st
  have or : Blk w1 (w.heap.size + 1 + 1) 25 #[.bool false, .slice none 0 0] := Blk.stepsA st
  clear st
  have B := Bn
  clear Bn
  obtain ⟨ca0, ca1, fa, la⟩ := oa.s1
  obtain ⟨cb0, cb1, fb, lb⟩ := ob.s1
  obtain ⟨cr0, cr1, fr, lr⟩ := or.s1
  clear bo
  go_wp2_with fail
  refine (sm _ _ B (ngp _ B)).mono ?_
  rintro e w2 ⟨v2, rfl, hv2, hb2⟩
  have st : Steps _ w2 := hb2
  have Bn : Below w.heap.size w w2 := belowA st
  have na := oa.stq st
  have nb := ob.stq st
  have nr := or.stq st
  clear B oa ob or ca0 ca1 fa la cb0 cb1 fb lb cr0 cr1 fr lr
  clear st
  have B := Bn
  clear Bn
  have oa := na
  clear na
  obtain ⟨ca0, ca1, fa, la⟩ := oa.s1
  have ob := nb
  clear nb
  obtain ⟨cb0, cb1, fb, lb⟩ := ob.s1
  have or := nr
  clear nr
  obtain ⟨cr0, cr1, fr, lr⟩ := or.s1
  clear sm ngp
  obtain ⟨bb, ao2, n2, c2, rfl⟩ := hv2.shape
  have HV2 := Hid.mk_ hv2
  clear hv2
  go_wp2
  refine bodyPost_ret (by simp [results, Tryz.results123, go_sem, ca0, ca1, fa, la, cb0, cb1, fb, lb, cr0, cr1, fr, lr]; rfl) rfl ?_
  exact ⟨_, rfl, HV2.out.put2 or, belowB⟩
theorem Frc.fit {w : World} {v : Value} {p q : Int} (h : Frc w v p q) : fits p ∧ fits q ∧ 0 < q := by
 obtain ⟨_, _, _, _, _, q0, _, fp, fq⟩ := h
 exact ⟨fp, fq, q0⟩
theorem rmul_fits {va vb : Value} {x y : Int} (w : World) (ha : Num w va x) (hb : Num w vb y) (fx : fits x) (fy : fits y) (fm : fits (x * y)) :
  Calls Tryz.prog 81 #[va, vb] w fun e w' => ∃ v, e = .returned (.tuple #[v, .int .i64 0]) ∧ Num w' v (x * y) ∧ Steps w w' := by
 have := nmul w ha hb fx fy
 rw [errN_fits fm, clipN_fits fm] at this
 exact this
theorem radd_fits {va vb : Value} {x y : Int} (w : World) (ha : Num w va x) (hb : Num w vb y) (fx : fits x) (fy : fits y) (fm : fits (x + y)) :
  Calls Tryz.prog 122 #[va, vb] w fun e w' => ∃ v, e = .returned (.tuple #[v, .int .i64 0]) ∧ Num w' v (x + y) ∧ Steps w w' := by
 have := nadd w ha hb fx fy
 rw [errN_fits fm, clipN_fits fm] at this
 exact this
theorem rsub_fits {va vb : Value} {x y : Int} (w : World) (ha : Num w va x) (hb : Num w vb y) (fx : fits x) (fy : fits y) (fm : fits (x - y)) :
  Calls Tryz.prog 123 #[va, vb] w fun e w' => ∃ v, e = .returned (.tuple #[v, .int .i64 0]) ∧ Num w' v (x - y) ∧ Steps w w' := by
 have := nsub w ha hb fx fy
 rw [errN_fits fm, clipN_fits fm] at this
 exact this
theorem rproduct {va vb vc vd : Value} {x y z u : Int} (w : World) (ha : Num w va x) (hb : Num w vb y) (hc : Num w vc z) (hd : Num w vd u) (fx : fits x) (fy : fits y) (fz : fits z) (fu : fits u) (f1 : fits (x * y)) (f2 : fits (z * u)) (h0 : z * u ≠ 0) :
  Calls Tryz.prog 80 #[va, vb, vc, vd] w fun e w' => ∃ v, e = .returned (.tuple #[v, .int .i64 0]) ∧ Frc w' v (rdP (x * y) (z * u)) (rdQ (x * y) (z * u)) ∧ Steps w w' := by
 have m1 := fun (w' : World) (h : Steps w w') => rmul_fits w' (ha.steps h) (hb.steps h) fx fy f1
 have m2 := fun (w' : World) (h : Steps w w') => rmul_fits w' (hc.steps h) (hd.steps h) fz fu f2
 have rd : ∀ w' v1 v2, Num w' v1 (x * y) → Num w' v2 (z * u) → Calls Tryz.prog 109 #[v1, v2] w' fun e w2 => ∃ v, e = .returned v ∧ Frc w2 v (rdP (x * y) (z * u)) (rdQ (x * y) (z * u)) ∧ Steps w' w2 := fun w' v1 v2 h1 h2 => rreduced w' h1 h2 f1 f2 h0
 obtain ⟨X, hX⟩ : ∃ X, x * y = X := ⟨_, rfl⟩
 obtain ⟨Y, hY⟩ : ∃ Y, z * u = Y := ⟨_, rfl⟩
 rw [hX] at m1 rd ⊢
 rw [hY] at m2 rd ⊢
 obtain ⟨ga, sa, ja, ea, rfl⟩ := ha.shape
 obtain ⟨gb, sb, jb, eb, rfl⟩ := hb.shape
 obtain ⟨gc, sc, jc, ec, rfl⟩ := hc.shape
 obtain ⟨gd, sd, jd, ed, rfl⟩ := hd.shape
 clear ha hb hc hd fx fy fz fu f1 f2 h0 hX hY
 go_enter Tryz.func80, Tryz.ntmps80
 go_wp2_with fail
 refine (m1 _ belowB).mono ?_
 rintro e w1 ⟨v1, rfl, hn1, hb1⟩
 have st : Steps _ w1 := hb1
 have Bn : Below w.heap.size w w1 := belowA st
 have oa : Blk w1 (w.heap.size) 25 #[.bool ga, .slice sa ja ea] := Blk.stepsA st
 have ob : Blk w1 (w.heap.size + 1) 25 #[.bool gb, .slice sb jb eb] := Blk.stepsA st
 have oc : Blk w1 (w.heap.size + 1 + 1) 25 #[.bool gc, .slice sc jc ec] := Blk.stepsA st
 have od : Blk w1 (w.heap.size + 1 + 1 + 1) 25 #[.bool gd, .slice sd jd ed] := Blk.stepsA st
 have or : Blk w1 (w.heap.size + 1 + 1 + 1 + 1) 27 #[.bool false, .slice none 0 0, .bool false, .slice none 0 0] := Blk.stepsA st
 clear st
 have B := Bn
 clear Bn
 obtain ⟨ca0, ca1, fa, la⟩ := oa.s1
 obtain ⟨cb0, cb1, fb, lb⟩ := ob.s1
 obtain ⟨cc0, cc1, fc, lc⟩ := oc.s1
 obtain ⟨cd0, cd1, fd, ld⟩ := od.s1
 obtain ⟨cr0, cr1, cr2, cr3, fr, lr⟩ := or.s3
 clear m1
 obtain ⟨g1, s1, k1, c1, rfl⟩ := hn1.shape
 have N1 := Hid.mk_ hn1
 clear hn1
 have z1 : w.heap.size + 1 + 1 + 1 + 1 < w1.heap.size := or.lt
 go_wp2_with fail
 refine (m2 _ belowB).mono ?_
 rintro e w2 ⟨v2, rfl, hn2, hb2⟩
 have st : Steps _ w2 := hb2
 have Bn : Below w.heap.size w w2 := belowA st
 have na := oa.stq st
 have nb := ob.stq st
 have nc := oc.stq st
 have nd := od.stq st
 have nr := or.stq st
 have ox : Blk w2 (w1.heap.size) 25 #[.bool g1, .slice s1 k1 c1] := Blk.stepsA st
 clear B oa ob oc od or ca0 ca1 fa la cb0 cb1 fb lb cc0 cc1 fc lc cd0 cd1 fd ld cr0 cr1 cr2 cr3 fr lr
 clear st
 have B := Bn
 clear Bn
 have oa := na
 clear na
 obtain ⟨ca0, ca1, fa, la⟩ := oa.s1
 have ob := nb
 clear nb
 obtain ⟨cb0, cb1, fb, lb⟩ := ob.s1
 have oc := nc
 clear nc
 obtain ⟨cc0, cc1, fc, lc⟩ := oc.s1
 have od := nd
 clear nd
 obtain ⟨cd0, cd1, fd, ld⟩ := od.s1
 have or := nr
 clear nr
 obtain ⟨cr0, cr1, cr2, cr3, fr, lr⟩ := or.s3
 obtain ⟨cx0, cx1, fx, lx⟩ := ox.s1
 clear m2
 obtain ⟨g2, s2, k2, c2, rfl⟩ := hn2.shape
 have N2 := Hid.mk_ hn2
 clear hn2
 have N1b := Hid.mk_ ((N1.out.alloc_ (.cells #[.bool g1, .slice s1 k1 c1] 25)).steps hb2)
 clear N1
 have z2 : w1.heap.size < w2.heap.size := ox.lt
 go_wp2_with fail
 refine (rd _ _ _ (N1b.out.alloc_ _) (N2.out.alloc_ _)).mono ?_
 rintro e w3 ⟨v3, rfl, hf, hb3⟩
 have st : Steps _ w3 := hb3
 have Bn : Below w.heap.size w w3 := belowA st
 have na := oa.stq st
 have nb := ob.stq st
 have nc := oc.stq st
 have nd := od.stq st
 have nr := or.stq st
 have nx := ox.stq st
 have oy : Blk w3 (w2.heap.size) 25 #[.bool g2, .slice s2 k2 c2] := Blk.stepsA st
 clear B oa ob oc od or ox ca0 ca1 fa la cb0 cb1 fb lb cc0 cc1 fc lc cd0 cd1 fd ld cr0 cr1 cr2 cr3 fr lr cx0 cx1 fx lx
 clear st
 have B := Bn
 clear Bn
 have oa := na
 clear na
 obtain ⟨ca0, ca1, fa, la⟩ := oa.s1
 have ob := nb
 clear nb
 obtain ⟨cb0, cb1, fb, lb⟩ := ob.s1
 have oc := nc
 clear nc
 obtain ⟨cc0, cc1, fc, lc⟩ := oc.s1
 have od := nd
 clear nd
 obtain ⟨cd0, cd1, fd, ld⟩ := od.s1
 have or := nr
 clear nr
 obtain ⟨cr0, cr1, cr2, cr3, fr, lr⟩ := or.s3
 have ox := nx
 clear nx
 obtain ⟨cx0, cx1, fx, lx⟩ := ox.s1
 obtain ⟨cy0, cy1, fy, ly⟩ := oy.s1
 clear rd N1b N2
 obtain ⟨h1, h2, h3, h4, h5, h6, h7, h8, rfl⟩ := hf.shape
 have HF := Hid.mk_ hf
 clear hf
 dsimp only; repeat' (first | go_values | go_skip | go_guarded | go_step | go_upon)
 refine bodyPost_ret (by simp [results, Tryz.results80, go_sem, ca0, ca1, fa, la, cb0, cb1, fb, lb, cc0, cc1, fc, lc, cd0, cd1, fd, ld, cr0, cr1, cr2, cr3, fr, lr, cx0, cx1, fx, lx, cy0, cy1, fy, ly]; rfl) rfl ?_
 exact ⟨_, rfl, HF.out.only or rfl ((Only.refl _ _).set.set.set.set), belowB⟩
theorem radded_more {va vb : Value} {p q x y : Int} (w : World) (ha : Frc w va p q) (hb : Frc w vb x y) (f1 : fits (p * y)) (f2 : fits (x * q)) (f3 : fits (q * y)) (f4 : fits (p * y + x * q)) (f5 : fits (p * y - x * q)) :
  Calls Tryz.prog 106 #[va, vb, .bool false] w fun e w' => ∃ v, e = .returned (.tuple #[v, .int .i64 0]) ∧ Frc w' v (rdP (p * y + x * q) (q * y)) (rdQ (p * y + x * q) (q * y)) ∧ Steps w w' := by
 have fa := ha.fit
 have fb := hb.fit
 obtain ⟨ap, np, cp, aq, nq, cq, rfl, hp, hq⟩ := ha.nums
 obtain ⟨bp_, mp, dp, bq, mq, dq, rfl, kp, kq⟩ := hb.nums
 have m1 := fun (w' : World) (h : Steps w w') => rmul_fits w' (hp.steps h) (kq.steps h) fa.1 fb.2.1 f1
 have m2 := fun (w' : World) (h : Steps w w') => rmul_fits w' (kp.steps h) (hq.steps h) fb.1 fa.2.1 f2
 have m3 := fun (w' : World) (h : Steps w w') => rmul_fits w' (hq.steps h) (kq.steps h) fa.2.1 fb.2.1 f3
 have h0 : q * y ≠ 0 := by have := Int.mul_pos fa.2.2 fb.2.2; omega
 obtain ⟨sgx, hgx⟩ : ∃ b, decide (p < 0) = b := ⟨_, rfl⟩
 obtain ⟨sgy, hgy⟩ : ∃ b, decide (x < 0) = b := ⟨_, rfl⟩
 rw [hgx] at m1 ⊢
 rw [hgy] at m2 ⊢
 obtain ⟨X, hX⟩ : ∃ X, p * y = X := ⟨_, rfl⟩
 obtain ⟨Y, hY⟩ : ∃ Y, x * q = Y := ⟨_, rfl⟩
 obtain ⟨Z, hZ⟩ : ∃ Z, q * y = Z := ⟨_, rfl⟩
 rw [hX] at f1 f4 f5 m1 ⊢
 rw [hY] at f2 f4 f5 m2 ⊢
 rw [hZ] at f3 h0 m3 ⊢
 have ad : ∀ w' v1 v2, Num w' v1 X → Num w' v2 Y → Calls Tryz.prog 122 #[v1, v2] w' fun e w2 => ∃ v, e = .returned (.tuple #[v, .int .i64 0]) ∧ Num w2 v (X + Y) ∧ Steps w' w2 := fun w' v1 v2 h1 h2 => radd_fits w' h1 h2 f1 f2 f4
 have rd : ∀ w' v1 v2, Num w' v1 (X + Y) → Num w' v2 Z → Calls Tryz.prog 109 #[v1, v2] w' fun e w2 => ∃ v, e = .returned v ∧ Frc w2 v (rdP (X + Y) Z) (rdQ (X + Y) Z) ∧ Steps w' w2 := fun w' v1 v2 h1 h2 => rreduced w' h1 h2 f4 f3 h0
 clear hp hq kp kq fa fb ha hb f1 f2 f3 f4 f5 h0 hX hY hZ hgx hgy
 go_enter Tryz.func106, Tryz.ntmps106
 go_wp2_with fail
 refine (m1 _ belowB).mono ?_
 rintro e w1 ⟨v1, rfl, hv1, hb1⟩
 have st : Steps _ w1 := hb1
 have Bn : Below w.heap.size w w1 := belowA st
 have oa : Blk w1 (w.heap.size) 27 #[.bool sgx, .slice ap np cp, .bool false, .slice aq nq cq] := Blk.stepsA st
 have ob : Blk w1 (w.heap.size + 1) 27 #[.bool sgy, .slice bp_ mp dp, .bool false, .slice bq mq dq] := Blk.stepsA st
 have or : Blk w1 (w.heap.size + 1 + 1) 27 #[.bool false, .slice none 0 0, .bool false, .slice none 0 0] := Blk.stepsA st
 clear st
 have B := Bn
 clear Bn
 obtain ⟨ca0, ca1, ca2, ca3, fa, la⟩ := oa.s3
 obtain ⟨cb0, cb1, cb2, cb3, fb, lb⟩ := ob.s3
 obtain ⟨cr0, cr1, cr2, cr3, fr, lr⟩ := or.s3
 clear m1
 obtain ⟨gx, sx, kx, ex, rfl⟩ := hv1.shape
 have Nx := Hid.mk_ hv1
 clear hv1
 have zx : w.heap.size + 1 + 1 < w1.heap.size := or.lt
 go_wp2_with fail
 refine (m2 _ belowB).mono ?_
 rintro e w2 ⟨v2, rfl, hv2, hb2⟩
 have st : Steps _ w2 := hb2
 have Bn : Below w.heap.size w w2 := belowA st
 have na := oa.stq st
 have nb := ob.stq st
 have nr := or.stq st
 have ox : Blk w2 (w1.heap.size) 25 #[.bool gx, .slice sx kx ex] := Blk.stepsA st
 clear B oa ob or ca0 ca1 ca2 ca3 fa la cb0 cb1 cb2 cb3 fb lb cr0 cr1 cr2 cr3 fr lr
 clear st
 have B := Bn
 clear Bn
 have oa := na
 clear na
 obtain ⟨ca0, ca1, ca2, ca3, fa, la⟩ := oa.s3
 have ob := nb
 clear nb
 obtain ⟨cb0, cb1, cb2, cb3, fb, lb⟩ := ob.s3
 have or := nr
 clear nr
 obtain ⟨cr0, cr1, cr2, cr3, fr, lr⟩ := or.s3
 obtain ⟨cx0, cx1, fx, lx⟩ := ox.s1
 clear m2
 have Nx2 := Hid.mk_ ((Nx.out.alloc_ (.cells #[.bool gx, .slice sx kx ex] 25)).steps hb2)
 clear Nx
 obtain ⟨gy, sy, ky, ey, rfl⟩ := hv2.shape
 have Ny := Hid.mk_ hv2
 clear hv2
 have zy : w1.heap.size < w2.heap.size := ox.lt
 go_wp2_with fail
 refine (m3 _ belowB).mono ?_
 rintro e w3 ⟨v3, rfl, hv3, hb3⟩
 have st : Steps _ w3 := hb3
 have Bn : Below w.heap.size w w3 := belowA st
 have na := oa.stq st
 have nb := ob.stq st
 have nr := or.stq st
 have nx := ox.stq st
 have oy : Blk w3 (w2.heap.size) 25 #[.bool gy, .slice sy ky ey] := Blk.stepsA st
 clear B oa ob or ox ca0 ca1 ca2 ca3 fa la cb0 cb1 cb2 cb3 fb lb cr0 cr1 cr2 cr3 fr lr cx0 cx1 fx lx
 clear st
 have B := Bn
 clear Bn
 have oa := na
 clear na
 obtain ⟨ca0, ca1, ca2, ca3, fa, la⟩ := oa.s3
 have ob := nb
 clear nb
 obtain ⟨cb0, cb1, cb2, cb3, fb, lb⟩ := ob.s3
 have or := nr
 clear nr
 obtain ⟨cr0, cr1, cr2, cr3, fr, lr⟩ := or.s3
 have ox := nx
 clear nx
 obtain ⟨cx0, cx1, fx, lx⟩ := ox.s1
 obtain ⟨cy0, cy1, fy, ly⟩ := oy.s1
 clear m3
 have Nx3 := Hid.mk_ ((Nx2.out.alloc_ (.cells #[.bool gy, .slice sy ky ey] 25)).steps hb3)
 have Ny3 := Hid.mk_ ((Ny.out.alloc_ (.cells #[.bool gy, .slice sy ky ey] 25)).steps hb3)
 clear Nx2 Ny
 obtain ⟨gd, sd, kd, ed, rfl⟩ := hv3.shape
 have Nd := Hid.mk_ hv3
 clear hv3
 have zd : w2.heap.size < w3.heap.size := oy.lt
 go_wp2_with fail
 refine (ad _ _ _ (Nx3.out.alloc_ _) (Ny3.out.alloc_ _)).mono ?_
 rintro e w4 ⟨v4, rfl, hv4, hb4⟩
 have st : Steps _ w4 := hb4
 have Bn : Below w.heap.size w w4 := belowA st
 have na := oa.stq st
 have nb := ob.stq st
 have nr := or.stq st
 have nx := ox.stq st
 have ny := oy.stq st
 have od : Blk w4 (w3.heap.size) 25 #[.bool gd, .slice sd kd ed] := Blk.stepsA st
 clear B oa ob or ox oy ca0 ca1 ca2 ca3 fa la cb0 cb1 cb2 cb3 fb lb cr0 cr1 cr2 cr3 fr lr cx0 cx1 fx lx cy0 cy1 fy ly
 clear st
 have B := Bn
 clear Bn
 have oa := na
 clear na
 obtain ⟨ca0, ca1, ca2, ca3, fa, la⟩ := oa.s3
 have ob := nb
 clear nb
 obtain ⟨cb0, cb1, cb2, cb3, fb, lb⟩ := ob.s3
 have or := nr
 clear nr
 obtain ⟨cr0, cr1, cr2, cr3, fr, lr⟩ := or.s3
 have ox := nx
 clear nx
 obtain ⟨cx0, cx1, fx, lx⟩ := ox.s1
 have oy := ny
 clear ny
 obtain ⟨cy0, cy1, fy, ly⟩ := oy.s1
 obtain ⟨cd0, cd1, fd, ld⟩ := od.s1
 clear ad
 have Nd4 := Hid.mk_ ((Nd.out.alloc_ (.cells #[.bool gd, .slice sd kd ed] 25)).steps hb4)
 clear Nd
 clear Nx3 Ny3
 obtain ⟨gn, sn, kn, en, rfl⟩ := hv4.shape
 have Nn := Hid.mk_ hv4
 clear hv4
 have zn : w3.heap.size < w4.heap.size := od.lt
 go_wp2_with fail
 refine (rd _ _ _ (Nn.out.alloc_ _) (Nd4.out.alloc_ _)).mono ?_
 rintro e w5 ⟨v6, rfl, hf, hb5⟩
 have st : Steps _ w5 := hb5
 have Bn : Below w.heap.size w w5 := belowA st
 have na := oa.stq st
 have nb := ob.stq st
 have nr := or.stq st
 have nx := ox.stq st
 have ny := oy.stq st
 have nd := od.stq st
 have on : Blk w5 (w4.heap.size) 25 #[.bool gn, .slice sn kn en] := Blk.stepsA st
 clear B oa ob or ox oy od ca0 ca1 ca2 ca3 fa la cb0 cb1 cb2 cb3 fb lb cr0 cr1 cr2 cr3 fr lr cx0 cx1 fx lx cy0 cy1 fy ly cd0 cd1 fd ld
 clear st
 have B := Bn
 clear Bn
 have oa := na
 clear na
 obtain ⟨ca0, ca1, ca2, ca3, fa, la⟩ := oa.s3
 have ob := nb
 clear nb
 obtain ⟨cb0, cb1, cb2, cb3, fb, lb⟩ := ob.s3
 have or := nr
 clear nr
 obtain ⟨cr0, cr1, cr2, cr3, fr, lr⟩ := or.s3
 have ox := nx
 clear nx
 obtain ⟨cx0, cx1, fx, lx⟩ := ox.s1
 have oy := ny
 clear ny
 obtain ⟨cy0, cy1, fy, ly⟩ := oy.s1
 have od := nd
 clear nd
 obtain ⟨cd0, cd1, fd, ld⟩ := od.s1
 obtain ⟨cn0, cn1, fn, ln⟩ := on.s1
 clear rd Nn Nd4
 obtain ⟨h1, h2, h3, h4, h5, h6, h7, h8, rfl⟩ := hf.shape
 have HF := Hid.mk_ hf
 clear hf
 dsimp only; repeat' (first | go_values | go_skip | go_guarded | go_step | go_upon)
 refine bodyPost_ret (by simp [results, Tryz.results106, go_sem, ca0, ca1, ca2, ca3, fa, la, cb0, cb1, cb2, cb3, fb, lb, cr0, cr1, cr2, cr3, fr, lr, cx0, cx1, fx, lx, cy0, cy1, fy, ly, cd0, cd1, fd, ld, cn0, cn1, fn, ln]; rfl) rfl ?_
 exact ⟨_, rfl, HF.out.only or rfl ((Only.refl _ _).set.set.set.set), belowB⟩
theorem radded_less {va vb : Value} {p q x y : Int} (w : World) (ha : Frc w va p q) (hb : Frc w vb x y) (f1 : fits (p * y)) (f2 : fits (x * q)) (f3 : fits (q * y)) (f4 : fits (p * y + x * q)) (f5 : fits (p * y - x * q)) :
  Calls Tryz.prog 106 #[va, vb, .bool true] w fun e w' => ∃ v, e = .returned (.tuple #[v, .int .i64 0]) ∧ Frc w' v (rdP (p * y - x * q) (q * y)) (rdQ (p * y - x * q) (q * y)) ∧ Steps w w' := by
 have fa := ha.fit
 have fb := hb.fit
 obtain ⟨ap, np, cp, aq, nq, cq, rfl, hp, hq⟩ := ha.nums
 obtain ⟨bp_, mp, dp, bq, mq, dq, rfl, kp, kq⟩ := hb.nums
 have m1 := fun (w' : World) (h : Steps w w') => rmul_fits w' (hp.steps h) (kq.steps h) fa.1 fb.2.1 f1
 have m2 := fun (w' : World) (h : Steps w w') => rmul_fits w' (kp.steps h) (hq.steps h) fb.1 fa.2.1 f2
 have m3 := fun (w' : World) (h : Steps w w') => rmul_fits w' (hq.steps h) (kq.steps h) fa.2.1 fb.2.1 f3
 have h0 : q * y ≠ 0 := by have := Int.mul_pos fa.2.2 fb.2.2; omega
 obtain ⟨sgx, hgx⟩ : ∃ b, decide (p < 0) = b := ⟨_, rfl⟩
 obtain ⟨sgy, hgy⟩ : ∃ b, decide (x < 0) = b := ⟨_, rfl⟩
 rw [hgx] at m1 ⊢
 rw [hgy] at m2 ⊢
 obtain ⟨X, hX⟩ : ∃ X, p * y = X := ⟨_, rfl⟩
 obtain ⟨Y, hY⟩ : ∃ Y, x * q = Y := ⟨_, rfl⟩
 obtain ⟨Z, hZ⟩ : ∃ Z, q * y = Z := ⟨_, rfl⟩
 rw [hX] at f1 f4 f5 m1 ⊢
 rw [hY] at f2 f4 f5 m2 ⊢
 rw [hZ] at f3 h0 m3 ⊢
 have ad : ∀ w' v1 v2, Num w' v1 X → Num w' v2 Y → Calls Tryz.prog 122 #[v1, v2] w' fun e w2 => ∃ v, e = .returned (.tuple #[v, .int .i64 0]) ∧ Num w2 v (X + Y) ∧ Steps w' w2 := fun w' v1 v2 h1 h2 => radd_fits w' h1 h2 f1 f2 f4
 have sb : ∀ w' v1 v2, Num w' v1 X → Num w' v2 Y → Calls Tryz.prog 123 #[v1, v2] w' fun e w2 => ∃ v, e = .returned (.tuple #[v, .int .i64 0]) ∧ Num w2 v (X - Y) ∧ Steps w' w2 := fun w' v1 v2 h1 h2 => rsub_fits w' h1 h2 f1 f2 f5
 have rd : ∀ w' v1 v2, Num w' v1 (X - Y) → Num w' v2 Z → Calls Tryz.prog 109 #[v1, v2] w' fun e w2 => ∃ v, e = .returned v ∧ Frc w2 v (rdP (X - Y) Z) (rdQ (X - Y) Z) ∧ Steps w' w2 := fun w' v1 v2 h1 h2 => rreduced w' h1 h2 f5 f3 h0
 clear hp hq kp kq fa fb ha hb f1 f2 f3 f4 f5 h0 hX hY hZ hgx hgy
 go_enter Tryz.func106, Tryz.ntmps106
 go_wp2_with fail
 refine (m1 _ belowB).mono ?_
 rintro e w1 ⟨v1, rfl, hv1, hb1⟩
 have st : Steps _ w1 := hb1
 have Bn : Below w.heap.size w w1 := belowA st
 have oa : Blk w1 (w.heap.size) 27 #[.bool sgx, .slice ap np cp, .bool false, .slice aq nq cq] := Blk.stepsA st
 have ob : Blk w1 (w.heap.size + 1) 27 #[.bool sgy, .slice bp_ mp dp, .bool false, .slice bq mq dq] := Blk.stepsA st
 have or : Blk w1 (w.heap.size + 1 + 1) 27 #[.bool false, .slice none 0 0, .bool false, .slice none 0 0] := Blk.stepsA st
 clear st
 have B := Bn
 clear Bn
 obtain ⟨ca0, ca1, ca2, ca3, fa, la⟩ := oa.s3
 obtain ⟨cb0, cb1, cb2, cb3, fb, lb⟩ := ob.s3
 obtain ⟨cr0, cr1, cr2, cr3, fr, lr⟩ := or.s3
 clear m1
 obtain ⟨gx, sx, kx, ex, rfl⟩ := hv1.shape
 have Nx := Hid.mk_ hv1
 clear hv1
 have zx : w.heap.size + 1 + 1 < w1.heap.size := or.lt
 go_wp2_with fail
 refine (m2 _ belowB).mono ?_
 rintro e w2 ⟨v2, rfl, hv2, hb2⟩
 have st : Steps _ w2 := hb2
 have Bn : Below w.heap.size w w2 := belowA st
 have na := oa.stq st
 have nb := ob.stq st
 have nr := or.stq st
 have ox : Blk w2 (w1.heap.size) 25 #[.bool gx, .slice sx kx ex] := Blk.stepsA st
 clear B oa ob or ca0 ca1 ca2 ca3 fa la cb0 cb1 cb2 cb3 fb lb cr0 cr1 cr2 cr3 fr lr
 clear st
 have B := Bn
 clear Bn
 have oa := na
 clear na
 obtain ⟨ca0, ca1, ca2, ca3, fa, la⟩ := oa.s3
 have ob := nb
 clear nb
 obtain ⟨cb0, cb1, cb2, cb3, fb, lb⟩ := ob.s3
 have or := nr
 clear nr
 obtain ⟨cr0, cr1, cr2, cr3, fr, lr⟩ := or.s3
 obtain ⟨cx0, cx1, fx, lx⟩ := ox.s1
 clear m2
 have Nx2 := Hid.mk_ ((Nx.out.alloc_ (.cells #[.bool gx, .slice sx kx ex] 25)).steps hb2)
 clear Nx
 obtain ⟨gy, sy, ky, ey, rfl⟩ := hv2.shape
 have Ny := Hid.mk_ hv2
 clear hv2
 have zy : w1.heap.size < w2.heap.size := ox.lt
 go_wp2_with fail
 refine (m3 _ belowB).mono ?_
 rintro e w3 ⟨v3, rfl, hv3, hb3⟩
 have st : Steps _ w3 := hb3
 have Bn : Below w.heap.size w w3 := belowA st
 have na := oa.stq st
 have nb := ob.stq st
 have nr := or.stq st
 have nx := ox.stq st
 have oy : Blk w3 (w2.heap.size) 25 #[.bool gy, .slice sy ky ey] := Blk.stepsA st
 clear B oa ob or ox ca0 ca1 ca2 ca3 fa la cb0 cb1 cb2 cb3 fb lb cr0 cr1 cr2 cr3 fr lr cx0 cx1 fx lx
 clear st
 have B := Bn
 clear Bn
 have oa := na
 clear na
 obtain ⟨ca0, ca1, ca2, ca3, fa, la⟩ := oa.s3
 have ob := nb
 clear nb
 obtain ⟨cb0, cb1, cb2, cb3, fb, lb⟩ := ob.s3
 have or := nr
 clear nr
 obtain ⟨cr0, cr1, cr2, cr3, fr, lr⟩ := or.s3
 have ox := nx
 clear nx
 obtain ⟨cx0, cx1, fx, lx⟩ := ox.s1
 obtain ⟨cy0, cy1, fy, ly⟩ := oy.s1
 clear m3
 have Nx3 := Hid.mk_ ((Nx2.out.alloc_ (.cells #[.bool gy, .slice sy ky ey] 25)).steps hb3)
 have Ny3 := Hid.mk_ ((Ny.out.alloc_ (.cells #[.bool gy, .slice sy ky ey] 25)).steps hb3)
 clear Nx2 Ny
 obtain ⟨gd, sd, kd, ed, rfl⟩ := hv3.shape
 have Nd := Hid.mk_ hv3
 clear hv3
 have zd : w2.heap.size < w3.heap.size := oy.lt
 go_wp2_with fail
 refine (ad _ _ _ (Nx3.out.alloc_ _) (Ny3.out.alloc_ _)).mono ?_
 rintro e w4 ⟨v4, rfl, hv4, hb4⟩
 have st : Steps _ w4 := hb4
 have Bn : Below w.heap.size w w4 := belowA st
 have na := oa.stq st
 have nb := ob.stq st
 have nr := or.stq st
 have nx := ox.stq st
 have ny := oy.stq st
 have od : Blk w4 (w3.heap.size) 25 #[.bool gd, .slice sd kd ed] := Blk.stepsA st
 clear B oa ob or ox oy ca0 ca1 ca2 ca3 fa la cb0 cb1 cb2 cb3 fb lb cr0 cr1 cr2 cr3 fr lr cx0 cx1 fx lx cy0 cy1 fy ly
 clear st
 have B := Bn
 clear Bn
 have oa := na
 clear na
 obtain ⟨ca0, ca1, ca2, ca3, fa, la⟩ := oa.s3
 have ob := nb
 clear nb
 obtain ⟨cb0, cb1, cb2, cb3, fb, lb⟩ := ob.s3
 have or := nr
 clear nr
 obtain ⟨cr0, cr1, cr2, cr3, fr, lr⟩ := or.s3
 have ox := nx
 clear nx
 obtain ⟨cx0, cx1, fx, lx⟩ := ox.s1
 have oy := ny
 clear ny
 obtain ⟨cy0, cy1, fy, ly⟩ := oy.s1
 obtain ⟨cd0, cd1, fd, ld⟩ := od.s1
 clear ad
 have Nd4 := Hid.mk_ ((Nd.out.alloc_ (.cells #[.bool gd, .slice sd kd ed] 25)).steps hb4)
 clear Nd
 have Nx4 := Hid.mk_ ((Nx3.out.alloc_ (.cells #[.bool gd, .slice sd kd ed] 25)).steps hb4)
 have Ny4 := Hid.mk_ ((Ny3.out.alloc_ (.cells #[.bool gd, .slice sd kd ed] 25)).steps hb4)
 clear Nx3 Ny3
 obtain ⟨gn, sn, kn, en, rfl⟩ := hv4.shape
 have Nn := Hid.mk_ hv4
 clear hv4
 have zn : w3.heap.size < w4.heap.size := od.lt
 go_wp2_with fail
 refine (sb _ _ _ (Nx4.out.alloc_ _) (Ny4.out.alloc_ _)).mono ?_
 rintro e w5 ⟨v5, rfl, hv5, hb5⟩
 have st : Steps _ w5 := hb5
 have Bn : Below w.heap.size w w5 := belowA st
 have na := oa.stq st
 have nb := ob.stq st
 have nr := or.stq st
 have nx := ox.stq st
 have ny := oy.stq st
 have nd := od.stq st
 have on : Blk w5 (w4.heap.size) 25 #[.bool gn, .slice sn kn en] := Blk.stepsA st
 clear B oa ob or ox oy od ca0 ca1 ca2 ca3 fa la cb0 cb1 cb2 cb3 fb lb cr0 cr1 cr2 cr3 fr lr cx0 cx1 fx lx cy0 cy1 fy ly cd0 cd1 fd ld
 clear st
 have B := Bn
 clear Bn
 have oa := na
 clear na
 obtain ⟨ca0, ca1, ca2, ca3, fa, la⟩ := oa.s3
 have ob := nb
 clear nb
 obtain ⟨cb0, cb1, cb2, cb3, fb, lb⟩ := ob.s3
 have or := nr
 clear nr
 obtain ⟨cr0, cr1, cr2, cr3, fr, lr⟩ := or.s3
 have ox := nx
 clear nx
 obtain ⟨cx0, cx1, fx, lx⟩ := ox.s1
 have oy := ny
 clear ny
 obtain ⟨cy0, cy1, fy, ly⟩ := oy.s1
 have od := nd
 clear nd
 obtain ⟨cd0, cd1, fd, ld⟩ := od.s1
 obtain ⟨cn0, cn1, fn, ln⟩ := on.s1
 clear sb Nx4 Ny4
 obtain ⟨gm, sm, km, em, rfl⟩ := hv5.shape
 have Nm := Hid.mk_ hv5
 clear hv5
 have on' := on
 have Nd5 := Hid.mk_ ((Nd4.out.alloc_ (.cells #[.bool gn, .slice sn kn en] 25)).steps hb5)
 clear Nd4 Nn
 go_wp2_with fail
 refine (rd _ _ _ (Nm.out.put2 on') (Nd5.out.put2 on')).mono ?_
 rintro e w6 ⟨v6, rfl, hf, hb6⟩
 have st : Steps _ w6 := hb6
 have Bn : Below w.heap.size w w6 := belowA st
 have na := oa.stq st
 have nb := ob.stq st
 have nr := or.stq st
 have nx := ox.stq st
 have ny := oy.stq st
 have nd := od.stq st
 replace on : Blk w6 (w4.heap.size) 25 #[.bool gm, .slice sm km em] := Blk.stepsA st
 clear B oa ob or ox oy od ca0 ca1 ca2 ca3 fa la cb0 cb1 cb2 cb3 fb lb cr0 cr1 cr2 cr3 fr lr cx0 cx1 fx lx cy0 cy1 fy ly cd0 cd1 fd ld cn0 cn1 fn ln
 clear st
 have B := Bn
 clear Bn
 have oa := na
 clear na
 obtain ⟨ca0, ca1, ca2, ca3, fa, la⟩ := oa.s3
 have ob := nb
 clear nb
 obtain ⟨cb0, cb1, cb2, cb3, fb, lb⟩ := ob.s3
 have or := nr
 clear nr
 obtain ⟨cr0, cr1, cr2, cr3, fr, lr⟩ := or.s3
 have ox := nx
 clear nx
 obtain ⟨cx0, cx1, fx, lx⟩ := ox.s1
 have oy := ny
 clear ny
 obtain ⟨cy0, cy1, fy, ly⟩ := oy.s1
 have od := nd
 clear nd
 obtain ⟨cd0, cd1, fd, ld⟩ := od.s1
 obtain ⟨cn0, cn1, fn, ln⟩ := on.s1
 clear rd
 obtain ⟨h1, h2, h3, h4, h5, h6, h7, h8, rfl⟩ := hf.shape
 have HF := Hid.mk_ hf
 clear hf
 dsimp only; repeat' (first | go_values | go_skip | go_guarded | go_step | go_upon)
 refine bodyPost_ret (by simp [results, Tryz.results106, go_sem, ca0, ca1, ca2, ca3, fa, la, cb0, cb1, cb2, cb3, fb, lb, cr0, cr1, cr2, cr3, fr, lr, cx0, cx1, fx, lx, cy0, cy1, fy, ly, cd0, cd1, fd, ld, cn0, cn1, fn, ln]; rfl) rfl ?_
 exact ⟨_, rfl, HF.out.only or rfl ((Only.refl _ _).set.set.set.set), belowB⟩
def Bad (w : World) (v : Value) : Prop := ∃ gx sa gy sb la lb, v = .agg #[.bool gx, sa, .bool gy, sb] ∧ Lim w sa la ∧ Lim w sb lb ∧ ¬ validF gx la gy lb
theorem Bad.keeps {w w' : World} {v : Value} (h : Bad w v) (k : Keeps w w') : Bad w' v := by
 obtain ⟨gx, sa, gy, sb, la, lb, e, l1, l2, hv⟩ := h
 exact ⟨gx, sa, gy, sb, la, lb, e, k _ _ l1, k _ _ l2, hv⟩
theorem Bad.shape {w : World} {v : Value} (h : Bad w v) : ∃ a s n c b t m d, v = .agg #[.bool a, .slice s n c, .bool b, .slice t m d] := by
 obtain ⟨gx, sa, gy, sb, la, lb, e, l1, l2, hv⟩ := h
 obtain ⟨s, c, rfl⟩ := l1.shape
 obtain ⟨t, d, rfl⟩ := l2.shape
 exact ⟨_, _, _, _, _, _, _, _, e⟩
theorem raw_cases {w : World} {gx gy : Bool} {sa sb : Value} {la lb : List Int} (ha : Lim w sa la) (hb : Lim w sb lb) : (∃ r, FR w (.agg #[.bool gx, sa, .bool gy, sb]) r ∧ absN r.num ≤ bp la.length ∧ (r.den : Int) ≤ bp lb.length) ∨ Bad w (.agg #[.bool gx, sa, .bool gy, sb]) := by
 by_cases h : validF gx la gy lb
 ·
  left
  obtain ⟨r, e1, e2, hr⟩ := (Frc.of_valid ha hb h).fr
  have h1 := lval_lt ha.ok
  have h2 := lval_lt hb.ok
  refine ⟨r, hr, ?_, by rw [e2]; omega⟩
  rw [e1, absN_zv gx (lval_nonneg ha.ok)]; omega
 · right; exact ⟨gx, sa, gy, sb, la, lb, rfl, ha, hb, h⟩
theorem rfcheck_q {v : Value} {r : Rat} (w : World) (h : FR w v r) : Calls Tryz.prog 108 #[v] w fun e w' => e = .returned (.int .i64 0) ∧ Steps w w' := rfcheck_ok w h
theorem rfcheck_bad {v : Value} (w : World) (h : Bad w v) : Calls Tryz.prog 108 #[v] w fun e w' => e = .returned (.int .i64 8) ∧ Steps w w' := by
 obtain ⟨gx, sa, gy, sb, la, lb, rfl, l1, l2, hv⟩ := h
 have := rfcheck gx gy w l1 l2
 rw [errC_eq, if_neg hv] at this
 exact this
theorem rfboth_q {va vb : Value} {r s : Rat} (w : World) (ha : FR w va r) (hb : FR w vb s) :
  Calls Tryz.prog 79 #[va, vb] w fun e w' => e = .returned (.int .i64 0) ∧ Steps w w' := by
 obtain ⟨a1, a2, a3, a4, a5, a6, a7, a8, rfl⟩ := ha.shape
 obtain ⟨b1, b2, b3, b4, b5, b6, b7, b8, rfl⟩ := hb.shape
 have Fa := Hid.mk_ ha
 clear ha
 have Fb := Hid.mk_ hb
 clear hb
 go_enter Tryz.func79, Tryz.ntmps79
 go_wp2_with fail
 refine (rfcheck_q _ (Fa.out.keeps keepsB)).mono ?_
 rintro e w1 ⟨rfl, hb1⟩
 have st : Steps _ w1 := hb1
 have Bn : Below w.heap.size w w1 := belowA st
 have kp : Keeps w w1 := Keeps.then_ keepsB st
 have oa : Blk w1 (w.heap.size) 27 #[.bool a1, .slice a2 a3 a4, .bool a5, .slice a6 a7 a8] := Blk.stepsK st
 have ob : Blk w1 (w.heap.size + 1) 27 #[.bool b1, .slice b2 b3 b4, .bool b5, .slice b6 b7 b8] := Blk.stepsK st
 clear st
 have B := Bn
 clear Bn
 replace Fa := Hid.mk_ (Fa.out.keeps kp)
 replace Fb := Hid.mk_ (Fb.out.keeps kp)
 clear kp
 obtain ⟨ca0, ca1, ca2, ca3, fa, la⟩ := oa.s3
 obtain ⟨cb0, cb1, cb2, cb3, fb, lb⟩ := ob.s3
 go_wp2_with fail
 refine (rfcheck_q _ (Fb.out.keeps keepsB)).mono ?_
 rintro e w2 ⟨rfl, hb2⟩
 have st : Steps _ w2 := hb2
 have Bn : Below w.heap.size w w2 := belowA st
 have kp : Keeps w1 w2 := Keeps.then_ keepsB st
 have na := oa.stp st
 have nb := ob.stp st
 clear B oa ob ca0 ca1 ca2 ca3 fa la cb0 cb1 cb2 cb3 fb lb
 clear st
 have B := Bn
 clear Bn
 replace Fa := Hid.mk_ (Fa.out.keeps kp)
 replace Fb := Hid.mk_ (Fb.out.keeps kp)
 clear kp
 have oa := na
 clear na
 obtain ⟨ca0, ca1, ca2, ca3, fa, la⟩ := oa.s3
 have ob := nb
 clear nb
 obtain ⟨cb0, cb1, cb2, cb3, fb, lb⟩ := ob.s3
 go_wp2
 go_returns
 exact ⟨rfl, belowB⟩
theorem rMulQ {va vb : Value} {r s : Rat} {i j : Nat} (w : World) (ha : FR w va r) (hb : FR w vb s) (hr : sz r i) (hs : sz s j) (hk : i + j ≤ 4095) :
  Calls Tryz.prog 44 #[va, vb] w fun e w' => ∃ v, e = .returned (.tuple #[v, .int .i64 0]) ∧ FR w' v (r * s) ∧ Steps w w' := by
 have fa := ha.fit
 have fb := hb.fit
 have bo := fun (w' : World) (h : Steps w w') => rfboth_q w' (ha.steps h) (hb.steps h)
 obtain ⟨a2, a3, a4, a6, a7, a8, rfl, na, da, -⟩ := ha.nums
 obtain ⟨b2, b3, b4, b6, b7, b8, rfl, nb', db, -⟩ := hb.nums
 have d1 : absN (r.den : Int) ≤ bp i := by rw [den_abs]; exact hr.2
 have d2 : absN (s.den : Int) ≤ bp j := by rw [den_abs]; exact hs.2
 have g1 := fits_bp (absN_mul_le hr.1 hs.1) hk
 have g2 := fits_bp (absN_mul_le d1 d2) hk
 have pr : ∀ w', Steps w w' → Calls Tryz.prog 80 #[.agg #[.bool (decide (r < 0)), .slice a2 a3 a4], .agg #[.bool (decide (s < 0)), .slice b2 b3 b4], .agg #[.bool false, .slice a6 a7 a8], .agg #[.bool false, .slice b6 b7 b8]] w' fun e w2 => ∃ v, e = .returned (.tuple #[v, .int .i64 0]) ∧ FR w2 v (r * s) ∧ Steps w' w2 := fun w' h => by
  refine (rproduct w' (na.steps h) (nb'.steps h) (da.steps h) (db.steps h) fa.1 fb.1 fa.2 fb.2 g1 g2 (dens_ne r s)).mono ?_
  rintro e w2 ⟨v, rfl, h1, h2⟩
  have h3 := FR.of_rd (dens_ne r s) h1
  rw [mul_frac] at h3
  exact ⟨v, rfl, h3, h2⟩
 obtain ⟨ga, hga⟩ : ∃ g, decide (r < 0) = g := ⟨_, rfl⟩
 obtain ⟨gb, hgb⟩ : ∃ g, decide (s < 0) = g := ⟨_, rfl⟩
 rw [hga, hgb] at pr bo ⊢
 clear hga hgb na da nb' db d1 d2 g1 g2 fa fb ha hb hr hs hk
 go_enter Tryz.func44, Tryz.ntmps44
 go_wp2_with fail
 refine (bo _ belowB).mono ?_
 rintro e w1 ⟨rfl, hb1⟩
 have st : Steps _ w1 := hb1
 have Bn : Below w.heap.size w w1 := belowA st
 have oa : Blk w1 (w.heap.size) 27 #[.bool ga, .slice a2 a3 a4, .bool false, .slice a6 a7 a8] := Blk.stepsK st
 have ob : Blk w1 (w.heap.size + 1) 27 #[.bool gb, .slice b2 b3 b4, .bool false, .slice b6 b7 b8] := Blk.stepsK st
 have or : Blk w1 (w.heap.size + 1 + 1) 27 #[.bool false, .slice none 0 0, .bool false, .slice none 0 0] := Blk.stepsK st
 clear st
 have B := Bn
 clear Bn
 obtain ⟨ca0, ca1, ca2, ca3, fa, la⟩ := oa.s3
 obtain ⟨cb0, cb1, cb2, cb3, fb, lb⟩ := ob.s3
 obtain ⟨cr0, cr1, cr2, cr3, fr, lr⟩ := or.s3
 clear bo
 go_wp2_with fail
 refine (pr _ B).mono ?_
 rintro e w2 ⟨vq, rfl, hvq, hb2⟩
 have st : Steps _ w2 := hb2
 have Bn : Below w.heap.size w w2 := belowA st
 have na := oa.stp st
 have nb := ob.stp st
 have nr := or.stp st
 clear B oa ob or ca0 ca1 ca2 ca3 fa la cb0 cb1 cb2 cb3 fb lb cr0 cr1 cr2 cr3 fr lr
 clear st
 have B := Bn
 clear Bn
 have oa := na
 clear na
 obtain ⟨ca0, ca1, ca2, ca3, fa, la⟩ := oa.s3
 have ob := nb
 clear nb
 obtain ⟨cb0, cb1, cb2, cb3, fb, lb⟩ := ob.s3
 have or := nr
 clear nr
 obtain ⟨cr0, cr1, cr2, cr3, fr, lr⟩ := or.s3
 obtain ⟨q1, q2, q3, q4, q5, q6, q7, q8, rfl⟩ := hvq.shape
 have Fq := Hid.mk_ hvq
 clear hvq
 clear pr
 dsimp only; repeat' (first | go_values | go_skip | go_guarded | go_step | go_upon)
 refine bodyPost_ret (by simp [results, Tryz.results44, go_sem, ca0, ca1, ca2, ca3, fa, la, cb0, cb1, cb2, cb3, fb, lb, cr0, cr1, cr2, cr3, fr, lr]; rfl) rfl ?_
 exact ⟨_, rfl, Fq.out.keeps keepsB, belowB⟩
theorem rAddQ {va vb : Value} {r s : Rat} {i j : Nat} (w : World) (ha : FR w va r) (hb : FR w vb s) (hr : sz r i) (hs : sz s j) (hk : i + j ≤ 4094) :
  Calls Tryz.prog 74 #[va, vb] w fun e w' => ∃ v, e = .returned (.tuple #[v, .int .i64 0]) ∧ FR w' v (r + s) ∧ Steps w w' := by
 have fa := ha.fit
 have fb := hb.fit
 have bo := fun (w' : World) (h : Steps w w') => rfboth_q w' (ha.steps h) (hb.steps h)
 obtain ⟨h1, h2, h3⟩ := sum_size hr hs
 have g1 := fits_bp h1 (by omega)
 have g2 := fits_bp h2 (by omega)
 have g3 := fits_bp h3 (by omega)
 have g4 := fits_bp (absN_add_le h1 h2) (by omega)
 have g5 : fits (r.num * s.den - s.num * r.den) := by rw [Int.sub_eq_add_neg]; exact fits_bp (absN_add_le h1 (by rw [absN_neg]; exact h2)) (by omega)
 have pr : ∀ w', Steps w w' → Calls Tryz.prog 106 #[va, vb, .bool false] w' fun e w2 => ∃ v, e = .returned (.tuple #[v, .int .i64 0]) ∧ FR w2 v (r + s) ∧ Steps w' w2 := fun w' h => by
  refine (radded_more w' (ha.steps h) (hb.steps h) g1 g2 g3 g4 g5).mono ?_
  rintro e w2 ⟨v, rfl, h1, h2⟩
  have h3 := FR.of_rd (dens_ne r s) h1
  rw [add_frac] at h3
  exact ⟨v, rfl, h3, h2⟩
 obtain ⟨a1, a2, a3, a4, a5, a6, a7, a8, rfl⟩ := ha.shape
 obtain ⟨b1, b2, b3, b4, b5, b6, b7, b8, rfl⟩ := hb.shape
 clear g1 g2 g3 g4 g5 h1 h2 h3 fa fb ha hb hr hs hk
 go_enter Tryz.func74, Tryz.ntmps74
 go_wp2_with fail
 refine (bo _ belowB).mono ?_
 rintro e w1 ⟨rfl, hb1⟩
 have st : Steps _ w1 := hb1
 have Bn : Below w.heap.size w w1 := belowA st
 have oa : Blk w1 (w.heap.size) 27 #[.bool a1, .slice a2 a3 a4, .bool a5, .slice a6 a7 a8] := Blk.stepsK st
 have ob : Blk w1 (w.heap.size + 1) 27 #[.bool b1, .slice b2 b3 b4, .bool b5, .slice b6 b7 b8] := Blk.stepsK st
 have or : Blk w1 (w.heap.size + 1 + 1) 27 #[.bool false, .slice none 0 0, .bool false, .slice none 0 0] := Blk.stepsK st
 clear st
 have B := Bn
 clear Bn
 obtain ⟨ca0, ca1, ca2, ca3, fa, la⟩ := oa.s3
 obtain ⟨cb0, cb1, cb2, cb3, fb, lb⟩ := ob.s3
 obtain ⟨cr0, cr1, cr2, cr3, fr, lr⟩ := or.s3
 clear bo
 go_wp2_with fail
 refine (pr _ B).mono ?_
 rintro e w2 ⟨vq, rfl, hvq, hb2⟩
 have st : Steps _ w2 := hb2
 have Bn : Below w.heap.size w w2 := belowA st
 have na := oa.stp st
 have nb := ob.stp st
 have nr := or.stp st
 clear B oa ob or ca0 ca1 ca2 ca3 fa la cb0 cb1 cb2 cb3 fb lb cr0 cr1 cr2 cr3 fr lr
 clear st
 have B := Bn
 clear Bn
 have oa := na
 clear na
 obtain ⟨ca0, ca1, ca2, ca3, fa, la⟩ := oa.s3
 have ob := nb
 clear nb
 obtain ⟨cb0, cb1, cb2, cb3, fb, lb⟩ := ob.s3
 have or := nr
 clear nr
 obtain ⟨cr0, cr1, cr2, cr3, fr, lr⟩ := or.s3
 obtain ⟨q1, q2, q3, q4, q5, q6, q7, q8, rfl⟩ := hvq.shape
 have Fq := Hid.mk_ hvq
 clear hvq
 clear pr
 dsimp only; repeat' (first | go_values | go_skip | go_guarded | go_step | go_upon)
 refine bodyPost_ret (by simp [results, Tryz.results74, go_sem, ca0, ca1, ca2, ca3, fa, la, cb0, cb1, cb2, cb3, fb, lb, cr0, cr1, cr2, cr3, fr, lr]; rfl) rfl ?_
 exact ⟨_, rfl, Fq.out.keeps keepsB, belowB⟩
theorem rSubQ {va vb : Value} {r s : Rat} {i j : Nat} (w : World) (ha : FR w va r) (hb : FR w vb s) (hr : sz r i) (hs : sz s j) (hk : i + j ≤ 4094) :
  Calls Tryz.prog 83 #[va, vb] w fun e w' => ∃ v, e = .returned (.tuple #[v, .int .i64 0]) ∧ FR w' v (r - s) ∧ Steps w w' := by
 have fa := ha.fit
 have fb := hb.fit
 have bo := fun (w' : World) (h : Steps w w') => rfboth_q w' (ha.steps h) (hb.steps h)
 obtain ⟨h1, h2, h3⟩ := sum_size hr hs
 have g1 := fits_bp h1 (by omega)
 have g2 := fits_bp h2 (by omega)
 have g3 := fits_bp h3 (by omega)
 have g4 := fits_bp (absN_add_le h1 h2) (by omega)
 have g5 : fits (r.num * s.den - s.num * r.den) := by rw [Int.sub_eq_add_neg]; exact fits_bp (absN_add_le h1 (by rw [absN_neg]; exact h2)) (by omega)
 have pr : ∀ w', Steps w w' → Calls Tryz.prog 106 #[va, vb, .bool true] w' fun e w2 => ∃ v, e = .returned (.tuple #[v, .int .i64 0]) ∧ FR w2 v (r - s) ∧ Steps w' w2 := fun w' h => by
  refine (radded_less w' (ha.steps h) (hb.steps h) g1 g2 g3 g4 g5).mono ?_
  rintro e w2 ⟨v, rfl, h1, h2⟩
  have h3 := FR.of_rd (dens_ne r s) h1
  rw [sub_frac] at h3
  exact ⟨v, rfl, h3, h2⟩
 obtain ⟨a1, a2, a3, a4, a5, a6, a7, a8, rfl⟩ := ha.shape
 obtain ⟨b1, b2, b3, b4, b5, b6, b7, b8, rfl⟩ := hb.shape
 clear g1 g2 g3 g4 g5 h1 h2 h3 fa fb ha hb hr hs hk
 go_enter Tryz.func83, Tryz.ntmps83
 go_wp2_with fail
 refine (bo _ belowB).mono ?_
 rintro e w1 ⟨rfl, hb1⟩
 have st : Steps _ w1 := hb1
 have Bn : Below w.heap.size w w1 := belowA st
 have oa : Blk w1 (w.heap.size) 27 #[.bool a1, .slice a2 a3 a4, .bool a5, .slice a6 a7 a8] := Blk.stepsK st
 have ob : Blk w1 (w.heap.size + 1) 27 #[.bool b1, .slice b2 b3 b4, .bool b5, .slice b6 b7 b8] := Blk.stepsK st
 have or : Blk w1 (w.heap.size + 1 + 1) 27 #[.bool false, .slice none 0 0, .bool false, .slice none 0 0] := Blk.stepsK st
 clear st
 have B := Bn
 clear Bn
 obtain ⟨ca0, ca1, ca2, ca3, fa, la⟩ := oa.s3
 obtain ⟨cb0, cb1, cb2, cb3, fb, lb⟩ := ob.s3
 obtain ⟨cr0, cr1, cr2, cr3, fr, lr⟩ := or.s3
 clear bo
 go_wp2_with fail
 refine (pr _ B).mono ?_
 rintro e w2 ⟨vq, rfl, hvq, hb2⟩
 have st : Steps _ w2 := hb2
 have Bn : Below w.heap.size w w2 := belowA st
 have na := oa.stp st
 have nb := ob.stp st
 have nr := or.stp st
 clear B oa ob or ca0 ca1 ca2 ca3 fa la cb0 cb1 cb2 cb3 fb lb cr0 cr1 cr2 cr3 fr lr
 clear st
 have B := Bn
 clear Bn
 have oa := na
 clear na
 obtain ⟨ca0, ca1, ca2, ca3, fa, la⟩ := oa.s3
 have ob := nb
 clear nb
 obtain ⟨cb0, cb1, cb2, cb3, fb, lb⟩ := ob.s3
 have or := nr
 clear nr
 obtain ⟨cr0, cr1, cr2, cr3, fr, lr⟩ := or.s3
 obtain ⟨q1, q2, q3, q4, q5, q6, q7, q8, rfl⟩ := hvq.shape
 have Fq := Hid.mk_ hvq
 clear hvq
 clear pr
 dsimp only; repeat' (first | go_values | go_skip | go_guarded | go_step | go_upon)
 refine bodyPost_ret (by simp [results, Tryz.results83, go_sem, ca0, ca1, ca2, ca3, fa, la, cb0, cb1, cb2, cb3, fb, lb, cr0, cr1, cr2, cr3, fr, lr]; rfl) rfl ?_
 exact ⟨_, rfl, Fq.out.keeps keepsB, belowB⟩
theorem rCmpQ {va vb : Value} {r s : Rat} {i j : Nat} (w : World) (ha : FR w va r) (hb : FR w vb s) (hr : sz r i) (hs : sz s j) (hk : i + j ≤ 4095) :
  Calls Tryz.prog 45 #[va, vb] w fun e w' => e = .returned (.tuple #[.int .i64 (cmpQ r s), .int .i64 0]) ∧ Steps w w' := by
 have fa := ha.fit
 have fb := hb.fit
 have bo := fun (w' : World) (h : Steps w w') => rfboth_q w' (ha.steps h) (hb.steps h)
 obtain ⟨h1, h2, h3⟩ := sum_size hr hs
 have g1 := fits_bp h1 hk
 have g2 := fits_bp h2 hk
 obtain ⟨a2, a3, a4, a6, a7, a8, rfl, na, da, -⟩ := ha.nums
 obtain ⟨b2, b3, b4, b6, b7, b8, rfl, nb', db, -⟩ := hb.nums
 have m1 := fun (w' : World) (h : Steps w w') => rmul_fits w' (na.steps h) (db.steps h) fa.1 fb.2 g1
 have m2 := fun (w' : World) (h : Steps w w') => rmul_fits w' (nb'.steps h) (da.steps h) fb.1 fa.2 g2
 have cm : ∀ w' v u, Num w' v (r.num * s.den) → Num w' u (s.num * r.den) → Calls Tryz.prog 82 #[v, u] w' fun e w2 => e = .returned (.int .i64 (cmpQ r s)) ∧ Steps w' w2 := fun w' v u h1 h2 => by
  have := rcompared w' h1 h2 g1 g2
  rw [cmpI_rat] at this
  exact this
 obtain ⟨ga, hga⟩ : ∃ g, decide (r < 0) = g := ⟨_, rfl⟩
 obtain ⟨gb, hgb⟩ : ∃ g, decide (s < 0) = g := ⟨_, rfl⟩
 obtain ⟨c, hc⟩ : ∃ c, cmpQ r s = c := ⟨_, rfl⟩
 rw [hga] at m1 bo ⊢
 rw [hgb] at m2 bo ⊢
 rw [hc] at cm ⊢
 obtain ⟨X, hX⟩ : ∃ X : Int, r.num * s.den = X := ⟨_, rfl⟩
 obtain ⟨Y, hY⟩ : ∃ X : Int, s.num * r.den = X := ⟨_, rfl⟩
 rw [hX] at m1 cm
 rw [hY] at m2 cm
 clear hga hgb hc hX hY na da nb' db g1 g2 h1 h2 h3 fa fb ha hb hr hs hk
 go_enter Tryz.func45, Tryz.ntmps45
 go_wp2_with fail
 refine (bo _ belowB).mono ?_
 rintro e w1 ⟨rfl, hb1⟩
 have st : Steps _ w1 := hb1
 have Bn : Below w.heap.size w w1 := belowA st
 have oa : Blk w1 (w.heap.size) 27 #[.bool ga, .slice a2 a3 a4, .bool false, .slice a6 a7 a8] := Blk.stepsK st
 have ob : Blk w1 (w.heap.size + 1) 27 #[.bool gb, .slice b2 b3 b4, .bool false, .slice b6 b7 b8] := Blk.stepsK st
 clear st
 have B := Bn
 clear Bn
 obtain ⟨ca0, ca1, ca2, ca3, fa, la⟩ := oa.s3
 obtain ⟨cb0, cb1, cb2, cb3, fb, lb⟩ := ob.s3
 clear bo
 go_wp2_with fail
 refine (m1 _ B).mono ?_
 rintro e w2 ⟨vx, rfl, hvx, hb2⟩
 have st : Steps _ w2 := hb2
 have Bn : Below w.heap.size w w2 := belowA st
 have na := oa.stp st
 have nb := ob.stp st
 clear B oa ob ca0 ca1 ca2 ca3 fa la cb0 cb1 cb2 cb3 fb lb
 clear st
 have B := Bn
 clear Bn
 have oa := na
 clear na
 obtain ⟨ca0, ca1, ca2, ca3, fa, la⟩ := oa.s3
 have ob := nb
 clear nb
 obtain ⟨cb0, cb1, cb2, cb3, fb, lb⟩ := ob.s3
 obtain ⟨x1, x2, x3, x4, rfl⟩ := hvx.shape
 have Fx := Hid.mk_ hvx
 clear hvx
 clear m1
 have zx : w.heap.size + 1 < w2.heap.size := ob.lt
 go_wp2_with fail
 refine (m2 _ belowB).mono ?_
 rintro e w3 ⟨vy, rfl, hvy, hb3⟩
 have st : Steps _ w3 := hb3
 have Bn : Below w.heap.size w w3 := belowA st
 have kp : Keeps w2 w3 := Keeps.then_ keepsB st
 have na := oa.stp st
 have nb := ob.stp st
 have ox : Blk w3 (w2.heap.size) 25 #[.bool x1, .slice x2 x3 x4] := Blk.stepsK st
 clear B oa ob ca0 ca1 ca2 ca3 fa la cb0 cb1 cb2 cb3 fb lb
 clear st
 have B := Bn
 clear Bn
 replace Fx := Hid.mk_ (Fx.out.keeps kp)
 clear kp
 have oa := na
 clear na
 obtain ⟨ca0, ca1, ca2, ca3, fa, la⟩ := oa.s3
 have ob := nb
 clear nb
 obtain ⟨cb0, cb1, cb2, cb3, fb, lb⟩ := ob.s3
 obtain ⟨cx0, cx1, fx, lx⟩ := ox.s1
 obtain ⟨y1, y2, y3, y4, rfl⟩ := hvy.shape
 have Fy := Hid.mk_ hvy
 clear hvy
 clear m2
 have zy : w2.heap.size < w3.heap.size := ox.lt
 go_wp2_with fail
 refine (cm _ _ _ (Fx.out.keeps keepsB) (Fy.out.keeps keepsB)).mono ?_
 rintro e w4 ⟨rfl, hb4⟩
 have st : Steps _ w4 := hb4
 have Bn : Below w.heap.size w w4 := belowA st
 have kp : Keeps w3 w4 := Keeps.then_ keepsB st
 have na := oa.stp st
 have nb := ob.stp st
 have nx := ox.stp st
 have oy : Blk w4 (w3.heap.size) 25 #[.bool y1, .slice y2 y3 y4] := Blk.stepsK st
 clear B oa ob ox ca0 ca1 ca2 ca3 fa la cb0 cb1 cb2 cb3 fb lb cx0 cx1 fx lx
 clear st
 have B := Bn
 clear Bn
 replace Fx := Hid.mk_ (Fx.out.keeps kp)
 replace Fy := Hid.mk_ (Fy.out.keeps kp)
 clear kp
 have oa := na
 clear na
 obtain ⟨ca0, ca1, ca2, ca3, fa, la⟩ := oa.s3
 have ob := nb
 clear nb
 obtain ⟨cb0, cb1, cb2, cb3, fb, lb⟩ := ob.s3
 have ox := nx
 clear nx
 obtain ⟨cx0, cx1, fx, lx⟩ := ox.s1
 obtain ⟨cy0, cy1, fy, ly⟩ := oy.s1
 go_wp2
 go_returns
 exact ⟨rfl, belowB⟩
end Go.Proofs.YtmpambmpknaldaaGreat
