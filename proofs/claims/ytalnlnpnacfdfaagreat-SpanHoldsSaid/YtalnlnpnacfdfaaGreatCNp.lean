import Derived.Test.YtalnlnpnacfdfaaGreatCNo
import Derived.Test.YtalnlnpnacfdfaaGreatCNm
import Derived.Test.YtalnlnpnacfdfaaGreatCTz
namespace Go.Proofs.YtalnlnpnacfdfaaGreat
open Go.RowKit
theorem zv_mul (x y : Int) : zv (decide (x < 0) != decide (y < 0)) (absN x * absN y) = x * y := by
  by_cases h1 : x < 0
  · by_cases h2 : y < 0
    · have e : absN x * absN y = x * y := by
        rw [show absN x = -x by unfold absN; omega, show absN y = -y by unfold absN; omega, Int.neg_mul_neg]
      simp [h1, h2, zv, e]
    · have e : absN x * absN y = -(x * y) := by
        rw [show absN x = -x by unfold absN; omega, show absN y = y by unfold absN; omega, Int.neg_mul]
      simp [h1, h2, zv, e]
  · by_cases h2 : y < 0
    · have e : absN x * absN y = -(x * y) := by
        rw [show absN x = x by unfold absN; omega, show absN y = -y by unfold absN; omega, Int.mul_neg]
      simp [h1, h2, zv, e]
    · have e : absN x * absN y = x * y := by
        rw [show absN x = x by unfold absN; omega, show absN y = y by unfold absN; omega]
      simp [h1, h2, zv, e]
set_option maxHeartbeats 6400000 in
set_option maxRecDepth 1000000 in
theorem nmul {va vb : Value} {x y : Int} (w : World) (ha : Num w va x) (hb : Num w vb y) (fx : fits x) (fy : fits y) :
    Calls Tryz.prog 42 #[va, vb] w fun e w' => ∃ v, e = .returned (.tuple #[v, .int .i64 (errN (x * y))]) ∧ Num w' v (clipN (x * y)) ∧ Steps w w' := by
  have bo := fun (w' : World) (h : Steps w w') => rboth_ok w' (ha.steps h) (hb.steps h) fx fy
  obtain ⟨aa, ca, rfl, pa⟩ := ha.parts
  obtain ⟨ab, cb, rfl, pb⟩ := hb.parts
  unfold fits at fx fy
  have nx : (limbs (absN x)).length ≤ few := by unfold few; omega
  have ny : (limbs (absN y)).length ≤ few := by unfold few; omega
  have vx := lval_limbs (absN_nonneg x)
  have vy := lval_limbs (absN_nonneg y)
  obtain ⟨g, hg⟩ : ∃ g, (decide (x < 0) != decide (y < 0)) = g := ⟨_, rfl⟩
  have tm : ∀ w', Steps w w' → Calls Tryz.prog 64 #[.slice aa (limbs (absN x)).length ca, .slice ab (limbs (absN y)).length cb] w' fun e w2 => ∃ v l, e = .returned v ∧ Lim w2 v l ∧ lval l = absN x * absN y ∧ l.length ≤ few ∧ Steps w' w2 := fun w' h => by
    refine (ntimes w' (pa.steps h) (pb.steps h) nx ny).mono ?_
    rintro e w2 ⟨v, l, rfl, h1, h2, h3, h4⟩
    exact ⟨v, l, rfl, h1, by rw [h2, vx, vy], by unfold few; omega, h4⟩
  have mk : ∀ w' s l, Lim w' s l → lval l = absN x * absN y → l.length ≤ few → Calls Tryz.prog 56 #[.bool g, s] w' fun e w2 => ∃ v, e = .returned (.tuple #[v, .int .i64 (errN (x * y))]) ∧ Num w2 v (clipN (x * y)) ∧ Steps w' w2 := fun w' s l h h2 h3 => by
    have := rmadeN g w' h h3
    rw [h2, ← hg, zv_mul] at this
    rw [← hg]
    exact this
  obtain ⟨n, hn⟩ : ∃ n, (limbs (absN x)).length = n := ⟨_, rfl⟩
  obtain ⟨m, hm⟩ : ∃ m, (limbs (absN y)).length = m := ⟨_, rfl⟩
  rw [hn] at bo tm ⊢
  rw [hm] at bo tm ⊢
  obtain ⟨gx, hgx⟩ : ∃ b, decide (x < 0) = b := ⟨_, rfl⟩
  obtain ⟨gy, hgy⟩ : ∃ b, decide (y < 0) = b := ⟨_, rfl⟩
  rw [hgx, hgy] at hg bo ⊢
  have hgg : (gx == gy) = !g := by rw [← hg]; cases gx <;> cases gy <;> rfl
  clear ha hb pa pb hn hm hgx hgy hg fx fy nx ny vx vy
  go_enter Tryz.func42, Tryz.ntmps42
  go_wp2_with fail
  refine (bo _ belowB).mono ?_
  rintro e w1 ⟨rfl, hb1⟩
  have st : Steps _ w1 := hb1
  have Bn : Below w.heap.size w w1 := belowA st
  have na : Blk w1 (w.heap.size) 29 #[.bool gx, .slice aa n ca] := Blk.stepsA st
  have nb : Blk w1 (w.heap.size + 1) 29 #[.bool gy, .slice ab m cb] := Blk.stepsA st
  have nr : Blk w1 (w.heap.size + 1 + 1) 29 #[.bool false, .slice none 0 0] := Blk.stepsA st
  clear st
  have B := Bn
  clear Bn
  have oa := na
  clear na
  have ca0 : World.cell? w1 ⟨w.heap.size, 0, none⟩ = some (.bool gx) := oa.c 0 rfl
  have ca1 : World.cell? w1 ⟨w.heap.size, 1, none⟩ = some (.slice aa n ca) := oa.c 1 rfl
  have fa := oa.fr
  have la := oa.lt
  have ob := nb
  clear nb
  have cb0 : World.cell? w1 ⟨w.heap.size + 1, 0, none⟩ = some (.bool gy) := ob.c 0 rfl
  have cb1 : World.cell? w1 ⟨w.heap.size + 1, 1, none⟩ = some (.slice ab m cb) := ob.c 1 rfl
  have fb := ob.fr
  have lb := ob.lt
  have or := nr
  clear nr
  have cr0 : World.cell? w1 ⟨w.heap.size + 1 + 1, 0, none⟩ = some (.bool false) := or.c 0 rfl
  have cr1 : World.cell? w1 ⟨w.heap.size + 1 + 1, 1, none⟩ = some (.slice none 0 0) := or.c 1 rfl
  have fr := or.fr
  have lr := or.lt
  clear bo
  go_wp2_with fail
  go_region_held3 (fun w' => w'.cell? ⟨w.heap.size, 0, none⟩ = some (.bool gx) ∧ w'.cell? ⟨w.heap.size, 1, none⟩ = some (.slice aa n ca) ∧ w'.cell? ⟨w.heap.size + 1, 0, none⟩ = some (.bool gy) ∧ w'.cell? ⟨w.heap.size + 1, 1, none⟩ = some (.slice ab m cb))
    ((refine ⟨Blk.c (t := 29) (cs := #[.bool gx, .slice aa n ca]) ?_ 0 rfl, Blk.c (t := 29) (cs := #[.bool gx, .slice aa n ca]) ?_ 1 rfl, Blk.c (t := 29) (cs := #[.bool gy, .slice ab m cb]) ?_ 0 rfl, Blk.c (t := 29) (cs := #[.bool gy, .slice ab m cb]) ?_ 1 rfl⟩ <;> (repeat' first | with_reducible assumption | (with_reducible refine Blk.new' ?_; first | with_reducible rfl | (simp only [World.size_alloc, World.size_setCell, World.size_drew]; done)) | with_reducible refine Blk.alloc ?_ _ | with_reducible refine Blk.drew ?_ | with_reducible refine Blk.drewN ?_ _ | with_reducible apply Blk.both | with_reducible refine Blk.far' ?_ ?_ | (show _ ≠ _; omega))))
    (first
      | ((go_at_call 64; refine (tm _ belowB).mono ?_; rintro e wv ⟨v1, l1, rfl, hv1, vl1, ll1, hbv⟩; go_must (have HV1 := Hid.mk_ vl1; clear vl1; have st : Steps _ wv := hbv; have Bn : Below w.heap.size w wv := belowA st; have na : Blk wv (w.heap.size) 29 #[.bool gx, .slice aa n ca] := Blk.stepsA st; have nb : Blk wv (w.heap.size + 1) 29 #[.bool gy, .slice ab m cb] := Blk.stepsA st; have nr : Blk wv (w.heap.size + 1 + 1) 29 #[.bool false, .slice none 0 0] := Blk.stepsA st; clear B oa ob or ca0 ca1 fa la cb0 cb1 fb lb cr0 cr1 fr lr; clear st; have B := Bn; clear Bn; have oa := na; clear na; have ca0 : World.cell? wv ⟨w.heap.size, 0, none⟩ = some (.bool gx) := oa.c 0 rfl; have ca1 : World.cell? wv ⟨w.heap.size, 1, none⟩ = some (.slice aa n ca) := oa.c 1 rfl; have fa := oa.fr; have la := oa.lt; have ob := nb; clear nb; have cb0 : World.cell? wv ⟨w.heap.size + 1, 0, none⟩ = some (.bool gy) := ob.c 0 rfl; have cb1 : World.cell? wv ⟨w.heap.size + 1, 1, none⟩ = some (.slice ab m cb) := ob.c 1 rfl; have fb := ob.fr; have lb := ob.lt; have or := nr; clear nr; have cr0 : World.cell? wv ⟨w.heap.size + 1 + 1, 0, none⟩ = some (.bool false) := or.c 0 rfl; have cr1 : World.cell? wv ⟨w.heap.size + 1 + 1, 1, none⟩ = some (.slice none 0 0) := or.c 1 rfl; have fr := or.fr; have lr := or.lt)))
      | ((go_at_call 56; refine (mk _ _ l1 hv1 HV1.out ll1).mono ?_; rintro e wv ⟨v2, rfl, hv2, hbv⟩; go_must (have st : Steps _ wv := hbv; have Bn : Below w.heap.size w wv := belowA st; have na : Blk wv (w.heap.size) 29 #[.bool gx, .slice aa n ca] := Blk.stepsA st; have nb : Blk wv (w.heap.size + 1) 29 #[.bool gy, .slice ab m cb] := Blk.stepsA st; have nr : Blk wv (w.heap.size + 1 + 1) 29 #[.bool false, .slice none 0 0] := Blk.stepsA st; clear B oa ob or ca0 ca1 fa la cb0 cb1 fb lb cr0 cr1 fr lr; clear st; have B := Bn; clear Bn; have oa := na; clear na; have ca0 : World.cell? wv ⟨w.heap.size, 0, none⟩ = some (.bool gx) := oa.c 0 rfl; have ca1 : World.cell? wv ⟨w.heap.size, 1, none⟩ = some (.slice aa n ca) := oa.c 1 rfl; have fa := oa.fr; have la := oa.lt; have ob := nb; clear nb; have cb0 : World.cell? wv ⟨w.heap.size + 1, 0, none⟩ = some (.bool gy) := ob.c 0 rfl; have cb1 : World.cell? wv ⟨w.heap.size + 1, 1, none⟩ = some (.slice ab m cb) := ob.c 1 rfl; have fb := ob.fr; have lb := ob.lt; have or := nr; clear nr; have cr0 : World.cell? wv ⟨w.heap.size + 1 + 1, 0, none⟩ = some (.bool false) := or.c 0 rfl; have cr1 : World.cell? wv ⟨w.heap.size + 1 + 1, 1, none⟩ = some (.slice none 0 0) := or.c 1 rfl; have fr := or.fr; have lr := or.lt; obtain ⟨bb, ao2, n2, c2, rfl⟩ := hv2.shape))))
  have HV2 := Hid.mk_ hv2
  clear hv2
  go_wp2
  refine bodyPost_ret (by simp [results, Tryz.results42, go_sem, ca0, ca1, fa, la, cb0, cb1, fb, lb, cr0, cr1, fr, lr]; rfl) rfl ?_
  exact ⟨_, rfl, HV2.out.put2 or, belowB⟩
set_option maxHeartbeats 6400000 in
set_option maxRecDepth 1000000 in
theorem nadd {va vb : Value} {x y : Int} (w : World) (ha : Num w va x) (hb : Num w vb y) (fx : fits x) (fy : fits y) :
    Calls Tryz.prog 57 #[va, vb] w fun e w' => ∃ v, e = .returned (.tuple #[v, .int .i64 (errN (x + y))]) ∧ Num w' v (clipN (x + y)) ∧ Steps w w' := by
  have bo := fun (w' : World) (h : Steps w w') => rboth_ok w' (ha.steps h) (hb.steps h) fx fy
  have sm := fun (w' : World) (h : Steps w w') => rsum w' (ha.steps h) (hb.steps h) fx fy
  obtain ⟨aa, ca, rfl, pa⟩ := ha.parts
  obtain ⟨ab, cb, rfl, pb⟩ := hb.parts
  obtain ⟨n, hn⟩ : ∃ n, (limbs (absN x)).length = n := ⟨_, rfl⟩
  obtain ⟨m, hm⟩ : ∃ m, (limbs (absN y)).length = m := ⟨_, rfl⟩
  rw [hn] at bo sm ⊢
  rw [hm] at bo sm ⊢
  obtain ⟨gx, hgx⟩ : ∃ b, decide (x < 0) = b := ⟨_, rfl⟩
  obtain ⟨gy, hgy⟩ : ∃ b, decide (y < 0) = b := ⟨_, rfl⟩
  rw [hgx] at bo sm ⊢
  rw [hgy] at bo sm ⊢
  clear ha hb pa pb hn hm hgx hgy fx fy
  go_enter Tryz.func57, Tryz.ntmps57
  go_wp2_with fail
  refine (bo _ belowB).mono ?_
  rintro e w1 ⟨rfl, hb1⟩
  have st : Steps _ w1 := hb1
  have Bn : Below w.heap.size w w1 := belowA st
  have na : Blk w1 (w.heap.size) 29 #[.bool gx, .slice aa n ca] := Blk.stepsA st
  have nb : Blk w1 (w.heap.size + 1) 29 #[.bool gy, .slice ab m cb] := Blk.stepsA st
  have nr : Blk w1 (w.heap.size + 1 + 1) 29 #[.bool false, .slice none 0 0] := Blk.stepsA st
  clear st
  have B := Bn
  clear Bn
  have oa := na
  clear na
  have ca0 : World.cell? w1 ⟨w.heap.size, 0, none⟩ = some (.bool gx) := oa.c 0 rfl
  have ca1 : World.cell? w1 ⟨w.heap.size, 1, none⟩ = some (.slice aa n ca) := oa.c 1 rfl
  have fa := oa.fr
  have la := oa.lt
  have ob := nb
  clear nb
  have cb0 : World.cell? w1 ⟨w.heap.size + 1, 0, none⟩ = some (.bool gy) := ob.c 0 rfl
  have cb1 : World.cell? w1 ⟨w.heap.size + 1, 1, none⟩ = some (.slice ab m cb) := ob.c 1 rfl
  have fb := ob.fr
  have lb := ob.lt
  have or := nr
  clear nr
  have cr0 : World.cell? w1 ⟨w.heap.size + 1 + 1, 0, none⟩ = some (.bool false) := or.c 0 rfl
  have cr1 : World.cell? w1 ⟨w.heap.size + 1 + 1, 1, none⟩ = some (.slice none 0 0) := or.c 1 rfl
  have fr := or.fr
  have lr := or.lt
  clear bo
  go_wp2_with fail
  refine (sm _ B).mono ?_
  rintro e w2 ⟨v2, rfl, hv2, hb2⟩
  have st : Steps _ w2 := hb2
  have Bn : Below w.heap.size w w2 := belowA st
  have na : Blk w2 (w.heap.size) 29 #[.bool gx, .slice aa n ca] := Blk.stepsA st
  have nb : Blk w2 (w.heap.size + 1) 29 #[.bool gy, .slice ab m cb] := Blk.stepsA st
  have nr : Blk w2 (w.heap.size + 1 + 1) 29 #[.bool false, .slice none 0 0] := Blk.stepsA st
  clear B oa ob or ca0 ca1 fa la cb0 cb1 fb lb cr0 cr1 fr lr
  clear st
  have B := Bn
  clear Bn
  have oa := na
  clear na
  have ca0 : World.cell? w2 ⟨w.heap.size, 0, none⟩ = some (.bool gx) := oa.c 0 rfl
  have ca1 : World.cell? w2 ⟨w.heap.size, 1, none⟩ = some (.slice aa n ca) := oa.c 1 rfl
  have fa := oa.fr
  have la := oa.lt
  have ob := nb
  clear nb
  have cb0 : World.cell? w2 ⟨w.heap.size + 1, 0, none⟩ = some (.bool gy) := ob.c 0 rfl
  have cb1 : World.cell? w2 ⟨w.heap.size + 1, 1, none⟩ = some (.slice ab m cb) := ob.c 1 rfl
  have fb := ob.fr
  have lb := ob.lt
  have or := nr
  clear nr
  have cr0 : World.cell? w2 ⟨w.heap.size + 1 + 1, 0, none⟩ = some (.bool false) := or.c 0 rfl
  have cr1 : World.cell? w2 ⟨w.heap.size + 1 + 1, 1, none⟩ = some (.slice none 0 0) := or.c 1 rfl
  have fr := or.fr
  have lr := or.lt
  clear sm
  obtain ⟨bb, ao2, n2, c2, rfl⟩ := hv2.shape
  have HV2 := Hid.mk_ hv2
  clear hv2
  go_wp2
  refine bodyPost_ret (by simp [results, Tryz.results57, go_sem, ca0, ca1, fa, la, cb0, cb1, fb, lb, cr0, cr1, fr, lr]; rfl) rfl ?_
  exact ⟨_, rfl, HV2.out.put2 or, belowB⟩
theorem Num.neg_parts {w : World} {y : Int} {ab : Option Addr} {m cb : Nat} (h : Lim w (.slice ab m cb) (limbs (absN y))) : Num w (.agg #[.bool (decide (-y < 0)), .slice ab m cb]) (-y) :=
  ⟨_, rfl, by rw [absN_neg]; exact h⟩
set_option maxHeartbeats 6400000 in
set_option maxRecDepth 1000000 in
theorem nsub {va vb : Value} {x y : Int} (w : World) (ha : Num w va x) (hb : Num w vb y) (fx : fits x) (fy : fits y) :
    Calls Tryz.prog 58 #[va, vb] w fun e w' => ∃ v, e = .returned (.tuple #[v, .int .i64 (errN (x - y))]) ∧ Num w' v (clipN (x - y)) ∧ Steps w w' := by
  have bo := fun (w' : World) (h : Steps w w') => rboth_ok w' (ha.steps h) (hb.steps h) fx fy
  obtain ⟨aa, ca, rfl, pa⟩ := ha.parts
  obtain ⟨ab, cb, rfl, pb⟩ := hb.parts
  have sm : ∀ w' v, Steps w w' → Num w' v (-y) → Calls Tryz.prog 80 #[.agg #[.bool (decide (x < 0)), .slice aa (limbs (absN x)).length ca], v] w' fun e w2 => ∃ v', e = .returned (.tuple #[v', .int .i64 (errN (x - y))]) ∧ Num w2 v' (clipN (x - y)) ∧ Steps w' w2 := fun w' v h hv => by
    have := rsum w' (ha.steps h) hv fx (fits_neg fy)
    rw [← Int.sub_eq_add_neg] at this
    exact this
  have y0 : (limbs (absN y)).length = 0 ↔ y = 0 := by
    rw [List.length_eq_zero_iff, limbs_nil (absN_nonneg y)]
    unfold absN; omega
  have ngp := fun (w' : World) (h : Steps w w') => Num.neg_parts (pb.steps h)
  obtain ⟨n, hn⟩ : ∃ n, (limbs (absN x)).length = n := ⟨_, rfl⟩
  obtain ⟨m, hm⟩ : ∃ m, (limbs (absN y)).length = m := ⟨_, rfl⟩
  rw [hn] at bo sm ⊢
  rw [hm] at bo ngp y0 ⊢
  obtain ⟨gx, hgx⟩ : ∃ b, decide (x < 0) = b := ⟨_, rfl⟩
  rw [hgx] at bo sm ⊢
  clear ha hb pa pb hn hm hgx fx fy
  rcases (show y < 0 ∨ y = 0 ∨ 0 < y by omega) with h | h | h
  · have e1 : decide (y < 0) = true := by simp; omega
    have e2 : decide (-y < 0) = false := by simp; omega
    rw [e1] at bo ⊢
    rw [e2] at ngp
    clear e1 e2 y0 h
    go_enter Tryz.func58, Tryz.ntmps58
    go_wp2_with fail
    refine (bo _ belowB).mono ?_
    rintro e w1 ⟨rfl, hb1⟩
    have st : Steps _ w1 := hb1
    have Bn : Below w.heap.size w w1 := belowA st
    have na : Blk w1 (w.heap.size) 29 #[.bool gx, .slice aa n ca] := Blk.stepsA st
    have nb : Blk w1 (w.heap.size + 1) 29 #[.bool true, .slice ab m cb] := Blk.stepsA st
    have nr : Blk w1 (w.heap.size + 1 + 1) 29 #[.bool false, .slice none 0 0] := Blk.stepsA st
    clear st
    have B := Bn
    clear Bn
    have oa := na
    clear na
    have ca0 : World.cell? w1 ⟨w.heap.size, 0, none⟩ = some (.bool gx) := oa.c 0 rfl
    have ca1 : World.cell? w1 ⟨w.heap.size, 1, none⟩ = some (.slice aa n ca) := oa.c 1 rfl
    have fa := oa.fr
    have la := oa.lt
    have ob := nb
    clear nb
    have cb0 : World.cell? w1 ⟨w.heap.size + 1, 0, none⟩ = some (.bool true) := ob.c 0 rfl
    have cb1 : World.cell? w1 ⟨w.heap.size + 1, 1, none⟩ = some (.slice ab m cb) := ob.c 1 rfl
    have fb := ob.fr
    have lb := ob.lt
    have or := nr
    clear nr
    have cr0 : World.cell? w1 ⟨w.heap.size + 1 + 1, 0, none⟩ = some (.bool false) := or.c 0 rfl
    have cr1 : World.cell? w1 ⟨w.heap.size + 1 + 1, 1, none⟩ = some (.slice none 0 0) := or.c 1 rfl
    have fr := or.fr
    have lr := or.lt
    clear bo
    go_wp2_with fail
    refine (sm _ _ B (ngp _ B)).mono ?_
    rintro e w2 ⟨v2, rfl, hv2, hb2⟩
    have st : Steps _ w2 := hb2
    have Bn : Below w.heap.size w w2 := belowA st
    have na : Blk w2 (w.heap.size) 29 #[.bool gx, .slice aa n ca] := Blk.stepsA st
    have nb : Blk w2 (w.heap.size + 1) 29 #[.bool true, .slice ab m cb] := Blk.stepsA st
    have nr : Blk w2 (w.heap.size + 1 + 1) 29 #[.bool false, .slice none 0 0] := Blk.stepsA st
    clear B oa ob or ca0 ca1 fa la cb0 cb1 fb lb cr0 cr1 fr lr
    clear st
    have B := Bn
    clear Bn
    have oa := na
    clear na
    have ca0 : World.cell? w2 ⟨w.heap.size, 0, none⟩ = some (.bool gx) := oa.c 0 rfl
    have ca1 : World.cell? w2 ⟨w.heap.size, 1, none⟩ = some (.slice aa n ca) := oa.c 1 rfl
    have fa := oa.fr
    have la := oa.lt
    have ob := nb
    clear nb
    have cb0 : World.cell? w2 ⟨w.heap.size + 1, 0, none⟩ = some (.bool true) := ob.c 0 rfl
    have cb1 : World.cell? w2 ⟨w.heap.size + 1, 1, none⟩ = some (.slice ab m cb) := ob.c 1 rfl
    have fb := ob.fr
    have lb := ob.lt
    have or := nr
    clear nr
    have cr0 : World.cell? w2 ⟨w.heap.size + 1 + 1, 0, none⟩ = some (.bool false) := or.c 0 rfl
    have cr1 : World.cell? w2 ⟨w.heap.size + 1 + 1, 1, none⟩ = some (.slice none 0 0) := or.c 1 rfl
    have fr := or.fr
    have lr := or.lt
    clear sm ngp
    obtain ⟨bb, ao2, n2, c2, rfl⟩ := hv2.shape
    have HV2 := Hid.mk_ hv2
    clear hv2
    go_wp2
    refine bodyPost_ret (by simp [results, Tryz.results58, go_sem, ca0, ca1, fa, la, cb0, cb1, fb, lb, cr0, cr1, fr, lr]; rfl) rfl ?_
    exact ⟨_, rfl, HV2.out.put2 or, belowB⟩
  · have e1 : decide (y < 0) = false := by simp; omega
    have e2 : decide (-y < 0) = false := by simp; omega
    rw [e1] at bo ⊢
    rw [e2] at ngp
    have hm0 : m = 0 := y0.2 h
    subst hm0
    clear e1 e2 y0 h
    go_enter Tryz.func58, Tryz.ntmps58
    go_wp2_with fail
    refine (bo _ belowB).mono ?_
    rintro e w1 ⟨rfl, hb1⟩
    have st : Steps _ w1 := hb1
    have Bn : Below w.heap.size w w1 := belowA st
    have na : Blk w1 (w.heap.size) 29 #[.bool gx, .slice aa n ca] := Blk.stepsA st
    have nb : Blk w1 (w.heap.size + 1) 29 #[.bool false, .slice ab 0 cb] := Blk.stepsA st
    have nr : Blk w1 (w.heap.size + 1 + 1) 29 #[.bool false, .slice none 0 0] := Blk.stepsA st
    clear st
    have B := Bn
    clear Bn
    have oa := na
    clear na
    have ca0 : World.cell? w1 ⟨w.heap.size, 0, none⟩ = some (.bool gx) := oa.c 0 rfl
    have ca1 : World.cell? w1 ⟨w.heap.size, 1, none⟩ = some (.slice aa n ca) := oa.c 1 rfl
    have fa := oa.fr
    have la := oa.lt
    have ob := nb
    clear nb
    have cb0 : World.cell? w1 ⟨w.heap.size + 1, 0, none⟩ = some (.bool false) := ob.c 0 rfl
    have cb1 : World.cell? w1 ⟨w.heap.size + 1, 1, none⟩ = some (.slice ab 0 cb) := ob.c 1 rfl
    have fb := ob.fr
    have lb := ob.lt
    have or := nr
    clear nr
    have cr0 : World.cell? w1 ⟨w.heap.size + 1 + 1, 0, none⟩ = some (.bool false) := or.c 0 rfl
    have cr1 : World.cell? w1 ⟨w.heap.size + 1 + 1, 1, none⟩ = some (.slice none 0 0) := or.c 1 rfl
    have fr := or.fr
    have lr := or.lt
    clear bo
    go_wp2_with fail
    refine (sm _ _ B (ngp _ B)).mono ?_
    rintro e w2 ⟨v2, rfl, hv2, hb2⟩
    have st : Steps _ w2 := hb2
    have Bn : Below w.heap.size w w2 := belowA st
    have na : Blk w2 (w.heap.size) 29 #[.bool gx, .slice aa n ca] := Blk.stepsA st
    have nb : Blk w2 (w.heap.size + 1) 29 #[.bool false, .slice ab 0 cb] := Blk.stepsA st
    have nr : Blk w2 (w.heap.size + 1 + 1) 29 #[.bool false, .slice none 0 0] := Blk.stepsA st
    clear B oa ob or ca0 ca1 fa la cb0 cb1 fb lb cr0 cr1 fr lr
    clear st
    have B := Bn
    clear Bn
    have oa := na
    clear na
    have ca0 : World.cell? w2 ⟨w.heap.size, 0, none⟩ = some (.bool gx) := oa.c 0 rfl
    have ca1 : World.cell? w2 ⟨w.heap.size, 1, none⟩ = some (.slice aa n ca) := oa.c 1 rfl
    have fa := oa.fr
    have la := oa.lt
    have ob := nb
    clear nb
    have cb0 : World.cell? w2 ⟨w.heap.size + 1, 0, none⟩ = some (.bool false) := ob.c 0 rfl
    have cb1 : World.cell? w2 ⟨w.heap.size + 1, 1, none⟩ = some (.slice ab 0 cb) := ob.c 1 rfl
    have fb := ob.fr
    have lb := ob.lt
    have or := nr
    clear nr
    have cr0 : World.cell? w2 ⟨w.heap.size + 1 + 1, 0, none⟩ = some (.bool false) := or.c 0 rfl
    have cr1 : World.cell? w2 ⟨w.heap.size + 1 + 1, 1, none⟩ = some (.slice none 0 0) := or.c 1 rfl
    have fr := or.fr
    have lr := or.lt
    clear sm ngp
    obtain ⟨bb, ao2, n2, c2, rfl⟩ := hv2.shape
    have HV2 := Hid.mk_ hv2
    clear hv2
    go_wp2
    refine bodyPost_ret (by simp [results, Tryz.results58, go_sem, ca0, ca1, fa, la, cb0, cb1, fb, lb, cr0, cr1, fr, lr]; rfl) rfl ?_
    exact ⟨_, rfl, HV2.out.put2 or, belowB⟩
  · have e1 : decide (y < 0) = false := by simp; omega
    have e2 : decide (-y < 0) = true := by simp; omega
    rw [e1] at bo ⊢
    rw [e2] at ngp
    have hm0 : 0 < m := by rcases Nat.eq_zero_or_pos m with g | g; (have := y0.1 g; omega); exact g
    have hm1 : decide (0 < m) = true := decide_eq_true hm0
    have hm2 : decide (0 < (m : Int)) = true := decide_eq_true (by omega)
    clear e1 e2 y0 h
    go_enter Tryz.func58, Tryz.ntmps58
    go_wp2_with fail
    refine (bo _ belowB).mono ?_
    rintro e w1 ⟨rfl, hb1⟩
    have st : Steps _ w1 := hb1
    have Bn : Below w.heap.size w w1 := belowA st
    have na : Blk w1 (w.heap.size) 29 #[.bool gx, .slice aa n ca] := Blk.stepsA st
    have nb : Blk w1 (w.heap.size + 1) 29 #[.bool false, .slice ab m cb] := Blk.stepsA st
    have nr : Blk w1 (w.heap.size + 1 + 1) 29 #[.bool false, .slice none 0 0] := Blk.stepsA st
    clear st
    have B := Bn
    clear Bn
    have oa := na
    clear na
    have ca0 : World.cell? w1 ⟨w.heap.size, 0, none⟩ = some (.bool gx) := oa.c 0 rfl
    have ca1 : World.cell? w1 ⟨w.heap.size, 1, none⟩ = some (.slice aa n ca) := oa.c 1 rfl
    have fa := oa.fr
    have la := oa.lt
    have ob := nb
    clear nb
    have cb0 : World.cell? w1 ⟨w.heap.size + 1, 0, none⟩ = some (.bool false) := ob.c 0 rfl
    have cb1 : World.cell? w1 ⟨w.heap.size + 1, 1, none⟩ = some (.slice ab m cb) := ob.c 1 rfl
    have fb := ob.fr
    have lb := ob.lt
    have or := nr
    clear nr
    have cr0 : World.cell? w1 ⟨w.heap.size + 1 + 1, 0, none⟩ = some (.bool false) := or.c 0 rfl
    have cr1 : World.cell? w1 ⟨w.heap.size + 1 + 1, 1, none⟩ = some (.slice none 0 0) := or.c 1 rfl
    have fr := or.fr
    have lr := or.lt
    clear bo
    go_wp2_with fail
    refine (sm _ _ B (ngp _ B)).mono ?_
    rintro e w2 ⟨v2, rfl, hv2, hb2⟩
    have st : Steps _ w2 := hb2
    have Bn : Below w.heap.size w w2 := belowA st
    have na : Blk w2 (w.heap.size) 29 #[.bool gx, .slice aa n ca] := Blk.stepsA st
    have nb : Blk w2 (w.heap.size + 1) 29 #[.bool false, .slice ab m cb] := Blk.stepsA st
    have nr : Blk w2 (w.heap.size + 1 + 1) 29 #[.bool false, .slice none 0 0] := Blk.stepsA st
    clear B oa ob or ca0 ca1 fa la cb0 cb1 fb lb cr0 cr1 fr lr
    clear st
    have B := Bn
    clear Bn
    have oa := na
    clear na
    have ca0 : World.cell? w2 ⟨w.heap.size, 0, none⟩ = some (.bool gx) := oa.c 0 rfl
    have ca1 : World.cell? w2 ⟨w.heap.size, 1, none⟩ = some (.slice aa n ca) := oa.c 1 rfl
    have fa := oa.fr
    have la := oa.lt
    have ob := nb
    clear nb
    have cb0 : World.cell? w2 ⟨w.heap.size + 1, 0, none⟩ = some (.bool false) := ob.c 0 rfl
    have cb1 : World.cell? w2 ⟨w.heap.size + 1, 1, none⟩ = some (.slice ab m cb) := ob.c 1 rfl
    have fb := ob.fr
    have lb := ob.lt
    have or := nr
    clear nr
    have cr0 : World.cell? w2 ⟨w.heap.size + 1 + 1, 0, none⟩ = some (.bool false) := or.c 0 rfl
    have cr1 : World.cell? w2 ⟨w.heap.size + 1 + 1, 1, none⟩ = some (.slice none 0 0) := or.c 1 rfl
    have fr := or.fr
    have lr := or.lt
    clear sm ngp
    obtain ⟨bb, ao2, n2, c2, rfl⟩ := hv2.shape
    have HV2 := Hid.mk_ hv2
    clear hv2
    go_wp2
    refine bodyPost_ret (by simp [results, Tryz.results58, go_sem, ca0, ca1, fa, la, cb0, cb1, fb, lb, cr0, cr1, fr, lr]; rfl) rfl ?_
    exact ⟨_, rfl, HV2.out.put2 or, belowB⟩
end Go.Proofs.YtalnlnpnacfdfaaGreat
