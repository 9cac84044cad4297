import Derived.Test.YtffmbepfbienaaaGreatDMc
import Derived.Test.YtffmbepfbienaaaGreatDQx
set_option linter.unusedVariables false
set_option linter.unusedSimpArgs false
set_option maxHeartbeats 6400000
set_option maxRecDepth 1000000
namespace Go.Proofs.YtffmbepfbienaaaGreat
open Go.RowKit
theorem rwhole02 (x : Int) (w : World) (x0 : -9223372036854775808 ≤ x) (x1 : x ≤ 9223372036854775807) :
  Calls Tryz.prog 88 #[.int .i64 x] w fun e w' => ∃ v, e = .returned v ∧ FR w' v (x : Rat) ∧ Steps w w' := by
 have f1 := fun w' => rfrom x w' x0 x1
 have f2 := fun w' => rfrom 1 w' (by decide) (by decide)
 have mk : ∀ w' a b c d, Num w' (.agg #[.bool a, b]) x → Num w' (.agg #[.bool c, d]) 1 → FR w' (.agg #[.bool a, b, .bool c, d]) (x : Rat) := fun w' a b c d h1 h2 => by
  have e1 : (x : Rat).num = x := Rat.num_intCast x
  have e2 : ((x : Rat).den : Int) = 1 := by rw [Rat.den_intCast]; rfl
  unfold FR
  rw [e1, e2]
  exact Frc.mk' h1 h2 (by decide) (by unfold gcdI; simp) (fits_small64 x0 x1) (fits_small64 (by decide) (by decide))
 clear x0 x1
 go_enter Tryz.func88, Tryz.ntmps88
 go_wp2_with fail
 refine (f1 _).mono ?_
 rintro e w1 ⟨vx, rfl, hvx, hb1⟩
 have st : Steps _ w1 := hb1
 have B : Below w.heap.size w w1 := belowA st
 have or : Blk w1 (w.heap.size) 28 #[.bool false, .slice none 0 0, .bool false, .slice none 0 0] := Blk.stepsK st
 clear st
 obtain ⟨x1, x2, x3, x4, rfl⟩ := hvx.shape
 have Fx := Hid.mk_ hvx
 clear hvx
 go_wp2_with fail
 refine (f2 _).mono ?_
 rintro e w2 ⟨vy, rfl, hvy, hb2⟩
 have st : Steps _ w2 := hb2
 have sk : Below w1.heap.size w1 w2 := belowA st
 replace B := below_steps B (Nat.le_refl _) sk
 replace or := or.steps sk
 replace Fx := Hid.mk_ (Fx.out.steps sk)
 clear st sk
 obtain ⟨cr0, cr1, cr2, cr3, fr, lr⟩ := or.s3
 obtain ⟨y1, y2, y3, y4, rfl⟩ := hvy.shape
 have Fy := Hid.mk_ hvy
 clear hvy
 go_wp2_with fail
 refine bodyPost_ret (by simp [results, Tryz.results88, go_sem, cr0, cr1, cr2, cr3, fr, lr]; rfl) rfl ?_
 exact ⟨_, rfl, mk _ _ _ _ _ (Fx.out.keeps keepsB) (Fy.out.keeps keepsB), belowB⟩
theorem rwhole (x : Int) (w : World) (x0 : -9223372036854775808 ≤ x) (x1 : x ≤ 9223372036854775807) :
  Calls Tryz.prog 47 #[.int .i64 x] w fun e w' => ∃ v, e = .returned v ∧ FR w' v (x : Rat) ∧ Steps w w' := by
 have CL := fun w' => rwhole02 x w' x0 x1
 clear x0 x1
 generalize (x : Rat) = q at *
 go_enter Tryz.func47, Tryz.ntmps47
 go_wp2_with fail
 refine (CL _).mono ?_
 rintro e w1 ⟨vq, rfl, hvq, hb1⟩
 have st : Steps _ w1 := hb1
 have B : Below w.heap.size w w1 := belowA st
 have or : Blk w1 (w.heap.size) 28 #[.bool false, .slice none 0 0, .bool false, .slice none 0 0] := Blk.stepsK st
 clear st
 obtain ⟨cr0, cr1, cr2, cr3, fr, lr⟩ := or.s3
 obtain ⟨q1, q2, q3, q4, q5, q6, q7, q8, rfl⟩ := hvq.shape
 have Fq := Hid.mk_ hvq
 clear hvq
 go_wp2_with fail
 refine bodyPost_ret (by simp [results, Tryz.results47, go_sem, cr0, cr1, cr2, cr3, fr, lr]; rfl) rfl ?_
 exact ⟨_, rfl, Fq.out.keeps keepsB, belowB⟩
theorem pradd {va vb : Value} {r s : Rat} {i j : Nat} (w : World) (ha : FR w va r) (hb : FR w vb s) (hr : sz r i) (hs : sz s j) (hk : i + j ≤ 4094) :
  Calls Tryz.prog 79 #[va, vb] w fun e w' => ∃ v, e = .returned v ∧ FR w' v (r + s) ∧ Steps w w' := by
 have CL : ∀ w', Steps w w' → Calls Tryz.prog 120 #[va, vb] w' fun e w2 => ∃ v, e = .returned (.tuple #[v, .int .i64 0]) ∧ FR w2 v (r + s) ∧ Steps w' w2 := fun w' st => rAddQ w' (ha.steps st) (hb.steps st) hr hs hk
 obtain ⟨a1, a2, a3, a4, a5, a6, a7, a8, rfl⟩ := ha.shape
 obtain ⟨b1, b2, b3, b4, b5, b6, b7, b8, rfl⟩ := hb.shape
 clear ha hb hr hs hk
 generalize r + s = t at *
 go_enter Tryz.func79, Tryz.ntmps79
 go_wp2_with fail
 refine (CL _ belowB).mono ?_
 rintro e w1 ⟨vq, rfl, hvq, hb1⟩
 have st : Steps _ w1 := hb1
 have B : Below w.heap.size w w1 := belowA st
 have oa : Blk w1 (w.heap.size) 28 #[.bool a1, .slice a2 a3 a4, .bool a5, .slice a6 a7 a8] := Blk.stepsK st
 have ob : Blk w1 (w.heap.size + 1) 28 #[.bool b1, .slice b2 b3 b4, .bool b5, .slice b6 b7 b8] := Blk.stepsK st
 have or : Blk w1 (w.heap.size + 1 + 1) 28 #[.bool false, .slice none 0 0, .bool false, .slice none 0 0] := Blk.stepsK st
 clear st
 have la := oa.lt
 have lb := ob.lt
 obtain ⟨cr0, cr1, cr2, cr3, fr, lr⟩ := or.s3
 obtain ⟨q1, q2, q3, q4, q5, q6, q7, q8, rfl⟩ := hvq.shape
 have Fq := Hid.mk_ hvq
 clear hvq
 have zr_1 : w.heap.size + 1 + 1 < w1.heap.size := or.lt
 have zz1 := B.size
 go_wp2_with fail
 refine bodyPost_ret (by simp [results, Tryz.results79, go_sem, la, lb, cr0, cr1, cr2, cr3, fr, lr]; rfl) rfl ?_
 exact ⟨_, rfl, Fq.out.keeps keepsB, belowB⟩
theorem prsub {va vb : Value} {r s : Rat} {i j : Nat} (w : World) (ha : FR w va r) (hb : FR w vb s) (hr : sz r i) (hs : sz s j) (hk : i + j ≤ 4094) :
  Calls Tryz.prog 70 #[va, vb] w fun e w' => ∃ v, e = .returned v ∧ FR w' v (r - s) ∧ Steps w w' := by
 have CL : ∀ w', Steps w w' → Calls Tryz.prog 105 #[va, vb] w' fun e w2 => ∃ v, e = .returned (.tuple #[v, .int .i64 0]) ∧ FR w2 v (r - s) ∧ Steps w' w2 := fun w' st => rSubQ w' (ha.steps st) (hb.steps st) hr hs hk
 obtain ⟨a1, a2, a3, a4, a5, a6, a7, a8, rfl⟩ := ha.shape
 obtain ⟨b1, b2, b3, b4, b5, b6, b7, b8, rfl⟩ := hb.shape
 clear ha hb hr hs hk
 generalize r - s = t at *
 go_enter Tryz.func70, Tryz.ntmps70
 go_wp2_with fail
 refine (CL _ belowB).mono ?_
 rintro e w1 ⟨vq, rfl, hvq, hb1⟩
 have st : Steps _ w1 := hb1
 have B : Below w.heap.size w w1 := belowA st
 have oa : Blk w1 (w.heap.size) 28 #[.bool a1, .slice a2 a3 a4, .bool a5, .slice a6 a7 a8] := Blk.stepsK st
 have ob : Blk w1 (w.heap.size + 1) 28 #[.bool b1, .slice b2 b3 b4, .bool b5, .slice b6 b7 b8] := Blk.stepsK st
 have or : Blk w1 (w.heap.size + 1 + 1) 28 #[.bool false, .slice none 0 0, .bool false, .slice none 0 0] := Blk.stepsK st
 clear st
 have la := oa.lt
 have lb := ob.lt
 obtain ⟨cr0, cr1, cr2, cr3, fr, lr⟩ := or.s3
 obtain ⟨q1, q2, q3, q4, q5, q6, q7, q8, rfl⟩ := hvq.shape
 have Fq := Hid.mk_ hvq
 clear hvq
 have zr_1 : w.heap.size + 1 + 1 < w1.heap.size := or.lt
 have zz1 := B.size
 go_wp2_with fail
 refine bodyPost_ret (by simp [results, Tryz.results70, go_sem, la, lb, cr0, cr1, cr2, cr3, fr, lr]; rfl) rfl ?_
 exact ⟨_, rfl, Fq.out.keeps keepsB, belowB⟩
theorem prmul {va vb : Value} {r s : Rat} {i j : Nat} (w : World) (ha : FR w va r) (hb : FR w vb s) (hr : sz r i) (hs : sz s j) (hk : i + j ≤ 4095) :
  Calls Tryz.prog 80 #[va, vb] w fun e w' => ∃ v, e = .returned v ∧ FR w' v (r * s) ∧ Steps w w' := by
 have CL : ∀ w', Steps w w' → Calls Tryz.prog 121 #[va, vb] w' fun e w2 => ∃ v, e = .returned (.tuple #[v, .int .i64 0]) ∧ FR w2 v (r * s) ∧ Steps w' w2 := fun w' st => rMulQ w' (ha.steps st) (hb.steps st) hr hs hk
 obtain ⟨a1, a2, a3, a4, a5, a6, a7, a8, rfl⟩ := ha.shape
 obtain ⟨b1, b2, b3, b4, b5, b6, b7, b8, rfl⟩ := hb.shape
 clear ha hb hr hs hk
 generalize r * s = t at *
 go_enter Tryz.func80, Tryz.ntmps80
 go_wp2_with fail
 refine (CL _ belowB).mono ?_
 rintro e w1 ⟨vq, rfl, hvq, hb1⟩
 have st : Steps _ w1 := hb1
 have B : Below w.heap.size w w1 := belowA st
 have oa : Blk w1 (w.heap.size) 28 #[.bool a1, .slice a2 a3 a4, .bool a5, .slice a6 a7 a8] := Blk.stepsK st
 have ob : Blk w1 (w.heap.size + 1) 28 #[.bool b1, .slice b2 b3 b4, .bool b5, .slice b6 b7 b8] := Blk.stepsK st
 have or : Blk w1 (w.heap.size + 1 + 1) 28 #[.bool false, .slice none 0 0, .bool false, .slice none 0 0] := Blk.stepsK st
 clear st
 have la := oa.lt
 have lb := ob.lt
 obtain ⟨cr0, cr1, cr2, cr3, fr, lr⟩ := or.s3
 obtain ⟨q1, q2, q3, q4, q5, q6, q7, q8, rfl⟩ := hvq.shape
 have Fq := Hid.mk_ hvq
 clear hvq
 have zr_1 : w.heap.size + 1 + 1 < w1.heap.size := or.lt
 have zz1 := B.size
 go_wp2_with fail
 refine bodyPost_ret (by simp [results, Tryz.results80, go_sem, la, lb, cr0, cr1, cr2, cr3, fr, lr]; rfl) rfl ?_
 exact ⟨_, rfl, Fq.out.keeps keepsB, belowB⟩
theorem prdiv {va vb : Value} {r s : Rat} {i j : Nat} (w : World) (ha : FR w va r) (hb : FR w vb s) (hr : sz r i) (hs : sz s j) (hk : i + j ≤ 4095) (s0 : s ≠ 0) :
  Calls Tryz.prog 137 #[va, vb] w fun e w' => ∃ v, e = .returned v ∧ FR w' v (r / s) ∧ Steps w w' := by
 have CL : ∀ w', Steps w w' → Calls Tryz.prog 167 #[va, vb] w' fun e w2 => ∃ v, e = .returned (.tuple #[v, .int .i64 0]) ∧ FR w2 v (r / s) ∧ Steps w' w2 := fun w' st => rDivQ w' (ha.steps st) (hb.steps st) hr hs hk s0
 obtain ⟨a1, a2, a3, a4, a5, a6, a7, a8, rfl⟩ := ha.shape
 obtain ⟨b1, b2, b3, b4, b5, b6, b7, b8, rfl⟩ := hb.shape
 clear ha hb hr hs hk s0
 generalize r / s = t at *
 go_enter Tryz.func137, Tryz.ntmps137
 go_wp2_with fail
 refine (CL _ belowB).mono ?_
 rintro e w1 ⟨vq, rfl, hvq, hb1⟩
 have st : Steps _ w1 := hb1
 have B : Below w.heap.size w w1 := belowA st
 have oa : Blk w1 (w.heap.size) 28 #[.bool a1, .slice a2 a3 a4, .bool a5, .slice a6 a7 a8] := Blk.stepsK st
 have ob : Blk w1 (w.heap.size + 1) 28 #[.bool b1, .slice b2 b3 b4, .bool b5, .slice b6 b7 b8] := Blk.stepsK st
 have or : Blk w1 (w.heap.size + 1 + 1) 28 #[.bool false, .slice none 0 0, .bool false, .slice none 0 0] := Blk.stepsK st
 clear st
 have la := oa.lt
 have lb := ob.lt
 obtain ⟨cr0, cr1, cr2, cr3, fr, lr⟩ := or.s3
 obtain ⟨q1, q2, q3, q4, q5, q6, q7, q8, rfl⟩ := hvq.shape
 have Fq := Hid.mk_ hvq
 clear hvq
 have zr_1 : w.heap.size + 1 + 1 < w1.heap.size := or.lt
 have zz1 := B.size
 go_wp2_with fail
 refine bodyPost_ret (by simp [results, Tryz.results137, go_sem, la, lb, cr0, cr1, cr2, cr3, fr, lr]; rfl) rfl ?_
 exact ⟨_, rfl, Fq.out.keeps keepsB, belowB⟩
theorem prcmp {va vb : Value} {r s : Rat} {i j : Nat} (w : World) (ha : FR w va r) (hb : FR w vb s) (hr : sz r i) (hs : sz s j) (hk : i + j ≤ 4095) :
  Calls Tryz.prog 46 #[va, vb] w fun e w' => e = .returned (.int .i64 (cmpQ r s)) ∧ Steps w w' := by
 have CL : ∀ w', Steps w w' → Calls Tryz.prog 87 #[va, vb] w' fun e w2 => e = .returned (.tuple #[.int .i64 (cmpQ r s), .int .i64 0]) ∧ Steps w' w2 := fun w' st => rCmpQ w' (ha.steps st) (hb.steps st) hr hs hk
 obtain ⟨a1, a2, a3, a4, a5, a6, a7, a8, rfl⟩ := ha.shape
 obtain ⟨b1, b2, b3, b4, b5, b6, b7, b8, rfl⟩ := hb.shape
 clear ha hb hr hs hk
 generalize cmpQ r s = k at *
 go_enter Tryz.func46, Tryz.ntmps46
 go_wp2_with fail
 refine (CL _ belowB).mono ?_
 rintro e w1 ⟨rfl, hb1⟩
 have st : Steps _ w1 := hb1
 have B : Below w.heap.size w w1 := belowA st
 have oa : Blk w1 (w.heap.size) 28 #[.bool a1, .slice a2 a3 a4, .bool a5, .slice a6 a7 a8] := Blk.stepsK st
 have ob : Blk w1 (w.heap.size + 1) 28 #[.bool b1, .slice b2 b3 b4, .bool b5, .slice b6 b7 b8] := Blk.stepsK st
 clear st
 go_wp2_with fail
 refine bodyPost_ret (by simp [results, Tryz.results46, go_sem, ]; rfl) rfl ?_
 exact ⟨rfl, belowB⟩
theorem psmall {a1 a5 : Bool} {a2 a6 : Option Addr} {p q a4 a8 : Nat} {o : Option Rat} (w : World) (hf : FB w (.agg #[.bool a1, .slice a2 p a4, .bool a5, .slice a6 q a8]) o) :
  Calls Tryz.prog 68 #[.agg #[.bool a1, .slice a2 p a4, .bool a5, .slice a6 q a8]] w fun e w' => e = .returned (.bool (limF 16 o p q)) ∧ Steps w w' := by
 have ck : ∀ w', Keeps w w' → Calls Tryz.prog 86 #[.agg #[.bool a1, .slice a2 p a4, .bool a5, .slice a6 q a8]] w' fun e w2 => e = .returned (.int .i64 (okC o.isSome)) ∧ Steps w' w2 := fun w' k => rfcheck_fb w' (hf.keeps k)
 unfold limF
 obtain ⟨s, hs⟩ : ∃ s, o.isSome = s := ⟨_, rfl⟩
 rw [hs] at ck ⊢
 clear hf hs
 by_cases h1 : p ≤ 16
 ·
  by_cases h2 : q ≤ 16
  ·
   rw [decide_eq_true h1, decide_eq_true h2]
   have g1 : (p : Int) ≤ 16 := by omega
   have g2 : (q : Int) ≤ 16 := by omega
   clear h1 h2
   go_enter Tryz.func68, Tryz.ntmps68
   go_wp2_with fail
   refine (ck _ keepsB).mono ?_
   rintro e w1 ⟨rfl, hs1⟩
   have B1 : Below w.heap.size w w1 := belowA hs1
   clear ck hs1
   cases s with
   | false =>
    have e8 : (okC false == 0) = false := rfl
    rw [show okC false = 8 from rfl]
    go_wp2
    go_returns
    exact ⟨rfl, B1⟩
   | true =>
    rw [show okC true = 0 from rfl]
    go_wp2
    go_returns
    exact ⟨rfl, B1⟩
  ·
   rw [decide_eq_true h1, decide_eq_false h2]
   have g1 : (p : Int) ≤ 16 := by omega
   have g2 : ¬ (q : Int) ≤ 16 := by omega
   clear h1 h2 ck
   go_enter Tryz.func68, Tryz.ntmps68
   go_wp2
   go_returns
   exact ⟨rfl, belowB⟩
 ·
  rw [decide_eq_false h1]
  have g1 : ¬ (p : Int) ≤ 16 := by omega
  clear h1 ck
  go_enter Tryz.func68, Tryz.ntmps68
  go_wp2
  go_returns
  exact ⟨rfl, belowB⟩
theorem pshort {a1 a5 : Bool} {a2 a6 : Option Addr} {p q a4 a8 : Nat} {o : Option Rat} (w : World) (hf : FB w (.agg #[.bool a1, .slice a2 p a4, .bool a5, .slice a6 q a8]) o) :
  Calls Tryz.prog 45 #[.agg #[.bool a1, .slice a2 p a4, .bool a5, .slice a6 q a8]] w fun e w' => e = .returned (.bool (limF 2 o p q)) ∧ Steps w w' := by
 have ck : ∀ w', Keeps w w' → Calls Tryz.prog 86 #[.agg #[.bool a1, .slice a2 p a4, .bool a5, .slice a6 q a8]] w' fun e w2 => e = .returned (.int .i64 (okC o.isSome)) ∧ Steps w' w2 := fun w' k => rfcheck_fb w' (hf.keeps k)
 unfold limF
 obtain ⟨s, hs⟩ : ∃ s, o.isSome = s := ⟨_, rfl⟩
 rw [hs] at ck ⊢
 clear hf hs
 by_cases h1 : p ≤ 2
 ·
  by_cases h2 : q ≤ 2
  ·
   rw [decide_eq_true h1, decide_eq_true h2]
   have g1 : (p : Int) ≤ 2 := by omega
   have g2 : (q : Int) ≤ 2 := by omega
   clear h1 h2
   go_enter Tryz.func45, Tryz.ntmps45
   go_wp2_with fail
   refine (ck _ keepsB).mono ?_
   rintro e w1 ⟨rfl, hs1⟩
   have B1 : Below w.heap.size w w1 := belowA hs1
   clear ck hs1
   cases s with
   | false =>
    have e8 : (okC false == 0) = false := rfl
    rw [show okC false = 8 from rfl]
    go_wp2
    go_returns
    exact ⟨rfl, B1⟩
   | true =>
    rw [show okC true = 0 from rfl]
    go_wp2
    go_returns
    exact ⟨rfl, B1⟩
  ·
   rw [decide_eq_true h1, decide_eq_false h2]
   have g1 : (p : Int) ≤ 2 := by omega
   have g2 : ¬ (q : Int) ≤ 2 := by omega
   clear h1 h2 ck
   go_enter Tryz.func45, Tryz.ntmps45
   go_wp2
   go_returns
   exact ⟨rfl, belowB⟩
 ·
  rw [decide_eq_false h1]
  have g1 : ¬ (p : Int) ≤ 2 := by omega
  clear h1 ck
  go_enter Tryz.func45, Tryz.ntmps45
  go_wp2
  go_returns
  exact ⟨rfl, belowB⟩
instance (p : Int × Int) : Decidable (okP p) := by unfold okP; infer_instance
theorem sz_coord {x : Int} (h : -1048576 ≤ x ∧ x ≤ 1048576) : sz (x : Rat) 2 := sz_int (by rw [bp_two]; unfold absN; omega)
def SimR (w : World) (v : Value) (t : Nat → Rat) : Prop := ∃ ka1 ka2 ka3 ka4 ka5 ka6 ka7 ka8 kb1 kb2 kb3 kb4 kb5 kb6 kb7 kb8 kc1 kc2 kc3 kc4 kc5 kc6 kc7 kc8 kd1 kd2 kd3 kd4 kd5 kd6 kd7 kd8, v = .agg #[.bool ka1, .slice ka2 ka3 ka4, .bool ka5, .slice ka6 ka7 ka8, .bool kb1, .slice kb2 kb3 kb4, .bool kb5, .slice kb6 kb7 kb8, .bool kc1, .slice kc2 kc3 kc4, .bool kc5, .slice kc6 kc7 kc8, .bool kd1, .slice kd2 kd3 kd4, .bool kd5, .slice kd6 kd7 kd8] ∧ FR w (.agg #[.bool ka1, .slice ka2 ka3 ka4, .bool ka5, .slice ka6 ka7 ka8]) (t 0) ∧ FR w (.agg #[.bool kb1, .slice kb2 kb3 kb4, .bool kb5, .slice kb6 kb7 kb8]) (t 1) ∧ FR w (.agg #[.bool kc1, .slice kc2 kc3 kc4, .bool kc5, .slice kc6 kc7 kc8]) (t 2) ∧ FR w (.agg #[.bool kd1, .slice kd2 kd3 kd4, .bool kd5, .slice kd6 kd7 kd8]) (t 3)
theorem SimR.keeps {w w' : World} {v : Value} {t : Nat → Rat} (h : SimR w v t) (k : Keeps w w') : SimR w' v t := by
 obtain ⟨ka1, ka2, ka3, ka4, ka5, ka6, ka7, ka8, kb1, kb2, kb3, kb4, kb5, kb6, kb7, kb8, kc1, kc2, kc3, kc4, kc5, kc6, kc7, kc8, kd1, kd2, kd3, kd4, kd5, kd6, kd7, kd8, rfl, h0, h1, h2, h3⟩ := h
 exact ⟨_, _, _, _, _, _, _, _, _, _, _, _, _, _, _, _, _, _, _, _, _, _, _, _, _, _, _, _, _, _, _, _, rfl, h0.keeps k, h1.keeps k, h2.keeps k, h3.keeps k⟩
theorem mapply {ka1 ka5 kb1 kb5 kc1 kc5 kd1 kd5 : Bool} {ka2 ka6 kb2 kb6 kc2 kc6 kd2 kd6 : Option Addr} {ka3 ka4 ka7 ka8 kb3 kb4 kb7 kb8 kc3 kc4 kc7 kc8 kd3 kd4 kd7 kd8 : Nat} {t : Nat → Rat} {gc : Nat} {tc : TypeId} (px py : Int) (w : World) (hc : Blk w gc tc #[.int .i64 0]) (h0 : FR w (.agg #[.bool ka1, .slice ka2 ka3 ka4, .bool ka5, .slice ka6 ka7 ka8]) (t 0)) (h1 : FR w (.agg #[.bool kb1, .slice kb2 kb3 kb4, .bool kb5, .slice kb6 kb7 kb8]) (t 1)) (h2 : FR w (.agg #[.bool kc1, .slice kc2 kc3 kc4, .bool kc5, .slice kc6 kc7 kc8]) (t 2)) (h3 : FR w (.agg #[.bool kd1, .slice kd2 kd3 kd4, .bool kd5, .slice kd6 kd7 kd8]) (t 3)) (s0 : sz (t 0) 64) (s1 : sz (t 1) 64) (s2 : sz (t 2) 64) (s3 : sz (t 3) 64) (hp : -1048576 ≤ px ∧ px ≤ 1048576) (hq : -1048576 ≤ py ∧ py ≤ 1048576) :
  Calls Tryz.prog 42 #[.pointer (some ⟨gc, 0, none⟩), .agg #[.bool ka1, .slice ka2 ka3 ka4, .bool ka5, .slice ka6 ka7 ka8, .bool kb1, .slice kb2 kb3 kb4, .bool kb5, .slice kb6 kb7 kb8, .bool kc1, .slice kc2 kc3 kc4, .bool kc5, .slice kc6 kc7 kc8, .bool kd1, .slice kd2 kd3 kd4, .bool kd5, .slice kd6 kd7 kd8], .agg #[.int .i64 px, .int .i64 py]] w fun e w' => ∃ u v, e = .returned (.tuple #[u, v]) ∧ FR w' u (apX t (px, py)) ∧ FR w' v (apY t (px, py)) ∧ Steps w w' := by
 have KC : ∀ w', Below w.heap.size w w' → Blk w' gc tc #[.int .i64 0] := fun w' s => hc.steps s
 have sx : sz (px : Rat) 2 := sz_coord hp
 have sy : sz (py : Rat) 2 := sz_coord hq
 have ofx : ∀ w', Below w.heap.size w w' → Calls Tryz.prog 66 #[.pointer (some ⟨gc, 0, none⟩), .int .i64 px] w' fun e w2 => ∃ v, e = .returned v ∧ FR w2 v (px : Rat) ∧ Steps w' w2 := fun w' s => mof px w' (KC w' s) (by omega) (by omega)
 have ofy : ∀ w', Below w.heap.size w w' → Calls Tryz.prog 66 #[.pointer (some ⟨gc, 0, none⟩), .int .i64 py] w' fun e w2 => ∃ v, e = .returned v ∧ FR w2 v (py : Rat) ∧ Steps w' w2 := fun w' s => mof py w' (KC w' s) (by omega) (by omega)
 have e1 : apX t (px, py) = t 0 * (px : Rat) - t 1 * (py : Rat) + t 2 := rfl
 have e2 : apY t (px, py) = t 1 * (px : Rat) + t 0 * (py : Rat) + t 3 := rfl
 rw [e1, e2]
 clear e1 e2 hp hq
 generalize (px : Rat) = x at *
 generalize (py : Rat) = y at *
 have F0 := Hid.mk_ h0
 have F1 := Hid.mk_ h1
 have F2 := Hid.mk_ h2
 have F3 := Hid.mk_ h3
 clear h0 h1 h2 h3 hc
 generalize t 0 = p at *
 generalize t 1 = q at *
 generalize t 2 = r at *
 generalize t 3 = s at *
 go_enter Tryz.func42, Tryz.ntmps42
 go_upto_region 1 with fail
 refine Reg.wp_chain_n (fun N0 D v W => Below w.heap.size w W ∧ Keeps w W ∧ N0 ≤ W.heap.size ∧ Blk W (w.heap.size) 30 #[.bool ka1, .slice ka2 ka3 ka4, .bool ka5, .slice ka6 ka7 ka8, .bool kb1, .slice kb2 kb3 kb4, .bool kb5, .slice kb6 kb7 kb8, .bool kc1, .slice kc2 kc3 kc4, .bool kc5, .slice kc6 kc7 kc8, .bool kd1, .slice kd2 kd3 kd4, .bool kd5, .slice kd6 kd7 kd8] ∧ Blk W (w.heap.size + 1) 23 #[.int .i64 px, .int .i64 py] ∧ Blk W (w.heap.size + 1 + 1) 28 #[.bool false, .slice none 0 0, .bool false, .slice none 0 0] ∧ Blk W (w.heap.size + 1 + 1 + 1) 28 #[.bool false, .slice none 0 0, .bool false, .slice none 0 0] ∧ (D 8 = true → ∃ g : Nat, v 8 = .pointer (some ⟨g, 0, none⟩) ∧ N0 ≤ g ∧ g < W.heap.size ∧ (D 10 = false → Blk W g 28 #[.bool false, .slice none 0 0, .bool false, .slice none 0 0]) ∧ (D 10 = true → D 3 = true ∧ ∃ cs, v 3 = .agg cs ∧ Blk W g 28 cs)) ∧ (D 9 = true → ∃ g : Nat, v 9 = .pointer (some ⟨g, 0, none⟩) ∧ N0 ≤ g ∧ g < W.heap.size ∧ (D 11 = false → Blk W g 28 #[.bool false, .slice none 0 0, .bool false, .slice none 0 0]) ∧ (D 11 = true → D 7 = true ∧ ∃ cs, v 7 = .agg cs ∧ Blk W g 28 cs)) ∧ (D 8 = true → D 9 = true → v 8 ≠ v 9))
  (Reg.inl [3, 7, 8, 9, 10, 11]) (Reg.gv [(3, IsFr), (7, IsFr), (8, IsPtr), (9, IsPtr)]) (gw [(3, GFr (x)), (7, GFr (y))]) (fun _ => Keeps) (fun _ _ => False) (Reg.pl [(10, [(3, some 13), (8, some 8)]), (11, [(7, some 17), (9, some 9)]), (12, [(3, some 13), (7, some 17), (8, some 8), (9, some 9)])]) (Reg.pl [(8, [10]), (3, [10]), (9, [11]), (7, [11])])
  (by kernel_rfl) (by kernel_rfl) (by kernel_rfl) (Reg.gvA _) (fun N0 hN0 => ⟨fun v => ?_, fun D v v' W hv hj => ?_, fun D v k j W W' x _ _ _ _ hk hg => gwA hk hg, fun _ _ _ _ h => h.elim, fun ops' Q' hops hQ => ?_⟩)
 · exact ⟨belowB, keepsB, by first | with_reducible exact Nat.le_of_eq hN0.out | (simp only [World.size_drew]; with_reducible exact Nat.le_of_eq hN0.out), ownK, ownK, ownK, ownK, (fun h => Bool.noConfusion h), (fun h => Bool.noConfusion h), (fun h => Bool.noConfusion h)⟩
 ·
  obtain ⟨j0, jk, jn, b_t, b_i, b_r, b_q, a_8, a_9, q_8_9⟩ := hj
  exact ⟨j0, jk, jn, b_t, b_i, b_r, b_q, fun h => by obtain ⟨g, e1, e2, e3, e4, e5⟩ := a_8 h; exact ⟨g, (hv 8 h) ▸ e1, e2, e3, e4, fun h => by obtain ⟨d, cs, e, hb⟩ := e5 h; exact ⟨d, cs, (hv 3 d) ▸ e, hb⟩⟩, fun h => by obtain ⟨g, e1, e2, e3, e4, e5⟩ := a_9 h; exact ⟨g, (hv 9 h) ▸ e1, e2, e3, e4, fun h => by obtain ⟨d, cs, e, hb⟩ := e5 h; exact ⟨d, cs, (hv 7 d) ▸ e, hb⟩⟩, fun h h' => (hv 8 h) ▸ (hv 9 h') ▸ q_8_9 h h'⟩
 have eN := hN0.out
 try simp only [World.size_alloc, World.size_setCell, World.size_drew, World.heap_drewN] at eN
 have i_t : w.heap.size < N0 := by first | omega | (have h := ot.lt; omega)
 have i_i : w.heap.size + 1 < N0 := by first | omega | (have h := oi.lt; omega)
 have i_r : w.heap.size + 1 + 1 < N0 := by first | omega | (have h := or.lt; omega)
 have i_q : w.heap.size + 1 + 1 + 1 < N0 := by first | omega | (have h := oq.lt; omega)
 have iw : w.heap.size ≤ N0 := by first | omega | (have h := B.size; omega)
 clear hN0 eN
 refine Reg.RP0 10 ?_
 refine Reg.RP0 11 ?_
 apply Reg.RP rfl rfl rfl 12 rfl rfl
 ·
  intro D v' W' hc hj hf K hK
  obtain ⟨j0, jk, jn, b_t, b_i, b_r, b_q, a_8, a_9, q_8_9⟩ := hj
  have c0 := b_i.q0
  go_step
  exact hK.out
 · rfl
 refine Reg.RC_call rfl (tlt rfl) rfl (fun D v' W' hc hj hf K hK => ?_) ?_
 ·
  obtain ⟨j0, jk, jn, b_t, b_i, b_r, b_q, a_8, a_9, q_8_9⟩ := hj
  clear hf
  go_step
  refine (ofx W' j0).mono ?_
  rintro e W2 ⟨u, rfl, hu, hs⟩
  obtain ⟨xa1, xa2, xa3, xa4, xa5, xa6, xa7, xa8, rfl⟩ := hu.shape
  exact hK.out _ W2 (Keeps.steps hs) ⟨jst j0 hs, jk.then_ hs, jsz jn hs, b_t.steps hs, b_i.steps hs, b_r.steps hs, b_q.steps hs, fun h => by obtain ⟨g, e1, e2, e3, e4, e5⟩ := a_8 h; exact ⟨g, e1, e2, Nat.lt_of_lt_of_le e3 (hs).size, fun h => (e4 h).steps hs, fun h => Bool.noConfusion ((hc.2 10 (by decide)).symm.trans h)⟩, fun h => by obtain ⟨g, e1, e2, e3, e4, e5⟩ := a_9 h; exact ⟨g, e1, e2, Nat.lt_of_lt_of_le e3 (hs).size, fun h => (e4 h).steps hs, fun h => by obtain ⟨d, cs, e, hb⟩ := e5 h; exact ⟨d, cs, e, hb.steps hs⟩⟩, q_8_9⟩ hu ⟨_, _, _, _, _, _, _, _, rfl⟩
 rintro _ ⟨xa1, xa2, xa3, xa4, xa5, xa6, xa7, xa8, rfl⟩
 refine Reg.at52 rfl ?_
 refine Reg.RP0 14 ?_
 refine Reg.RP0 15 ?_
 apply Reg.RP rfl rfl rfl 16 rfl rfl
 ·
  intro D v' W' hc hj hf K hK
  obtain ⟨j0, jk, jn, b_t, b_i, b_r, b_q, a_8, a_9, q_8_9⟩ := hj
  have c1 := b_i.q1
  go_step
  exact hK.out
 · rfl
 refine Reg.RC_call rfl (tlt rfl) rfl (fun D v' W' hc hj hf K hK => ?_) ?_
 ·
  obtain ⟨j0, jk, jn, b_t, b_i, b_r, b_q, a_8, a_9, q_8_9⟩ := hj
  clear hf
  go_step
  refine (ofy W' j0).mono ?_
  rintro e W2 ⟨u, rfl, hu, hs⟩
  obtain ⟨xb1, xb2, xb3, xb4, xb5, xb6, xb7, xb8, rfl⟩ := hu.shape
  exact hK.out _ W2 (Keeps.steps hs) ⟨jst j0 hs, jk.then_ hs, jsz jn hs, b_t.steps hs, b_i.steps hs, b_r.steps hs, b_q.steps hs, fun h => by obtain ⟨g, e1, e2, e3, e4, e5⟩ := a_8 h; exact ⟨g, e1, e2, Nat.lt_of_lt_of_le e3 (hs).size, fun h => (e4 h).steps hs, fun h => by obtain ⟨d, cs, e, hb⟩ := e5 h; exact ⟨d, cs, e, hb.steps hs⟩⟩, fun h => by obtain ⟨g, e1, e2, e3, e4, e5⟩ := a_9 h; exact ⟨g, e1, e2, Nat.lt_of_lt_of_le e3 (hs).size, fun h => (e4 h).steps hs, fun h => Bool.noConfusion ((hc.2 11 (by decide)).symm.trans h)⟩, q_8_9⟩ hu ⟨_, _, _, _, _, _, _, _, rfl⟩
 rintro _ ⟨xb1, xb2, xb3, xb4, xb5, xb6, xb7, xb8, rfl⟩
 refine Reg.at52 rfl ?_
 refine Reg.RC_call rfl (tlt rfl) rfl (fun D v' W' hc hj hf K hK => ?_) ?_
 ·
  obtain ⟨j0, jk, jn, b_t, b_i, b_r, b_q, a_8, a_9, q_8_9⟩ := hj
  go_step
  have hs : ∀ o : Obj, Steps W' (W'.alloc o) := fun o => (Below.refl _ _).alloc (Nat.le_refl _) o
  exact hK.out _ _ (Keeps.steps (hs _)) ⟨jst j0 (hs _), jk.then_ (hs _), jsz jn (hs _), b_t.steps (hs _), b_i.steps (hs _), b_r.steps (hs _), b_q.steps (hs _), fun _ => ⟨W'.heap.size, rfl, jn, by rw [World.size_alloc]; omega, fun _ => Blk.new _ _ _, fun h => Bool.noConfusion ((hc.2 10 (by decide)).symm.trans h)⟩, fun h => by obtain ⟨g, e1, e2, e3, e4, e5⟩ := a_9 h; exact ⟨g, e1, e2, Nat.lt_of_lt_of_le e3 ((hs _)).size, fun h => (e4 h).steps (hs _), fun h => by obtain ⟨d, cs, e, hb⟩ := e5 h; exact ⟨d, cs, e, hb.steps (hs _)⟩⟩, fun _ h' => by obtain ⟨g, e1, e2, e3, e4, e5⟩ := a_9 h'; exact fun e => Reg.ptr_ne e3 (e.trans e1)⟩ trivial ⟨_, rfl⟩
 rintro _ ⟨p8, rfl⟩
 refine Reg.at52 rfl ?_
 refine Reg.RC_call rfl (tlt rfl) rfl (fun D v' W' hc hj hf K hK => ?_) ?_
 ·
  obtain ⟨j0, jk, jn, b_t, b_i, b_r, b_q, a_8, a_9, q_8_9⟩ := hj
  go_step
  have hs : ∀ o : Obj, Steps W' (W'.alloc o) := fun o => (Below.refl _ _).alloc (Nat.le_refl _) o
  exact hK.out _ _ (Keeps.steps (hs _)) ⟨jst j0 (hs _), jk.then_ (hs _), jsz jn (hs _), b_t.steps (hs _), b_i.steps (hs _), b_r.steps (hs _), b_q.steps (hs _), fun h => by obtain ⟨g, e1, e2, e3, e4, e5⟩ := a_8 h; exact ⟨g, e1, e2, Nat.lt_of_lt_of_le e3 ((hs _)).size, fun h => (e4 h).steps (hs _), fun h => by obtain ⟨d, cs, e, hb⟩ := e5 h; exact ⟨d, cs, e, hb.steps (hs _)⟩⟩, fun _ => ⟨W'.heap.size, rfl, jn, by rw [World.size_alloc]; omega, fun _ => Blk.new _ _ _, fun h => Bool.noConfusion ((hc.2 11 (by decide)).symm.trans h)⟩, fun h _ => by obtain ⟨g, e1, e2, e3, e4, e5⟩ := a_8 h; exact fun e => Reg.ptr_ne e3 (e.symm.trans e1)⟩ trivial ⟨_, rfl⟩
 rintro _ ⟨p9, rfl⟩
 refine Reg.at52 rfl ?_
 refine Reg.RC_call rfl (by intro t ht; cases ht) rfl (fun D v' W' hc hj hf K hK => ?_) (fun _ _ => Reg.RC_at (b := ⟨_, _⟩) rfl ?_)
 ·
  obtain ⟨j0, jk, jn, b_t, b_i, b_r, b_q, a_8, a_9, q_8_9⟩ := hj
  have f := hf (8, some 8) (.tail _ (.head _)) rfl
  have e6 : v' 8 = .pointer (some ⟨p8, 0, none⟩) := f.2.1
  obtain ⟨g, e1, e2, e3, e4, e5⟩ := a_8 f.1
  obtain rfl : p8 = g := Reg.ptr_eq (e6.symm.trans e1)
  have hb := e4 hc.1
  clear e4 e5
  have fc := hf (3, some 13) (.head _) rfl
  have ec : v' 3 = .agg #[.bool xa1, .slice xa2 xa3 xa4, .bool xa5, .slice xa6 xa7 xa8] := fc.2.1
  have ff := hb.fr
  obtain ⟨cc0, cc1, cc2, cc3⟩ := hb.r3
  go_step
  exact hK.out undef _ (keeps4 hb rfl) ⟨(below4 j0 (by show w.heap.size ≤ p8; omega)), jk.trans (keeps4 hb rfl), by simpa using jn, (b_t).far4 (show w.heap.size ≠ p8 by omega), (b_i).far4 (show w.heap.size + 1 ≠ p8 by omega), (b_r).far4 (show w.heap.size + 1 + 1 ≠ p8 by omega), (b_q).far4 (show w.heap.size + 1 + 1 + 1 ≠ p8 by omega), fun _ => ⟨p8, e1, e2, by simpa using e3, fun h => Bool.noConfusion h, fun _ => ⟨fc.1, _, ec, (Blk.set2 (cs' := #[.bool xa1, .slice xa2 xa3 xa4, .bool xa5, .slice xa6 xa7 xa8]) (Blk.set2 (cs' := #[.bool xa1, .slice xa2 xa3 xa4, .bool xa5, .slice none 0 0]) (Blk.set2 (cs' := #[.bool xa1, .slice xa2 xa3 xa4, .bool false, .slice none 0 0]) (Blk.set2 (cs' := #[.bool xa1, .slice none 0 0, .bool false, .slice none 0 0]) hb (i := 0) rfl) (i := 1) rfl) (i := 2) rfl) (i := 3) rfl)⟩⟩, fun h => by obtain ⟨g, k1, k2, k3, k4, k5⟩ := a_9 h; have hne : g ≠ p8 := fun e => (q_8_9 f.1 h) (by rw [e6, k1, e]); exact ⟨g, k1, k2, by simpa using k3, fun h => (k4 h).far4 hne, fun h => by obtain ⟨d, cs, e, hb2⟩ := k5 h; exact ⟨d, cs, e, (hb2).far4 hne⟩⟩, q_8_9⟩ trivial trivial
 refine Reg.RC_call rfl (by intro t ht; cases ht) rfl (fun D v' W' hc hj hf K hK => ?_) (fun _ _ => Reg.RC_at (b := ⟨_, _⟩) rfl ?_)
 ·
  obtain ⟨j0, jk, jn, b_t, b_i, b_r, b_q, a_8, a_9, q_8_9⟩ := hj
  have f := hf (9, some 9) (.tail _ (.head _)) rfl
  have e6 : v' 9 = .pointer (some ⟨p9, 0, none⟩) := f.2.1
  obtain ⟨g, e1, e2, e3, e4, e5⟩ := a_9 f.1
  obtain rfl : p9 = g := Reg.ptr_eq (e6.symm.trans e1)
  have hb := e4 hc.1
  clear e4 e5
  have fc := hf (7, some 17) (.head _) rfl
  have ec : v' 7 = .agg #[.bool xb1, .slice xb2 xb3 xb4, .bool xb5, .slice xb6 xb7 xb8] := fc.2.1
  have ff := hb.fr
  obtain ⟨cc0, cc1, cc2, cc3⟩ := hb.r3
  go_step
  exact hK.out undef _ (keeps4 hb rfl) ⟨(below4 j0 (by show w.heap.size ≤ p9; omega)), jk.trans (keeps4 hb rfl), by simpa using jn, (b_t).far4 (show w.heap.size ≠ p9 by omega), (b_i).far4 (show w.heap.size + 1 ≠ p9 by omega), (b_r).far4 (show w.heap.size + 1 + 1 ≠ p9 by omega), (b_q).far4 (show w.heap.size + 1 + 1 + 1 ≠ p9 by omega), fun h => by obtain ⟨g, k1, k2, k3, k4, k5⟩ := a_8 h; have hne : g ≠ p9 := fun e => (q_8_9 h f.1) (by rw [e6, k1, e]); exact ⟨g, k1, k2, by simpa using k3, fun h => (k4 h).far4 hne, fun h => by obtain ⟨d, cs, e, hb2⟩ := k5 h; exact ⟨d, cs, e, (hb2).far4 hne⟩⟩, fun _ => ⟨p9, e1, e2, by simpa using e3, fun h => Bool.noConfusion h, fun _ => ⟨fc.1, _, ec, (Blk.set2 (cs' := #[.bool xb1, .slice xb2 xb3 xb4, .bool xb5, .slice xb6 xb7 xb8]) (Blk.set2 (cs' := #[.bool xb1, .slice xb2 xb3 xb4, .bool xb5, .slice none 0 0]) (Blk.set2 (cs' := #[.bool xb1, .slice xb2 xb3 xb4, .bool false, .slice none 0 0]) (Blk.set2 (cs' := #[.bool xb1, .slice none 0 0, .bool false, .slice none 0 0]) hb (i := 0) rfl) (i := 1) rfl) (i := 2) rfl) (i := 3) rfl)⟩⟩, q_8_9⟩ trivial trivial
 refine Reg.RC_end (fun Dn v' w1 hd hj hf => ?_)
 obtain ⟨j0, jk, jn, b_t, b_i, b_r, b_q, a_8, a_9, q_8_9⟩ := hj
 have B := j0
 have ot := b_t
 clear b_t
 have oi := b_i
 clear b_i
 have or := b_r
 clear b_r
 have oq := b_q
 clear b_q
 have f := hf (8, some 8) (.tail _ (.tail _ (.head _))) rfl
 have e6_ : v' 8 = .pointer (some ⟨p8, 0, none⟩) := f.2.1
 obtain ⟨g, e1_, zv8, -, -, e5_⟩ := a_8 f.1
 obtain rfl : p8 = g := Reg.ptr_eq (e6_.symm.trans e1_)
 obtain ⟨-, cs_, ee, ov8⟩ := e5_ (hd 10 (Nat.le_of_ble_eq_true rfl))
 have ef : v' 3 = .agg #[.bool xa1, .slice xa2 xa3 xa4, .bool xa5, .slice xa6 xa7 xa8] := (hf (3, some 13) (.head _) rfl).2.1
 obtain rfl : #[.bool xa1, .slice xa2 xa3 xa4, .bool xa5, .slice xa6 xa7 xa8] = cs_ := by have := ef.symm.trans ee; simpa only [Value.tuple.injEq, Value.agg.injEq, Array.mk.injEq, List.cons.injEq, and_true, true_and] using this
 clear ee ef f e5_ e1_ e6_
 have f := hf (9, some 9) (.tail _ (.tail _ (.tail _ (.head _)))) rfl
 have e6_ : v' 9 = .pointer (some ⟨p9, 0, none⟩) := f.2.1
 obtain ⟨g, e1_, zv9, -, -, e5_⟩ := a_9 f.1
 obtain rfl : p9 = g := Reg.ptr_eq (e6_.symm.trans e1_)
 obtain ⟨-, cs_, ee, ov9⟩ := e5_ (hd 11 (Nat.le_of_ble_eq_true rfl))
 have ef : v' 7 = .agg #[.bool xb1, .slice xb2 xb3 xb4, .bool xb5, .slice xb6 xb7 xb8] := (hf (7, some 17) (.tail _ (.head _)) rfl).2.1
 obtain rfl : #[.bool xb1, .slice xb2 xb3 xb4, .bool xb5, .slice xb6 xb7 xb8] = cs_ := by have := ef.symm.trans ee; simpa only [Value.tuple.injEq, Value.agg.injEq, Array.mk.injEq, List.cons.injEq, and_true, true_and] using this
 clear ee ef f e5_ e1_ e6_
 have y_8_9 : p8 ≠ p9 := fun e => q_8_9 (hf (8, some 8) (.tail _ (.tail _ (.head _))) rfl).1 (hf (9, some 9) (.tail _ (.tail _ (.tail _ (.head _)))) rfl).1 (by have h1 := (hf (8, some 8) (.tail _ (.tail _ (.head _))) rfl).2.1; have h2 := (hf (9, some 9) (.tail _ (.tail _ (.tail _ (.head _)))) rfl).2.1; rw [h1, h2]; show Value.pointer _ = .pointer _; rw [e])
 have Fxa : Hid (FR w1 (.agg #[.bool xa1, .slice xa2 xa3 xa4, .bool xa5, .slice xa6 xa7 xa8]) (x)) := (hf (3, some 13) (.head _) rfl).2.2
 have Fxb : Hid (FR w1 (.agg #[.bool xb1, .slice xb2 xb3 xb4, .bool xb5, .slice xb6 xb7 xb8]) (y)) := (hf (7, some 17) (.tail _ (.head _)) rfl).2.2
 replace F0 := Hid.mk_ (F0.out.keeps jk)
 replace F1 := Hid.mk_ (F1.out.keeps jk)
 replace F2 := Hid.mk_ (F2.out.keeps jk)
 replace F3 := Hid.mk_ (F3.out.keeps jk)
 clear hd hf jk j0 q_8_9
 refine hQ _ _ ?_
 clear hQ hops Q' ops'
 obtain ⟨ct0, ct1, ct2, ct3, ct4, ct5, ct6, ct7, ct8, ct9, ct10, ct11, ct12, ct13, ct14, ct15⟩ := ot.r15
 have lt := ot.lt
 have li := oi.lt
 have lr := or.lt
 have lq := oq.lt
 obtain ⟨cv80, cv81, cv82, cv83⟩ := ov8.r3
 have lv8 := ov8.lt
 obtain ⟨cv90, cv91, cv92, cv93⟩ := ov9.r3
 have lv9 := ov9.lt
 have zv9_1 : p9 < w1.heap.size := ov9.lt
 have zv8_1 : p8 < w1.heap.size := ov8.lt
 have zz1 := B.size
 go_upto_region 2 with fail
 refine Reg.wp_chain_n (fun N0 D v W => Below w.heap.size w W ∧ Keeps w1 W ∧ N0 ≤ W.heap.size ∧ Blk W (w.heap.size) 30 #[.bool ka1, .slice ka2 ka3 ka4, .bool ka5, .slice ka6 ka7 ka8, .bool kb1, .slice kb2 kb3 kb4, .bool kb5, .slice kb6 kb7 kb8, .bool kc1, .slice kc2 kc3 kc4, .bool kc5, .slice kc6 kc7 kc8, .bool kd1, .slice kd2 kd3 kd4, .bool kd5, .slice kd6 kd7 kd8] ∧ Blk W (w.heap.size + 1) 23 #[.int .i64 px, .int .i64 py] ∧ ((D 16 = false → Blk W (w.heap.size + 1 + 1) 28 #[.bool false, .slice none 0 0, .bool false, .slice none 0 0]) ∧ (D 16 = true → D 15 = true ∧ ∃ cs, v 15 = .agg cs ∧ Blk W (w.heap.size + 1 + 1) 28 cs)) ∧ Blk W (w.heap.size + 1 + 1 + 1) 28 #[.bool false, .slice none 0 0, .bool false, .slice none 0 0] ∧ Blk W (p8) 28 #[.bool xa1, .slice xa2 xa3 xa4, .bool xa5, .slice xa6 xa7 xa8] ∧ Blk W (p9) 28 #[.bool xb1, .slice xb2 xb3 xb4, .bool xb5, .slice xb6 xb7 xb8])
  (Reg.inl [6, 11, 12, 15, 16]) (Reg.gv [(6, IsFr), (11, IsFr), (12, IsFr), (15, IsFr)]) (gw [(6, GFr ((p * x))), (11, GFr ((q * y))), (12, GFr (((p * x) - (q * y)))), (15, GFr ((((p * x) - (q * y)) + r)))]) (fun _ => Keeps) (fun _ _ => False) (Reg.pl [(12, [(6, some 24), (11, some 29)]), (15, [(12, some 30)]), (16, [(15, some 33)]), (17, [(6, some 24), (11, some 29), (12, some 30), (15, some 33)])]) (Reg.pl [(15, [16])])
  (by kernel_rfl) (by kernel_rfl) (by kernel_rfl) (Reg.gvA _) (fun N0 hN0 => ⟨fun v => ?_, fun D v v' W hv hj => ?_, fun D v k j W W' x _ _ _ _ hk hg => gwA hk hg, fun _ _ _ _ h => h.elim, fun ops' Q' hops hQ => ?_⟩)
 · exact ⟨belowB, keepsB, by first | with_reducible exact Nat.le_of_eq hN0.out | (simp only [World.size_drew]; with_reducible exact Nat.le_of_eq hN0.out), ownK, ownK, ⟨fun _ => ownK, (fun h => Bool.noConfusion h)⟩, ownK, ownK, ownK⟩
 ·
  obtain ⟨j0, jk, jn, b_t, b_i, b_r, b_q, b_v8, b_v9⟩ := hj
  exact ⟨j0, jk, jn, b_t, b_i, ⟨b_r.1, fun h => by obtain ⟨d, cs, e, hb⟩ := b_r.2 h; exact ⟨d, cs, (hv 15 d) ▸ e, hb⟩⟩, b_q, b_v8, b_v9⟩
 have eN := hN0.out
 try simp only [World.size_alloc, World.size_setCell, World.size_drew, World.heap_drewN] at eN
 have i_t : w.heap.size < N0 := by first | omega | (have h := ot.lt; omega)
 have i_i : w.heap.size + 1 < N0 := by first | omega | (have h := oi.lt; omega)
 have i_r : w.heap.size + 1 + 1 < N0 := by first | omega | (have h := or.lt; omega)
 have i_q : w.heap.size + 1 + 1 + 1 < N0 := by first | omega | (have h := oq.lt; omega)
 have i_v8 : p8 < N0 := by first | omega | (have h := ov8.lt; omega)
 have i_v9 : p9 < N0 := by first | omega | (have h := ov9.lt; omega)
 have iw : w.heap.size ≤ N0 := by first | omega | (have h := B.size; omega)
 clear ct0 ct1 ct2 ct3 ct4 ct5 ct6 ct7 ct8 ct9 ct10 ct11 ct12 ct13 ct14 ct15 lt li lr lq cv80 cv81 cv82 cv83 lv8 cv90 cv91 cv92 cv93 lv9
 clear hN0
 refine Reg.RP0 18 ?_
 refine Reg.RP0 19 ?_
 refine Reg.RP0 20 ?_
 refine Reg.RP0 21 ?_
 apply Reg.RP rfl rfl rfl 22 rfl rfl
 ·
  intro D v' W' hc hj hf K hK
  obtain ⟨j0, jk, jn, b_t, b_i, b_r, b_q, b_v8, b_v9⟩ := hj
  obtain ⟨c0, c1, c2, c3⟩ := b_t.r3
  go_step
  exact hK.out
 · rfl
 apply Reg.RP rfl rfl rfl 23 rfl rfl
 ·
  intro D v' W' hc hj hf K hK
  obtain ⟨j0, jk, jn, b_t, b_i, b_r, b_q, b_v8, b_v9⟩ := hj
  obtain ⟨c0, c1, c2, c3⟩ := b_v8.r3
  go_step
  exact hK.out
 · rfl
 refine Reg.RC_call rfl (tlt rfl) rfl (fun D v' W' hc hj hf K hK => ?_) ?_
 ·
  obtain ⟨j0, jk, jn, b_t, b_i, b_r, b_q, b_v8, b_v9⟩ := hj
  clear hf
  go_step
  refine (mmul W' (KC _ j0) (F0.out.keeps jk) (Fxa.out.keeps jk) s0 sx (by omega)).mono ?_
  rintro e W2 ⟨u, rfl, hu, hs⟩
  obtain ⟨xc1, xc2, xc3, xc4, xc5, xc6, xc7, xc8, rfl⟩ := hu.shape
  exact hK.out _ W2 (Keeps.steps hs) ⟨jst j0 hs, jk.then_ hs, jsz jn hs, b_t.steps hs, b_i.steps hs, ⟨fun h => (b_r.1 h).steps hs, fun h => by obtain ⟨d, cs, e, hb⟩ := b_r.2 h; exact ⟨d, cs, e, hb.steps hs⟩⟩, b_q.steps hs, b_v8.steps hs, b_v9.steps hs⟩ hu ⟨_, _, _, _, _, _, _, _, rfl⟩
 rintro _ ⟨xc1, xc2, xc3, xc4, xc5, xc6, xc7, xc8, rfl⟩
 refine Reg.at52 rfl ?_
 refine Reg.RP0 25 ?_
 refine Reg.RP0 26 ?_
 apply Reg.RP rfl rfl rfl 27 rfl rfl
 ·
  intro D v' W' hc hj hf K hK
  obtain ⟨j0, jk, jn, b_t, b_i, b_r, b_q, b_v8, b_v9⟩ := hj
  have c4 := b_t.q4
  have c5 := b_t.q5
  have c6 := b_t.q6
  have c7 := b_t.q7
  go_step
  exact hK.out
 · rfl
 apply Reg.RP rfl rfl rfl 28 rfl rfl
 ·
  intro D v' W' hc hj hf K hK
  obtain ⟨j0, jk, jn, b_t, b_i, b_r, b_q, b_v8, b_v9⟩ := hj
  obtain ⟨c0, c1, c2, c3⟩ := b_v9.r3
  go_step
  exact hK.out
 · rfl
 refine Reg.RC_call rfl (tlt rfl) rfl (fun D v' W' hc hj hf K hK => ?_) ?_
 ·
  obtain ⟨j0, jk, jn, b_t, b_i, b_r, b_q, b_v8, b_v9⟩ := hj
  clear hf
  go_step
  refine (mmul W' (KC _ j0) (F1.out.keeps jk) (Fxb.out.keeps jk) s1 sy (by omega)).mono ?_
  rintro e W2 ⟨u, rfl, hu, hs⟩
  obtain ⟨xd1, xd2, xd3, xd4, xd5, xd6, xd7, xd8, rfl⟩ := hu.shape
  exact hK.out _ W2 (Keeps.steps hs) ⟨jst j0 hs, jk.then_ hs, jsz jn hs, b_t.steps hs, b_i.steps hs, ⟨fun h => (b_r.1 h).steps hs, fun h => by obtain ⟨d, cs, e, hb⟩ := b_r.2 h; exact ⟨d, cs, e, hb.steps hs⟩⟩, b_q.steps hs, b_v8.steps hs, b_v9.steps hs⟩ hu ⟨_, _, _, _, _, _, _, _, rfl⟩
 rintro _ ⟨xd1, xd2, xd3, xd4, xd5, xd6, xd7, xd8, rfl⟩
 refine Reg.at52 rfl ?_
 refine Reg.RC_call rfl (tlt rfl) rfl (fun D v' W' hc hj hf K hK => ?_) ?_
 ·
  obtain ⟨j0, jk, jn, b_t, b_i, b_r, b_q, b_v8, b_v9⟩ := hj
  have g6 : GFr ((p * x)) _ W' := (hf (6, some 24) (.head _) rfl).2.2
  have g6 : FR W' _ ((p * x)) := g6
  have g11 : GFr ((q * y)) _ W' := (hf (11, some 29) (.tail _ (.head _)) rfl).2.2
  have g11 : FR W' _ ((q * y)) := g11
  clear hf
  go_step
  refine (msub W' (KC _ j0) g6 g11 (s0.mul sx) (s1.mul sy) (by omega)).mono ?_
  rintro e W2 ⟨u, rfl, hu, hs⟩
  obtain ⟨xe1, xe2, xe3, xe4, xe5, xe6, xe7, xe8, rfl⟩ := hu.shape
  exact hK.out _ W2 (Keeps.steps hs) ⟨jst j0 hs, jk.then_ hs, jsz jn hs, b_t.steps hs, b_i.steps hs, ⟨fun h => (b_r.1 h).steps hs, fun h => by obtain ⟨d, cs, e, hb⟩ := b_r.2 h; exact ⟨d, cs, e, hb.steps hs⟩⟩, b_q.steps hs, b_v8.steps hs, b_v9.steps hs⟩ hu ⟨_, _, _, _, _, _, _, _, rfl⟩
 rintro _ ⟨xe1, xe2, xe3, xe4, xe5, xe6, xe7, xe8, rfl⟩
 refine Reg.at52 rfl ?_
 refine Reg.RP0 31 ?_
 apply Reg.RP rfl rfl rfl 32 rfl rfl
 ·
  intro D v' W' hc hj hf K hK
  obtain ⟨j0, jk, jn, b_t, b_i, b_r, b_q, b_v8, b_v9⟩ := hj
  have c8 := b_t.q8
  have c9 := b_t.q9
  have c10 := b_t.q10
  have c11 := b_t.q11
  go_step
  exact hK.out
 · rfl
 refine Reg.RC_call rfl (tlt rfl) rfl (fun D v' W' hc hj hf K hK => ?_) ?_
 ·
  obtain ⟨j0, jk, jn, b_t, b_i, b_r, b_q, b_v8, b_v9⟩ := hj
  have g12 : GFr (((p * x) - (q * y))) _ W' := (hf (12, some 30) (.head _) rfl).2.2
  have g12 : FR W' _ (((p * x) - (q * y))) := g12
  clear hf
  go_step
  refine (madd W' (KC _ j0) g12 (F2.out.keeps jk) ((s0.mul sx).sub (s1.mul sy)) s2 (by omega)).mono ?_
  rintro e W2 ⟨u, rfl, hu, hs⟩
  obtain ⟨xf1, xf2, xf3, xf4, xf5, xf6, xf7, xf8, rfl⟩ := hu.shape
  exact hK.out _ W2 (Keeps.steps hs) ⟨jst j0 hs, jk.then_ hs, jsz jn hs, b_t.steps hs, b_i.steps hs, ⟨fun h => (b_r.1 h).steps hs, fun h => Bool.noConfusion ((hc.2 16 (by decide)).symm.trans h)⟩, b_q.steps hs, b_v8.steps hs, b_v9.steps hs⟩ hu ⟨_, _, _, _, _, _, _, _, rfl⟩
 rintro _ ⟨xf1, xf2, xf3, xf4, xf5, xf6, xf7, xf8, rfl⟩
 refine Reg.at52 rfl ?_
 refine Reg.RC_call rfl (by intro t ht; cases ht) rfl (fun D v' W' hc hj hf K hK => ?_) (fun _ _ => Reg.RC_at (b := ⟨_, _⟩) rfl ?_)
 ·
  obtain ⟨j0, jk, jn, b_t, b_i, b_r, b_q, b_v8, b_v9⟩ := hj
  have hb := b_r.1 hc.1
  have e2 : w.heap.size ≤ w.heap.size + 1 + 1 := by omega
  have fc := hf (15, some 33) (.head _) rfl
  have ec : v' 15 = .agg #[.bool xf1, .slice xf2 xf3 xf4, .bool xf5, .slice xf6 xf7 xf8] := fc.2.1
  have ff := hb.fr
  obtain ⟨cc0, cc1, cc2, cc3⟩ := hb.r3
  go_step
  exact hK.out undef _ (keeps4 hb rfl) ⟨(below4 j0 (by show w.heap.size ≤ w.heap.size + 1 + 1; omega)), jk.trans (keeps4 hb rfl), by simpa using jn, (b_t).far4 (show w.heap.size ≠ w.heap.size + 1 + 1 by omega), (b_i).far4 (show w.heap.size + 1 ≠ w.heap.size + 1 + 1 by omega), ⟨fun h => Bool.noConfusion h, fun _ => ⟨fc.1, _, ec, (Blk.set2 (cs' := #[.bool xf1, .slice xf2 xf3 xf4, .bool xf5, .slice xf6 xf7 xf8]) (Blk.set2 (cs' := #[.bool xf1, .slice xf2 xf3 xf4, .bool xf5, .slice none 0 0]) (Blk.set2 (cs' := #[.bool xf1, .slice xf2 xf3 xf4, .bool false, .slice none 0 0]) (Blk.set2 (cs' := #[.bool xf1, .slice none 0 0, .bool false, .slice none 0 0]) hb (i := 0) rfl) (i := 1) rfl) (i := 2) rfl) (i := 3) rfl)⟩⟩, (b_q).far4 (show w.heap.size + 1 + 1 + 1 ≠ w.heap.size + 1 + 1 by omega), (b_v8).far4 (show p8 ≠ w.heap.size + 1 + 1 by omega), (b_v9).far4 (show p9 ≠ w.heap.size + 1 + 1 by omega)⟩ trivial trivial
 refine Reg.RC_end (fun Dn v' w2 hd hj hf => ?_)
 obtain ⟨j0, jk, jn, b_t, b_i, b_r, b_q, b_v8, b_v9⟩ := hj
 have B := j0
 have ot := b_t
 clear b_t
 have oi := b_i
 clear b_i
 obtain ⟨-, cs_, ee, or⟩ := b_r.2 (hd 16 (Nat.le_of_ble_eq_true rfl))
 have ef : v' 15 = .agg #[.bool xf1, .slice xf2 xf3 xf4, .bool xf5, .slice xf6 xf7 xf8] := (hf (15, some 33) (.tail _ (.tail _ (.tail _ (.head _)))) rfl).2.1
 obtain rfl : #[.bool xf1, .slice xf2 xf3 xf4, .bool xf5, .slice xf6 xf7 xf8] = cs_ := by have := ef.symm.trans ee; simpa only [Value.tuple.injEq, Value.agg.injEq, Array.mk.injEq, List.cons.injEq, and_true, true_and] using this
 clear b_r ee ef
 have oq := b_q
 clear b_q
 have ov8 := b_v8
 clear b_v8
 have ov9 := b_v9
 clear b_v9
 have Fxf : Hid (FR w2 (.agg #[.bool xf1, .slice xf2 xf3 xf4, .bool xf5, .slice xf6 xf7 xf8]) ((((p * x) - (q * y)) + r))) := (hf (15, some 33) (.tail _ (.tail _ (.tail _ (.head _)))) rfl).2.2
 replace F0 := Hid.mk_ (F0.out.keeps jk)
 replace F1 := Hid.mk_ (F1.out.keeps jk)
 replace F2 := Hid.mk_ (F2.out.keeps jk)
 replace F3 := Hid.mk_ (F3.out.keeps jk)
 replace Fxa := Hid.mk_ (Fxa.out.keeps jk)
 replace Fxb := Hid.mk_ (Fxb.out.keeps jk)
 clear hd hf jk j0
 refine hQ _ _ ?_
 clear hQ hops Q' ops'
 obtain ⟨ct0, ct1, ct2, ct3, ct4, ct5, ct6, ct7, ct8, ct9, ct10, ct11, ct12, ct13, ct14, ct15⟩ := ot.r15
 have lt := ot.lt
 have li := oi.lt
 have lr := or.lt
 have lq := oq.lt
 obtain ⟨cv80, cv81, cv82, cv83⟩ := ov8.r3
 have lv8 := ov8.lt
 obtain ⟨cv90, cv91, cv92, cv93⟩ := ov9.r3
 have lv9 := ov9.lt
 have zv9_2 : p9 < w2.heap.size := ov9.lt
 have zv8_2 : p8 < w2.heap.size := ov8.lt
 have zz2 := B.size
 go_upto_region 3 with fail
 refine Reg.wp_chain_n (fun N0 D v W => Below w.heap.size w W ∧ Keeps w2 W ∧ N0 ≤ W.heap.size ∧ Blk W (w.heap.size) 30 #[.bool ka1, .slice ka2 ka3 ka4, .bool ka5, .slice ka6 ka7 ka8, .bool kb1, .slice kb2 kb3 kb4, .bool kb5, .slice kb6 kb7 kb8, .bool kc1, .slice kc2 kc3 kc4, .bool kc5, .slice kc6 kc7 kc8, .bool kd1, .slice kd2 kd3 kd4, .bool kd5, .slice kd6 kd7 kd8] ∧ Blk W (w.heap.size + 1) 23 #[.int .i64 px, .int .i64 py] ∧ Blk W (w.heap.size + 1 + 1) 28 #[.bool xf1, .slice xf2 xf3 xf4, .bool xf5, .slice xf6 xf7 xf8] ∧ ((D 16 = false → Blk W (w.heap.size + 1 + 1 + 1) 28 #[.bool false, .slice none 0 0, .bool false, .slice none 0 0]) ∧ (D 16 = true → D 15 = true ∧ ∃ cs, v 15 = .agg cs ∧ Blk W (w.heap.size + 1 + 1 + 1) 28 cs)) ∧ Blk W (p8) 28 #[.bool xa1, .slice xa2 xa3 xa4, .bool xa5, .slice xa6 xa7 xa8] ∧ Blk W (p9) 28 #[.bool xb1, .slice xb2 xb3 xb4, .bool xb5, .slice xb6 xb7 xb8])
  (Reg.inl [6, 11, 12, 15, 16]) (Reg.gv [(6, IsFr), (11, IsFr), (12, IsFr), (15, IsFr)]) (gw [(6, GFr ((q * x))), (11, GFr ((p * y))), (12, GFr (((q * x) + (p * y)))), (15, GFr ((((q * x) + (p * y)) + s)))]) (fun _ => Keeps) (fun _ _ => False) (Reg.pl [(12, [(6, some 40), (11, some 45)]), (15, [(12, some 46)]), (16, [(15, some 49)]), (17, [(6, some 40), (11, some 45), (12, some 46), (15, some 49)])]) (Reg.pl [(15, [16])])
  (by kernel_rfl) (by kernel_rfl) (by kernel_rfl) (Reg.gvA _) (fun N0 hN0 => ⟨fun v => ?_, fun D v v' W hv hj => ?_, fun D v k j W W' x _ _ _ _ hk hg => gwA hk hg, fun _ _ _ _ h => h.elim, fun ops' Q' hops hQ => ?_⟩)
 · exact ⟨belowB, keepsB, by first | with_reducible exact Nat.le_of_eq hN0.out | (simp only [World.size_drew]; with_reducible exact Nat.le_of_eq hN0.out), ownK, ownK, ownK, ⟨fun _ => ownK, (fun h => Bool.noConfusion h)⟩, ownK, ownK⟩
 ·
  obtain ⟨j0, jk, jn, b_t, b_i, b_r, b_q, b_v8, b_v9⟩ := hj
  exact ⟨j0, jk, jn, b_t, b_i, b_r, ⟨b_q.1, fun h => by obtain ⟨d, cs, e, hb⟩ := b_q.2 h; exact ⟨d, cs, (hv 15 d) ▸ e, hb⟩⟩, b_v8, b_v9⟩
 have eN := hN0.out
 try simp only [World.size_alloc, World.size_setCell, World.size_drew, World.heap_drewN] at eN
 have i_t : w.heap.size < N0 := by first | omega | (have h := ot.lt; omega)
 have i_i : w.heap.size + 1 < N0 := by first | omega | (have h := oi.lt; omega)
 have i_r : w.heap.size + 1 + 1 < N0 := by first | omega | (have h := or.lt; omega)
 have i_q : w.heap.size + 1 + 1 + 1 < N0 := by first | omega | (have h := oq.lt; omega)
 have i_v8 : p8 < N0 := by first | omega | (have h := ov8.lt; omega)
 have i_v9 : p9 < N0 := by first | omega | (have h := ov9.lt; omega)
 have iw : w.heap.size ≤ N0 := by first | omega | (have h := B.size; omega)
 clear ct0 ct1 ct2 ct3 ct4 ct5 ct6 ct7 ct8 ct9 ct10 ct11 ct12 ct13 ct14 ct15 lt li lr lq cv80 cv81 cv82 cv83 lv8 cv90 cv91 cv92 cv93 lv9
 clear hN0
 refine Reg.RP0 34 ?_
 refine Reg.RP0 35 ?_
 refine Reg.RP0 36 ?_
 refine Reg.RP0 37 ?_
 apply Reg.RP rfl rfl rfl 38 rfl rfl
 ·
  intro D v' W' hc hj hf K hK
  obtain ⟨j0, jk, jn, b_t, b_i, b_r, b_q, b_v8, b_v9⟩ := hj
  have c4 := b_t.q4
  have c5 := b_t.q5
  have c6 := b_t.q6
  have c7 := b_t.q7
  go_step
  exact hK.out
 · rfl
 apply Reg.RP rfl rfl rfl 39 rfl rfl
 ·
  intro D v' W' hc hj hf K hK
  obtain ⟨j0, jk, jn, b_t, b_i, b_r, b_q, b_v8, b_v9⟩ := hj
  obtain ⟨c0, c1, c2, c3⟩ := b_v8.r3
  go_step
  exact hK.out
 · rfl
 refine Reg.RC_call rfl (tlt rfl) rfl (fun D v' W' hc hj hf K hK => ?_) ?_
 ·
  obtain ⟨j0, jk, jn, b_t, b_i, b_r, b_q, b_v8, b_v9⟩ := hj
  clear hf
  go_step
  refine (mmul W' (KC _ j0) (F1.out.keeps jk) (Fxa.out.keeps jk) s1 sx (by omega)).mono ?_
  rintro e W2 ⟨u, rfl, hu, hs⟩
  obtain ⟨xg1, xg2, xg3, xg4, xg5, xg6, xg7, xg8, rfl⟩ := hu.shape
  exact hK.out _ W2 (Keeps.steps hs) ⟨jst j0 hs, jk.then_ hs, jsz jn hs, b_t.steps hs, b_i.steps hs, b_r.steps hs, ⟨fun h => (b_q.1 h).steps hs, fun h => by obtain ⟨d, cs, e, hb⟩ := b_q.2 h; exact ⟨d, cs, e, hb.steps hs⟩⟩, b_v8.steps hs, b_v9.steps hs⟩ hu ⟨_, _, _, _, _, _, _, _, rfl⟩
 rintro _ ⟨xg1, xg2, xg3, xg4, xg5, xg6, xg7, xg8, rfl⟩
 refine Reg.at52 rfl ?_
 refine Reg.RP0 41 ?_
 refine Reg.RP0 42 ?_
 apply Reg.RP rfl rfl rfl 43 rfl rfl
 ·
  intro D v' W' hc hj hf K hK
  obtain ⟨j0, jk, jn, b_t, b_i, b_r, b_q, b_v8, b_v9⟩ := hj
  obtain ⟨c0, c1, c2, c3⟩ := b_t.r3
  go_step
  exact hK.out
 · rfl
 apply Reg.RP rfl rfl rfl 44 rfl rfl
 ·
  intro D v' W' hc hj hf K hK
  obtain ⟨j0, jk, jn, b_t, b_i, b_r, b_q, b_v8, b_v9⟩ := hj
  obtain ⟨c0, c1, c2, c3⟩ := b_v9.r3
  go_step
  exact hK.out
 · rfl
 refine Reg.RC_call rfl (tlt rfl) rfl (fun D v' W' hc hj hf K hK => ?_) ?_
 ·
  obtain ⟨j0, jk, jn, b_t, b_i, b_r, b_q, b_v8, b_v9⟩ := hj
  clear hf
  go_step
  refine (mmul W' (KC _ j0) (F0.out.keeps jk) (Fxb.out.keeps jk) s0 sy (by omega)).mono ?_
  rintro e W2 ⟨u, rfl, hu, hs⟩
  obtain ⟨xh1, xh2, xh3, xh4, xh5, xh6, xh7, xh8, rfl⟩ := hu.shape
  exact hK.out _ W2 (Keeps.steps hs) ⟨jst j0 hs, jk.then_ hs, jsz jn hs, b_t.steps hs, b_i.steps hs, b_r.steps hs, ⟨fun h => (b_q.1 h).steps hs, fun h => by obtain ⟨d, cs, e, hb⟩ := b_q.2 h; exact ⟨d, cs, e, hb.steps hs⟩⟩, b_v8.steps hs, b_v9.steps hs⟩ hu ⟨_, _, _, _, _, _, _, _, rfl⟩
 rintro _ ⟨xh1, xh2, xh3, xh4, xh5, xh6, xh7, xh8, rfl⟩
 refine Reg.at52 rfl ?_
 refine Reg.RC_call rfl (tlt rfl) rfl (fun D v' W' hc hj hf K hK => ?_) ?_
 ·
  obtain ⟨j0, jk, jn, b_t, b_i, b_r, b_q, b_v8, b_v9⟩ := hj
  have g6 : GFr ((q * x)) _ W' := (hf (6, some 40) (.head _) rfl).2.2
  have g6 : FR W' _ ((q * x)) := g6
  have g11 : GFr ((p * y)) _ W' := (hf (11, some 45) (.tail _ (.head _)) rfl).2.2
  have g11 : FR W' _ ((p * y)) := g11
  clear hf
  go_step
  refine (madd W' (KC _ j0) g6 g11 (s1.mul sx) (s0.mul sy) (by omega)).mono ?_
  rintro e W2 ⟨u, rfl, hu, hs⟩
  obtain ⟨xi1, xi2, xi3, xi4, xi5, xi6, xi7, xi8, rfl⟩ := hu.shape
  exact hK.out _ W2 (Keeps.steps hs) ⟨jst j0 hs, jk.then_ hs, jsz jn hs, b_t.steps hs, b_i.steps hs, b_r.steps hs, ⟨fun h => (b_q.1 h).steps hs, fun h => by obtain ⟨d, cs, e, hb⟩ := b_q.2 h; exact ⟨d, cs, e, hb.steps hs⟩⟩, b_v8.steps hs, b_v9.steps hs⟩ hu ⟨_, _, _, _, _, _, _, _, rfl⟩
 rintro _ ⟨xi1, xi2, xi3, xi4, xi5, xi6, xi7, xi8, rfl⟩
 refine Reg.at52 rfl ?_
 refine Reg.RP0 47 ?_
 apply Reg.RP rfl rfl rfl 48 rfl rfl
 ·
  intro D v' W' hc hj hf K hK
  obtain ⟨j0, jk, jn, b_t, b_i, b_r, b_q, b_v8, b_v9⟩ := hj
  have c12 := b_t.q12
  have c13 := b_t.q13
  have c14 := b_t.q14
  have c15 := b_t.q15
  go_step
  exact hK.out
 · rfl
 refine Reg.RC_call rfl (tlt rfl) rfl (fun D v' W' hc hj hf K hK => ?_) ?_
 ·
  obtain ⟨j0, jk, jn, b_t, b_i, b_r, b_q, b_v8, b_v9⟩ := hj
  have g12 : GFr (((q * x) + (p * y))) _ W' := (hf (12, some 46) (.head _) rfl).2.2
  have g12 : FR W' _ (((q * x) + (p * y))) := g12
  clear hf
  go_step
  refine (madd W' (KC _ j0) g12 (F3.out.keeps jk) ((s1.mul sx).add (s0.mul sy)) s3 (by omega)).mono ?_
  rintro e W2 ⟨u, rfl, hu, hs⟩
  obtain ⟨xj1, xj2, xj3, xj4, xj5, xj6, xj7, xj8, rfl⟩ := hu.shape
  exact hK.out _ W2 (Keeps.steps hs) ⟨jst j0 hs, jk.then_ hs, jsz jn hs, b_t.steps hs, b_i.steps hs, b_r.steps hs, ⟨fun h => (b_q.1 h).steps hs, fun h => Bool.noConfusion ((hc.2 16 (by decide)).symm.trans h)⟩, b_v8.steps hs, b_v9.steps hs⟩ hu ⟨_, _, _, _, _, _, _, _, rfl⟩
 rintro _ ⟨xj1, xj2, xj3, xj4, xj5, xj6, xj7, xj8, rfl⟩
 refine Reg.at52 rfl ?_
 refine Reg.RC_call rfl (by intro t ht; cases ht) rfl (fun D v' W' hc hj hf K hK => ?_) (fun _ _ => Reg.RC_at (b := ⟨_, _⟩) rfl ?_)
 ·
  obtain ⟨j0, jk, jn, b_t, b_i, b_r, b_q, b_v8, b_v9⟩ := hj
  have hb := b_q.1 hc.1
  have e2 : w.heap.size ≤ w.heap.size + 1 + 1 + 1 := by omega
  have fc := hf (15, some 49) (.head _) rfl
  have ec : v' 15 = .agg #[.bool xj1, .slice xj2 xj3 xj4, .bool xj5, .slice xj6 xj7 xj8] := fc.2.1
  have ff := hb.fr
  obtain ⟨cc0, cc1, cc2, cc3⟩ := hb.r3
  go_step
  exact hK.out undef _ (keeps4 hb rfl) ⟨(below4 j0 (by show w.heap.size ≤ w.heap.size + 1 + 1 + 1; omega)), jk.trans (keeps4 hb rfl), by simpa using jn, (b_t).far4 (show w.heap.size ≠ w.heap.size + 1 + 1 + 1 by omega), (b_i).far4 (show w.heap.size + 1 ≠ w.heap.size + 1 + 1 + 1 by omega), (b_r).far4 (show w.heap.size + 1 + 1 ≠ w.heap.size + 1 + 1 + 1 by omega), ⟨fun h => Bool.noConfusion h, fun _ => ⟨fc.1, _, ec, (Blk.set2 (cs' := #[.bool xj1, .slice xj2 xj3 xj4, .bool xj5, .slice xj6 xj7 xj8]) (Blk.set2 (cs' := #[.bool xj1, .slice xj2 xj3 xj4, .bool xj5, .slice none 0 0]) (Blk.set2 (cs' := #[.bool xj1, .slice xj2 xj3 xj4, .bool false, .slice none 0 0]) (Blk.set2 (cs' := #[.bool xj1, .slice none 0 0, .bool false, .slice none 0 0]) hb (i := 0) rfl) (i := 1) rfl) (i := 2) rfl) (i := 3) rfl)⟩⟩, (b_v8).far4 (show p8 ≠ w.heap.size + 1 + 1 + 1 by omega), (b_v9).far4 (show p9 ≠ w.heap.size + 1 + 1 + 1 by omega)⟩ trivial trivial
 refine Reg.RC_end (fun Dn v' w3 hd hj hf => ?_)
 obtain ⟨j0, jk, jn, b_t, b_i, b_r, b_q, b_v8, b_v9⟩ := hj
 have B := j0
 have ot := b_t
 clear b_t
 have oi := b_i
 clear b_i
 have or := b_r
 clear b_r
 obtain ⟨-, cs_, ee, oq⟩ := b_q.2 (hd 16 (Nat.le_of_ble_eq_true rfl))
 have ef : v' 15 = .agg #[.bool xj1, .slice xj2 xj3 xj4, .bool xj5, .slice xj6 xj7 xj8] := (hf (15, some 49) (.tail _ (.tail _ (.tail _ (.head _)))) rfl).2.1
 obtain rfl : #[.bool xj1, .slice xj2 xj3 xj4, .bool xj5, .slice xj6 xj7 xj8] = cs_ := by have := ef.symm.trans ee; simpa only [Value.tuple.injEq, Value.agg.injEq, Array.mk.injEq, List.cons.injEq, and_true, true_and] using this
 clear b_q ee ef
 have ov8 := b_v8
 clear b_v8
 have ov9 := b_v9
 clear b_v9
 have Fxj : Hid (FR w3 (.agg #[.bool xj1, .slice xj2 xj3 xj4, .bool xj5, .slice xj6 xj7 xj8]) ((((q * x) + (p * y)) + s))) := (hf (15, some 49) (.tail _ (.tail _ (.tail _ (.head _)))) rfl).2.2
 replace F0 := Hid.mk_ (F0.out.keeps jk)
 replace F1 := Hid.mk_ (F1.out.keeps jk)
 replace F2 := Hid.mk_ (F2.out.keeps jk)
 replace F3 := Hid.mk_ (F3.out.keeps jk)
 replace Fxa := Hid.mk_ (Fxa.out.keeps jk)
 replace Fxb := Hid.mk_ (Fxb.out.keeps jk)
 replace Fxf := Hid.mk_ (Fxf.out.keeps jk)
 clear hd hf jk j0
 refine hQ _ _ ?_
 clear hQ hops Q' ops'
 have lt := ot.lt
 have li := oi.lt
 obtain ⟨cr0, cr1, cr2, cr3⟩ := or.r3
 have lr := or.lt
 obtain ⟨cq0, cq1, cq2, cq3⟩ := oq.r3
 have lq := oq.lt
 have zv9_3 : p9 < w3.heap.size := ov9.lt
 have zv8_3 : p8 < w3.heap.size := ov8.lt
 have zz3 := B.size
 go_upto_region 4 with fail
 refine Reg.wp_chain_n (fun N0 D v W => Below w.heap.size w W ∧ Keeps w3 W ∧ N0 ≤ W.heap.size ∧ Blk W (w.heap.size) 30 #[.bool ka1, .slice ka2 ka3 ka4, .bool ka5, .slice ka6 ka7 ka8, .bool kb1, .slice kb2 kb3 kb4, .bool kb5, .slice kb6 kb7 kb8, .bool kc1, .slice kc2 kc3 kc4, .bool kc5, .slice kc6 kc7 kc8, .bool kd1, .slice kd2 kd3 kd4, .bool kd5, .slice kd6 kd7 kd8] ∧ Blk W (w.heap.size + 1) 23 #[.int .i64 px, .int .i64 py] ∧ ((D 2 = false → Blk W (w.heap.size + 1 + 1) 28 #[.bool xf1, .slice xf2 xf3 xf4, .bool xf5, .slice xf6 xf7 xf8]) ∧ (D 2 = true → Blk W (w.heap.size + 1 + 1) 28 #[.bool xf1, .slice xf2 xf3 xf4, .bool xf5, .slice xf6 xf7 xf8])) ∧ ((D 3 = false → Blk W (w.heap.size + 1 + 1 + 1) 28 #[.bool xj1, .slice xj2 xj3 xj4, .bool xj5, .slice xj6 xj7 xj8]) ∧ (D 3 = true → Blk W (w.heap.size + 1 + 1 + 1) 28 #[.bool xj1, .slice xj2 xj3 xj4, .bool xj5, .slice xj6 xj7 xj8])) ∧ Blk W (p8) 28 #[.bool xa1, .slice xa2 xa3 xa4, .bool xa5, .slice xa6 xa7 xa8] ∧ Blk W (p9) 28 #[.bool xb1, .slice xb2 xb3 xb4, .bool xb5, .slice xb6 xb7 xb8])
  (Reg.inl [2, 3]) (Reg.gv []) (gw []) (fun _ => Keeps) (fun _ _ => False) (Reg.pl [(4, [])]) (Reg.pl [(0, [2]), (1, [3])])
  (by kernel_rfl) (by kernel_rfl) (by kernel_rfl) (Reg.gv_some _ (by intro p hp; cases hp)) (fun N0 hN0 => ⟨fun v => ?_, fun D v v' W hv hj => ?_, fun D v k j W W' x _ _ _ _ hk hg => gw_keeps _ (by intro p hp; cases hp) hk hg, fun _ _ _ _ h => h.elim, fun ops' Q' hops hQ => ?_⟩)
 · exact ⟨belowB, keepsB, by first | with_reducible exact Nat.le_of_eq hN0.out | (simp only [World.size_drew]; with_reducible exact Nat.le_of_eq hN0.out), ownK, ownK, ⟨fun _ => ownK, (fun h => Bool.noConfusion h)⟩, ⟨fun _ => ownK, (fun h => Bool.noConfusion h)⟩, ownK, ownK⟩
 ·
  obtain ⟨j0, jk, jn, b_t, b_i, b_r, b_q, b_v8, b_v9⟩ := hj
  exact ⟨j0, jk, jn, b_t, b_i, b_r, b_q, b_v8, b_v9⟩
 have eN := hN0.out
 try simp only [World.size_alloc, World.size_setCell, World.size_drew, World.heap_drewN] at eN
 have i_t : w.heap.size < N0 := by first | omega | (have h := ot.lt; omega)
 have i_i : w.heap.size + 1 < N0 := by first | omega | (have h := oi.lt; omega)
 have i_r : w.heap.size + 1 + 1 < N0 := by first | omega | (have h := or.lt; omega)
 have i_q : w.heap.size + 1 + 1 + 1 < N0 := by first | omega | (have h := oq.lt; omega)
 have i_v8 : p8 < N0 := by first | omega | (have h := ov8.lt; omega)
 have i_v9 : p9 < N0 := by first | omega | (have h := ov9.lt; omega)
 have iw : w.heap.size ≤ N0 := by first | omega | (have h := B.size; omega)
 clear lt li cr0 cr1 cr2 cr3 lr cq0 cq1 cq2 cq3 lq
 clear hN0
 apply Reg.RP rfl rfl rfl 50 rfl rfl
 ·
  intro D v' W' hc hj hf K hK
  obtain ⟨j0, jk, jn, b_t, b_i, b_r, b_q, b_v8, b_v9⟩ := hj
  have b_r := b_r.1 (hc.2 2 (by decide))
  obtain ⟨c0, c1, c2, c3⟩ := b_r.r3
  go_step
  exact hK.out
 · rfl
 apply Reg.RP rfl rfl rfl 51 rfl rfl
 ·
  intro D v' W' hc hj hf K hK
  obtain ⟨j0, jk, jn, b_t, b_i, b_r, b_q, b_v8, b_v9⟩ := hj
  have b_q := b_q.1 (hc.2 3 (by decide))
  obtain ⟨c0, c1, c2, c3⟩ := b_q.r3
  go_step
  exact hK.out
 · rfl
 refine Reg.RC_call rfl (by intro t ht; cases ht) rfl (fun D v' W' hc hj hf K hK => ?_) (fun _ _ => Reg.RC_at (b := ⟨_, _⟩) rfl ?_)
 ·
  obtain ⟨j0, jk, jn, b_t, b_i, b_r, b_q, b_v8, b_v9⟩ := hj
  have hb := b_r.1 hc.1
  have e2 : w.heap.size ≤ w.heap.size + 1 + 1 := by omega
  have ff := hb.fr
  obtain ⟨cc0, cc1, cc2, cc3⟩ := hb.r3
  go_step
  exact hK.out undef _ (keeps4 hb rfl) ⟨(below4 j0 (by show w.heap.size ≤ w.heap.size + 1 + 1; omega)), jk.trans (keeps4 hb rfl), by simpa using jn, (b_t).far4 (show w.heap.size ≠ w.heap.size + 1 + 1 by omega), (b_i).far4 (show w.heap.size + 1 ≠ w.heap.size + 1 + 1 by omega), ⟨fun h => Bool.noConfusion h, fun _ => (Blk.set2 (cs' := #[.bool xf1, .slice xf2 xf3 xf4, .bool xf5, .slice xf6 xf7 xf8]) (Blk.set2 (cs' := #[.bool xf1, .slice xf2 xf3 xf4, .bool xf5, .slice xf6 xf7 xf8]) (Blk.set2 (cs' := #[.bool xf1, .slice xf2 xf3 xf4, .bool xf5, .slice xf6 xf7 xf8]) (Blk.set2 (cs' := #[.bool xf1, .slice xf2 xf3 xf4, .bool xf5, .slice xf6 xf7 xf8]) hb (i := 0) rfl) (i := 1) rfl) (i := 2) rfl) (i := 3) rfl)⟩, ⟨fun h => (b_q.1 h).far4 (show w.heap.size + 1 + 1 + 1 ≠ w.heap.size + 1 + 1 by omega), fun h => (b_q.2 h).far4 (show w.heap.size + 1 + 1 + 1 ≠ w.heap.size + 1 + 1 by omega)⟩, (b_v8).far4 (show p8 ≠ w.heap.size + 1 + 1 by omega), (b_v9).far4 (show p9 ≠ w.heap.size + 1 + 1 by omega)⟩ trivial trivial
 refine Reg.RC_call rfl (by intro t ht; cases ht) rfl (fun D v' W' hc hj hf K hK => ?_) (fun _ _ => Reg.RC_at (b := ⟨_, _⟩) rfl ?_)
 ·
  obtain ⟨j0, jk, jn, b_t, b_i, b_r, b_q, b_v8, b_v9⟩ := hj
  have hb := b_q.1 hc.1
  have e2 : w.heap.size ≤ w.heap.size + 1 + 1 + 1 := by omega
  have ff := hb.fr
  obtain ⟨cc0, cc1, cc2, cc3⟩ := hb.r3
  go_step
  exact hK.out undef _ (keeps4 hb rfl) ⟨(below4 j0 (by show w.heap.size ≤ w.heap.size + 1 + 1 + 1; omega)), jk.trans (keeps4 hb rfl), by simpa using jn, (b_t).far4 (show w.heap.size ≠ w.heap.size + 1 + 1 + 1 by omega), (b_i).far4 (show w.heap.size + 1 ≠ w.heap.size + 1 + 1 + 1 by omega), ⟨fun h => (b_r.1 h).far4 (show w.heap.size + 1 + 1 ≠ w.heap.size + 1 + 1 + 1 by omega), fun h => (b_r.2 h).far4 (show w.heap.size + 1 + 1 ≠ w.heap.size + 1 + 1 + 1 by omega)⟩, ⟨fun h => Bool.noConfusion h, fun _ => (Blk.set2 (cs' := #[.bool xj1, .slice xj2 xj3 xj4, .bool xj5, .slice xj6 xj7 xj8]) (Blk.set2 (cs' := #[.bool xj1, .slice xj2 xj3 xj4, .bool xj5, .slice xj6 xj7 xj8]) (Blk.set2 (cs' := #[.bool xj1, .slice xj2 xj3 xj4, .bool xj5, .slice xj6 xj7 xj8]) (Blk.set2 (cs' := #[.bool xj1, .slice xj2 xj3 xj4, .bool xj5, .slice xj6 xj7 xj8]) hb (i := 0) rfl) (i := 1) rfl) (i := 2) rfl) (i := 3) rfl)⟩, (b_v8).far4 (show p8 ≠ w.heap.size + 1 + 1 + 1 by omega), (b_v9).far4 (show p9 ≠ w.heap.size + 1 + 1 + 1 by omega)⟩ trivial trivial
 refine Reg.RC_end (fun Dn v' w4 hd hj hf => ?_)
 obtain ⟨j0, jk, jn, b_t, b_i, b_r, b_q, b_v8, b_v9⟩ := hj
 have B := j0
 have ot := b_t
 clear b_t
 have oi := b_i
 clear b_i
 have or := b_r.2 (hd 2 (Nat.le_of_ble_eq_true rfl))
 clear b_r
 have oq := b_q.2 (hd 3 (Nat.le_of_ble_eq_true rfl))
 clear b_q
 have ov8 := b_v8
 clear b_v8
 have ov9 := b_v9
 clear b_v9
 replace F0 := Hid.mk_ (F0.out.keeps jk)
 replace F1 := Hid.mk_ (F1.out.keeps jk)
 replace F2 := Hid.mk_ (F2.out.keeps jk)
 replace F3 := Hid.mk_ (F3.out.keeps jk)
 replace Fxa := Hid.mk_ (Fxa.out.keeps jk)
 replace Fxb := Hid.mk_ (Fxb.out.keeps jk)
 replace Fxf := Hid.mk_ (Fxf.out.keeps jk)
 replace Fxj := Hid.mk_ (Fxj.out.keeps jk)
 clear hd hf jk j0
 refine hQ _ _ ?_
 clear hQ hops Q' ops'
 have lt := ot.lt
 have li := oi.lt
 obtain ⟨cr0, cr1, cr2, cr3⟩ := or.r3
 have lr := or.lt
 obtain ⟨cq0, cq1, cq2, cq3⟩ := oq.r3
 have lq := oq.lt
 go_wp2_with fail
 refine bodyPost_ret (by simp [results, Tryz.results42, go_sem, lt, li, cr0, cr1, cr2, cr3, lr, cq0, cq1, cq2, cq3, lq]; rfl) rfl ?_
 exact ⟨_, _, rfl, Fxf.out.keeps keepsB, Fxj.out.keeps keepsB, belowB⟩
theorem rapply {ka1 ka5 kb1 kb5 kc1 kc5 kd1 kd5 : Bool} {ka2 ka6 kb2 kb6 kc2 kc6 kd2 kd6 : Option Addr} {ka3 ka4 ka7 ka8 kb3 kb4 kb7 kb8 kc3 kc4 kc7 kc8 kd3 kd4 kd7 kd8 : Nat} {t : Nat → Rat} (px py : Int) (w : World) (h0 : FR w (.agg #[.bool ka1, .slice ka2 ka3 ka4, .bool ka5, .slice ka6 ka7 ka8]) (t 0)) (h1 : FR w (.agg #[.bool kb1, .slice kb2 kb3 kb4, .bool kb5, .slice kb6 kb7 kb8]) (t 1)) (h2 : FR w (.agg #[.bool kc1, .slice kc2 kc3 kc4, .bool kc5, .slice kc6 kc7 kc8]) (t 2)) (h3 : FR w (.agg #[.bool kd1, .slice kd2 kd3 kd4, .bool kd5, .slice kd6 kd7 kd8]) (t 3)) (s0 : sz (t 0) 64) (s1 : sz (t 1) 64) (s2 : sz (t 2) 64) (s3 : sz (t 3) 64) (hp : -1048576 ≤ px ∧ px ≤ 1048576) (hq : -1048576 ≤ py ∧ py ≤ 1048576) :
  Calls Tryz.prog 43 #[.agg #[.bool ka1, .slice ka2 ka3 ka4, .bool ka5, .slice ka6 ka7 ka8, .bool kb1, .slice kb2 kb3 kb4, .bool kb5, .slice kb6 kb7 kb8, .bool kc1, .slice kc2 kc3 kc4, .bool kc5, .slice kc6 kc7 kc8, .bool kd1, .slice kd2 kd3 kd4, .bool kd5, .slice kd6 kd7 kd8], .agg #[.int .i64 px, .int .i64 py]] w fun e w' => ∃ u v, e = .returned (.tuple #[u, v]) ∧ FR w' u (apX t (px, py)) ∧ FR w' v (apY t (px, py)) ∧ Steps w w' := by
 have sx : sz (px : Rat) 2 := sz_coord hp
 have sy : sz (py : Rat) 2 := sz_coord hq
 have ofx : ∀ w', Calls Tryz.prog 47 #[.int .i64 px] w' fun e w2 => ∃ v, e = .returned v ∧ FR w2 v (px : Rat) ∧ Steps w' w2 := fun w' => rwhole px w' (by omega) (by omega)
 have ofy : ∀ w', Calls Tryz.prog 47 #[.int .i64 py] w' fun e w2 => ∃ v, e = .returned v ∧ FR w2 v (py : Rat) ∧ Steps w' w2 := fun w' => rwhole py w' (by omega) (by omega)
 have e1 : apX t (px, py) = t 0 * (px : Rat) - t 1 * (py : Rat) + t 2 := rfl
 have e2 : apY t (px, py) = t 1 * (px : Rat) + t 0 * (py : Rat) + t 3 := rfl
 rw [e1, e2]
 clear e1 e2 hp hq
 generalize (px : Rat) = x at *
 generalize (py : Rat) = y at *
 have F0 := Hid.mk_ h0
 have F1 := Hid.mk_ h1
 have F2 := Hid.mk_ h2
 have F3 := Hid.mk_ h3
 clear h0 h1 h2 h3
 generalize t 0 = p at *
 generalize t 1 = q at *
 generalize t 2 = r at *
 generalize t 3 = s at *
 go_enter Tryz.func43, Tryz.ntmps43
 go_upto_region 1 with fail
 refine Reg.wp_chain_n (fun N0 D v W => Below w.heap.size w W ∧ Keeps w W ∧ N0 ≤ W.heap.size ∧ Blk W (w.heap.size) 30 #[.bool ka1, .slice ka2 ka3 ka4, .bool ka5, .slice ka6 ka7 ka8, .bool kb1, .slice kb2 kb3 kb4, .bool kb5, .slice kb6 kb7 kb8, .bool kc1, .slice kc2 kc3 kc4, .bool kc5, .slice kc6 kc7 kc8, .bool kd1, .slice kd2 kd3 kd4, .bool kd5, .slice kd6 kd7 kd8] ∧ Blk W (w.heap.size + 1) 23 #[.int .i64 px, .int .i64 py] ∧ Blk W (w.heap.size + 1 + 1) 28 #[.bool false, .slice none 0 0, .bool false, .slice none 0 0] ∧ Blk W (w.heap.size + 1 + 1 + 1) 28 #[.bool false, .slice none 0 0, .bool false, .slice none 0 0] ∧ (D 6 = true → ∃ g : Nat, v 6 = .pointer (some ⟨g, 0, none⟩) ∧ N0 ≤ g ∧ g < W.heap.size ∧ (D 8 = false → Blk W g 28 #[.bool false, .slice none 0 0, .bool false, .slice none 0 0]) ∧ (D 8 = true → D 2 = true ∧ ∃ cs, v 2 = .agg cs ∧ Blk W g 28 cs)) ∧ (D 7 = true → ∃ g : Nat, v 7 = .pointer (some ⟨g, 0, none⟩) ∧ N0 ≤ g ∧ g < W.heap.size ∧ (D 9 = false → Blk W g 28 #[.bool false, .slice none 0 0, .bool false, .slice none 0 0]) ∧ (D 9 = true → D 5 = true ∧ ∃ cs, v 5 = .agg cs ∧ Blk W g 28 cs)) ∧ (D 6 = true → D 7 = true → v 6 ≠ v 7))
  (Reg.inl [2, 5, 6, 7, 8, 9]) (Reg.gv [(2, IsFr), (5, IsFr), (6, IsPtr), (7, IsPtr)]) (gw [(2, GFr (x)), (5, GFr (y))]) (fun _ => Keeps) (fun _ _ => False) (Reg.pl [(8, [(2, some 10), (6, some 6)]), (9, [(5, some 13), (7, some 7)]), (10, [(2, some 10), (5, some 13), (6, some 6), (7, some 7)])]) (Reg.pl [(6, [8]), (2, [8]), (7, [9]), (5, [9])])
  (by kernel_rfl) (by kernel_rfl) (by kernel_rfl) (Reg.gvA _) (fun N0 hN0 => ⟨fun v => ?_, fun D v v' W hv hj => ?_, fun D v k j W W' x _ _ _ _ hk hg => gwA hk hg, fun _ _ _ _ h => h.elim, fun ops' Q' hops hQ => ?_⟩)
 · exact ⟨belowB, keepsB, by first | with_reducible exact Nat.le_of_eq hN0.out | (simp only [World.size_drew]; with_reducible exact Nat.le_of_eq hN0.out), ownK, ownK, ownK, ownK, (fun h => Bool.noConfusion h), (fun h => Bool.noConfusion h), (fun h => Bool.noConfusion h)⟩
 ·
  obtain ⟨j0, jk, jn, b_t, b_i, b_r, b_q, a_6, a_7, q_6_7⟩ := hj
  exact ⟨j0, jk, jn, b_t, b_i, b_r, b_q, fun h => by obtain ⟨g, e1, e2, e3, e4, e5⟩ := a_6 h; exact ⟨g, (hv 6 h) ▸ e1, e2, e3, e4, fun h => by obtain ⟨d, cs, e, hb⟩ := e5 h; exact ⟨d, cs, (hv 2 d) ▸ e, hb⟩⟩, fun h => by obtain ⟨g, e1, e2, e3, e4, e5⟩ := a_7 h; exact ⟨g, (hv 7 h) ▸ e1, e2, e3, e4, fun h => by obtain ⟨d, cs, e, hb⟩ := e5 h; exact ⟨d, cs, (hv 5 d) ▸ e, hb⟩⟩, fun h h' => (hv 6 h) ▸ (hv 7 h') ▸ q_6_7 h h'⟩
 have eN := hN0.out
 try simp only [World.size_alloc, World.size_setCell, World.size_drew, World.heap_drewN] at eN
 have i_t : w.heap.size < N0 := by first | omega | (have h := ot.lt; omega)
 have i_i : w.heap.size + 1 < N0 := by first | omega | (have h := oi.lt; omega)
 have i_r : w.heap.size + 1 + 1 < N0 := by first | omega | (have h := or.lt; omega)
 have i_q : w.heap.size + 1 + 1 + 1 < N0 := by first | omega | (have h := oq.lt; omega)
 have iw : w.heap.size ≤ N0 := by first | omega | (have h := B.size; omega)
 clear hN0 eN
 refine Reg.RP0 8 ?_
 apply Reg.RP rfl rfl rfl 9 rfl rfl
 ·
  intro D v' W' hc hj hf K hK
  obtain ⟨j0, jk, jn, b_t, b_i, b_r, b_q, a_6, a_7, q_6_7⟩ := hj
  have c0 := b_i.q0
  go_step
  exact hK.out
 · rfl
 refine Reg.RC_call rfl (tlt rfl) rfl (fun D v' W' hc hj hf K hK => ?_) ?_
 ·
  obtain ⟨j0, jk, jn, b_t, b_i, b_r, b_q, a_6, a_7, q_6_7⟩ := hj
  clear hf
  go_step
  refine (ofx W').mono ?_
  rintro e W2 ⟨u, rfl, hu, hs⟩
  obtain ⟨xa1, xa2, xa3, xa4, xa5, xa6, xa7, xa8, rfl⟩ := hu.shape
  exact hK.out _ W2 (Keeps.steps hs) ⟨jst j0 hs, jk.then_ hs, jsz jn hs, b_t.steps hs, b_i.steps hs, b_r.steps hs, b_q.steps hs, fun h => by obtain ⟨g, e1, e2, e3, e4, e5⟩ := a_6 h; exact ⟨g, e1, e2, Nat.lt_of_lt_of_le e3 (hs).size, fun h => (e4 h).steps hs, fun h => Bool.noConfusion ((hc.2 8 (by decide)).symm.trans h)⟩, fun h => by obtain ⟨g, e1, e2, e3, e4, e5⟩ := a_7 h; exact ⟨g, e1, e2, Nat.lt_of_lt_of_le e3 (hs).size, fun h => (e4 h).steps hs, fun h => by obtain ⟨d, cs, e, hb⟩ := e5 h; exact ⟨d, cs, e, hb.steps hs⟩⟩, q_6_7⟩ hu ⟨_, _, _, _, _, _, _, _, rfl⟩
 rintro _ ⟨xa1, xa2, xa3, xa4, xa5, xa6, xa7, xa8, rfl⟩
 refine Reg.at38 rfl ?_
 refine Reg.RP0 11 ?_
 apply Reg.RP rfl rfl rfl 12 rfl rfl
 ·
  intro D v' W' hc hj hf K hK
  obtain ⟨j0, jk, jn, b_t, b_i, b_r, b_q, a_6, a_7, q_6_7⟩ := hj
  have c1 := b_i.q1
  go_step
  exact hK.out
 · rfl
 refine Reg.RC_call rfl (tlt rfl) rfl (fun D v' W' hc hj hf K hK => ?_) ?_
 ·
  obtain ⟨j0, jk, jn, b_t, b_i, b_r, b_q, a_6, a_7, q_6_7⟩ := hj
  clear hf
  go_step
  refine (ofy W').mono ?_
  rintro e W2 ⟨u, rfl, hu, hs⟩
  obtain ⟨xb1, xb2, xb3, xb4, xb5, xb6, xb7, xb8, rfl⟩ := hu.shape
  exact hK.out _ W2 (Keeps.steps hs) ⟨jst j0 hs, jk.then_ hs, jsz jn hs, b_t.steps hs, b_i.steps hs, b_r.steps hs, b_q.steps hs, fun h => by obtain ⟨g, e1, e2, e3, e4, e5⟩ := a_6 h; exact ⟨g, e1, e2, Nat.lt_of_lt_of_le e3 (hs).size, fun h => (e4 h).steps hs, fun h => by obtain ⟨d, cs, e, hb⟩ := e5 h; exact ⟨d, cs, e, hb.steps hs⟩⟩, fun h => by obtain ⟨g, e1, e2, e3, e4, e5⟩ := a_7 h; exact ⟨g, e1, e2, Nat.lt_of_lt_of_le e3 (hs).size, fun h => (e4 h).steps hs, fun h => Bool.noConfusion ((hc.2 9 (by decide)).symm.trans h)⟩, q_6_7⟩ hu ⟨_, _, _, _, _, _, _, _, rfl⟩
 rintro _ ⟨xb1, xb2, xb3, xb4, xb5, xb6, xb7, xb8, rfl⟩
 refine Reg.at38 rfl ?_
 refine Reg.RC_call rfl (tlt rfl) rfl (fun D v' W' hc hj hf K hK => ?_) ?_
 ·
  obtain ⟨j0, jk, jn, b_t, b_i, b_r, b_q, a_6, a_7, q_6_7⟩ := hj
  go_step
  have hs : ∀ o : Obj, Steps W' (W'.alloc o) := fun o => (Below.refl _ _).alloc (Nat.le_refl _) o
  exact hK.out _ _ (Keeps.steps (hs _)) ⟨jst j0 (hs _), jk.then_ (hs _), jsz jn (hs _), b_t.steps (hs _), b_i.steps (hs _), b_r.steps (hs _), b_q.steps (hs _), fun _ => ⟨W'.heap.size, rfl, jn, by rw [World.size_alloc]; omega, fun _ => Blk.new _ _ _, fun h => Bool.noConfusion ((hc.2 8 (by decide)).symm.trans h)⟩, fun h => by obtain ⟨g, e1, e2, e3, e4, e5⟩ := a_7 h; exact ⟨g, e1, e2, Nat.lt_of_lt_of_le e3 ((hs _)).size, fun h => (e4 h).steps (hs _), fun h => by obtain ⟨d, cs, e, hb⟩ := e5 h; exact ⟨d, cs, e, hb.steps (hs _)⟩⟩, fun _ h' => by obtain ⟨g, e1, e2, e3, e4, e5⟩ := a_7 h'; exact fun e => Reg.ptr_ne e3 (e.trans e1)⟩ trivial ⟨_, rfl⟩
 rintro _ ⟨p6, rfl⟩
 refine Reg.at38 rfl ?_
 refine Reg.RC_call rfl (tlt rfl) rfl (fun D v' W' hc hj hf K hK => ?_) ?_
 ·
  obtain ⟨j0, jk, jn, b_t, b_i, b_r, b_q, a_6, a_7, q_6_7⟩ := hj
  go_step
  have hs : ∀ o : Obj, Steps W' (W'.alloc o) := fun o => (Below.refl _ _).alloc (Nat.le_refl _) o
  exact hK.out _ _ (Keeps.steps (hs _)) ⟨jst j0 (hs _), jk.then_ (hs _), jsz jn (hs _), b_t.steps (hs _), b_i.steps (hs _), b_r.steps (hs _), b_q.steps (hs _), fun h => by obtain ⟨g, e1, e2, e3, e4, e5⟩ := a_6 h; exact ⟨g, e1, e2, Nat.lt_of_lt_of_le e3 ((hs _)).size, fun h => (e4 h).steps (hs _), fun h => by obtain ⟨d, cs, e, hb⟩ := e5 h; exact ⟨d, cs, e, hb.steps (hs _)⟩⟩, fun _ => ⟨W'.heap.size, rfl, jn, by rw [World.size_alloc]; omega, fun _ => Blk.new _ _ _, fun h => Bool.noConfusion ((hc.2 9 (by decide)).symm.trans h)⟩, fun h _ => by obtain ⟨g, e1, e2, e3, e4, e5⟩ := a_6 h; exact fun e => Reg.ptr_ne e3 (e.symm.trans e1)⟩ trivial ⟨_, rfl⟩
 rintro _ ⟨p7, rfl⟩
 refine Reg.at38 rfl ?_
 refine Reg.RC_call rfl (by intro t ht; cases ht) rfl (fun D v' W' hc hj hf K hK => ?_) (fun _ _ => Reg.RC_at (b := ⟨_, _⟩) rfl ?_)
 ·
  obtain ⟨j0, jk, jn, b_t, b_i, b_r, b_q, a_6, a_7, q_6_7⟩ := hj
  have f := hf (6, some 6) (.tail _ (.head _)) rfl
  have e6 : v' 6 = .pointer (some ⟨p6, 0, none⟩) := f.2.1
  obtain ⟨g, e1, e2, e3, e4, e5⟩ := a_6 f.1
  obtain rfl : p6 = g := Reg.ptr_eq (e6.symm.trans e1)
  have hb := e4 hc.1
  clear e4 e5
  have fc := hf (2, some 10) (.head _) rfl
  have ec : v' 2 = .agg #[.bool xa1, .slice xa2 xa3 xa4, .bool xa5, .slice xa6 xa7 xa8] := fc.2.1
  have ff := hb.fr
  obtain ⟨cc0, cc1, cc2, cc3⟩ := hb.r3
  go_step
  exact hK.out undef _ (keeps4 hb rfl) ⟨(below4 j0 (by show w.heap.size ≤ p6; omega)), jk.trans (keeps4 hb rfl), by simpa using jn, (b_t).far4 (show w.heap.size ≠ p6 by omega), (b_i).far4 (show w.heap.size + 1 ≠ p6 by omega), (b_r).far4 (show w.heap.size + 1 + 1 ≠ p6 by omega), (b_q).far4 (show w.heap.size + 1 + 1 + 1 ≠ p6 by omega), fun _ => ⟨p6, e1, e2, by simpa using e3, fun h => Bool.noConfusion h, fun _ => ⟨fc.1, _, ec, (Blk.set2 (cs' := #[.bool xa1, .slice xa2 xa3 xa4, .bool xa5, .slice xa6 xa7 xa8]) (Blk.set2 (cs' := #[.bool xa1, .slice xa2 xa3 xa4, .bool xa5, .slice none 0 0]) (Blk.set2 (cs' := #[.bool xa1, .slice xa2 xa3 xa4, .bool false, .slice none 0 0]) (Blk.set2 (cs' := #[.bool xa1, .slice none 0 0, .bool false, .slice none 0 0]) hb (i := 0) rfl) (i := 1) rfl) (i := 2) rfl) (i := 3) rfl)⟩⟩, fun h => by obtain ⟨g, k1, k2, k3, k4, k5⟩ := a_7 h; have hne : g ≠ p6 := fun e => (q_6_7 f.1 h) (by rw [e6, k1, e]); exact ⟨g, k1, k2, by simpa using k3, fun h => (k4 h).far4 hne, fun h => by obtain ⟨d, cs, e, hb2⟩ := k5 h; exact ⟨d, cs, e, (hb2).far4 hne⟩⟩, q_6_7⟩ trivial trivial
 refine Reg.RC_call rfl (by intro t ht; cases ht) rfl (fun D v' W' hc hj hf K hK => ?_) (fun _ _ => Reg.RC_at (b := ⟨_, _⟩) rfl ?_)
 ·
  obtain ⟨j0, jk, jn, b_t, b_i, b_r, b_q, a_6, a_7, q_6_7⟩ := hj
  have f := hf (7, some 7) (.tail _ (.head _)) rfl
  have e6 : v' 7 = .pointer (some ⟨p7, 0, none⟩) := f.2.1
  obtain ⟨g, e1, e2, e3, e4, e5⟩ := a_7 f.1
  obtain rfl : p7 = g := Reg.ptr_eq (e6.symm.trans e1)
  have hb := e4 hc.1
  clear e4 e5
  have fc := hf (5, some 13) (.head _) rfl
  have ec : v' 5 = .agg #[.bool xb1, .slice xb2 xb3 xb4, .bool xb5, .slice xb6 xb7 xb8] := fc.2.1
  have ff := hb.fr
  obtain ⟨cc0, cc1, cc2, cc3⟩ := hb.r3
  go_step
  exact hK.out undef _ (keeps4 hb rfl) ⟨(below4 j0 (by show w.heap.size ≤ p7; omega)), jk.trans (keeps4 hb rfl), by simpa using jn, (b_t).far4 (show w.heap.size ≠ p7 by omega), (b_i).far4 (show w.heap.size + 1 ≠ p7 by omega), (b_r).far4 (show w.heap.size + 1 + 1 ≠ p7 by omega), (b_q).far4 (show w.heap.size + 1 + 1 + 1 ≠ p7 by omega), fun h => by obtain ⟨g, k1, k2, k3, k4, k5⟩ := a_6 h; have hne : g ≠ p7 := fun e => (q_6_7 h f.1) (by rw [e6, k1, e]); exact ⟨g, k1, k2, by simpa using k3, fun h => (k4 h).far4 hne, fun h => by obtain ⟨d, cs, e, hb2⟩ := k5 h; exact ⟨d, cs, e, (hb2).far4 hne⟩⟩, fun _ => ⟨p7, e1, e2, by simpa using e3, fun h => Bool.noConfusion h, fun _ => ⟨fc.1, _, ec, (Blk.set2 (cs' := #[.bool xb1, .slice xb2 xb3 xb4, .bool xb5, .slice xb6 xb7 xb8]) (Blk.set2 (cs' := #[.bool xb1, .slice xb2 xb3 xb4, .bool xb5, .slice none 0 0]) (Blk.set2 (cs' := #[.bool xb1, .slice xb2 xb3 xb4, .bool false, .slice none 0 0]) (Blk.set2 (cs' := #[.bool xb1, .slice none 0 0, .bool false, .slice none 0 0]) hb (i := 0) rfl) (i := 1) rfl) (i := 2) rfl) (i := 3) rfl)⟩⟩, q_6_7⟩ trivial trivial
 refine Reg.RC_end (fun Dn v' w1 hd hj hf => ?_)
 obtain ⟨j0, jk, jn, b_t, b_i, b_r, b_q, a_6, a_7, q_6_7⟩ := hj
 have B := j0
 have ot := b_t
 clear b_t
 have oi := b_i
 clear b_i
 have or := b_r
 clear b_r
 have oq := b_q
 clear b_q
 have f := hf (6, some 6) (.tail _ (.tail _ (.head _))) rfl
 have e6_ : v' 6 = .pointer (some ⟨p6, 0, none⟩) := f.2.1
 obtain ⟨g, e1_, zv6, -, -, e5_⟩ := a_6 f.1
 obtain rfl : p6 = g := Reg.ptr_eq (e6_.symm.trans e1_)
 obtain ⟨-, cs_, ee, ov6⟩ := e5_ (hd 8 (Nat.le_of_ble_eq_true rfl))
 have ef : v' 2 = .agg #[.bool xa1, .slice xa2 xa3 xa4, .bool xa5, .slice xa6 xa7 xa8] := (hf (2, some 10) (.head _) rfl).2.1
 obtain rfl : #[.bool xa1, .slice xa2 xa3 xa4, .bool xa5, .slice xa6 xa7 xa8] = cs_ := by have := ef.symm.trans ee; simpa only [Value.tuple.injEq, Value.agg.injEq, Array.mk.injEq, List.cons.injEq, and_true, true_and] using this
 clear ee ef f e5_ e1_ e6_
 have f := hf (7, some 7) (.tail _ (.tail _ (.tail _ (.head _)))) rfl
 have e6_ : v' 7 = .pointer (some ⟨p7, 0, none⟩) := f.2.1
 obtain ⟨g, e1_, zv7, -, -, e5_⟩ := a_7 f.1
 obtain rfl : p7 = g := Reg.ptr_eq (e6_.symm.trans e1_)
 obtain ⟨-, cs_, ee, ov7⟩ := e5_ (hd 9 (Nat.le_of_ble_eq_true rfl))
 have ef : v' 5 = .agg #[.bool xb1, .slice xb2 xb3 xb4, .bool xb5, .slice xb6 xb7 xb8] := (hf (5, some 13) (.tail _ (.head _)) rfl).2.1
 obtain rfl : #[.bool xb1, .slice xb2 xb3 xb4, .bool xb5, .slice xb6 xb7 xb8] = cs_ := by have := ef.symm.trans ee; simpa only [Value.tuple.injEq, Value.agg.injEq, Array.mk.injEq, List.cons.injEq, and_true, true_and] using this
 clear ee ef f e5_ e1_ e6_
 have y_6_7 : p6 ≠ p7 := fun e => q_6_7 (hf (6, some 6) (.tail _ (.tail _ (.head _))) rfl).1 (hf (7, some 7) (.tail _ (.tail _ (.tail _ (.head _)))) rfl).1 (by have h1 := (hf (6, some 6) (.tail _ (.tail _ (.head _))) rfl).2.1; have h2 := (hf (7, some 7) (.tail _ (.tail _ (.tail _ (.head _)))) rfl).2.1; rw [h1, h2]; show Value.pointer _ = .pointer _; rw [e])
 have Fxa : Hid (FR w1 (.agg #[.bool xa1, .slice xa2 xa3 xa4, .bool xa5, .slice xa6 xa7 xa8]) (x)) := (hf (2, some 10) (.head _) rfl).2.2
 have Fxb : Hid (FR w1 (.agg #[.bool xb1, .slice xb2 xb3 xb4, .bool xb5, .slice xb6 xb7 xb8]) (y)) := (hf (5, some 13) (.tail _ (.head _)) rfl).2.2
 replace F0 := Hid.mk_ (F0.out.keeps jk)
 replace F1 := Hid.mk_ (F1.out.keeps jk)
 replace F2 := Hid.mk_ (F2.out.keeps jk)
 replace F3 := Hid.mk_ (F3.out.keeps jk)
 clear hd hf jk j0 q_6_7
 refine hQ _ _ ?_
 clear hQ hops Q' ops'
 obtain ⟨ct0, ct1, ct2, ct3, ct4, ct5, ct6, ct7, ct8, ct9, ct10, ct11, ct12, ct13, ct14, ct15⟩ := ot.r15
 have lt := ot.lt
 have li := oi.lt
 have lr := or.lt
 have lq := oq.lt
 obtain ⟨cv60, cv61, cv62, cv63⟩ := ov6.r3
 have lv6 := ov6.lt
 obtain ⟨cv70, cv71, cv72, cv73⟩ := ov7.r3
 have lv7 := ov7.lt
 have zv7_1 : p7 < w1.heap.size := ov7.lt
 have zv6_1 : p6 < w1.heap.size := ov6.lt
 have zz1 := B.size
 go_upto_region 2 with fail
 refine Reg.wp_chain_n (fun N0 D v W => Below w.heap.size w W ∧ Keeps w1 W ∧ N0 ≤ W.heap.size ∧ Blk W (w.heap.size) 30 #[.bool ka1, .slice ka2 ka3 ka4, .bool ka5, .slice ka6 ka7 ka8, .bool kb1, .slice kb2 kb3 kb4, .bool kb5, .slice kb6 kb7 kb8, .bool kc1, .slice kc2 kc3 kc4, .bool kc5, .slice kc6 kc7 kc8, .bool kd1, .slice kd2 kd3 kd4, .bool kd5, .slice kd6 kd7 kd8] ∧ Blk W (w.heap.size + 1) 23 #[.int .i64 px, .int .i64 py] ∧ ((D 24 = false → Blk W (w.heap.size + 1 + 1) 28 #[.bool false, .slice none 0 0, .bool false, .slice none 0 0]) ∧ (D 24 = true → D 11 = true ∧ ∃ cs, v 11 = .agg cs ∧ Blk W (w.heap.size + 1 + 1) 28 cs)) ∧ ((D 25 = false → Blk W (w.heap.size + 1 + 1 + 1) 28 #[.bool false, .slice none 0 0, .bool false, .slice none 0 0]) ∧ (D 25 = true → D 23 = true ∧ ∃ cs, v 23 = .agg cs ∧ Blk W (w.heap.size + 1 + 1 + 1) 28 cs)) ∧ Blk W (p6) 28 #[.bool xa1, .slice xa2 xa3 xa4, .bool xa5, .slice xa6 xa7 xa8] ∧ Blk W (p7) 28 #[.bool xb1, .slice xb2 xb3 xb4, .bool xb5, .slice xb6 xb7 xb8])
  (Reg.inl [3, 7, 8, 11, 15, 19, 20, 23, 24, 25]) (Reg.gv [(3, IsFr), (7, IsFr), (8, IsFr), (11, IsFr), (15, IsFr), (19, IsFr), (20, IsFr), (23, IsFr)]) (gw [(3, GFr ((p * x))), (7, GFr ((q * y))), (8, GFr (((p * x) - (q * y)))), (11, GFr ((((p * x) - (q * y)) + r))), (15, GFr ((q * x))), (19, GFr ((p * y))), (20, GFr (((q * x) + (p * y)))), (23, GFr ((((q * x) + (p * y)) + s)))]) (fun _ => Keeps) (fun _ _ => False) (Reg.pl [(8, [(3, some 17), (7, some 21)]), (11, [(8, some 22)]), (20, [(15, some 29), (19, some 33)]), (23, [(20, some 34)]), (24, [(11, some 25)]), (25, [(23, some 37)]), (26, [(3, some 17), (7, some 21), (8, some 22), (11, some 25), (15, some 29), (19, some 33), (20, some 34), (23, some 37)])]) (Reg.pl [(11, [24]), (23, [25])])
  (by kernel_rfl) (by kernel_rfl) (by kernel_rfl) (Reg.gvA _) (fun N0 hN0 => ⟨fun v => ?_, fun D v v' W hv hj => ?_, fun D v k j W W' x _ _ _ _ hk hg => gwA hk hg, fun _ _ _ _ h => h.elim, fun ops' Q' hops hQ => ?_⟩)
 · exact ⟨belowB, keepsB, by first | with_reducible exact Nat.le_of_eq hN0.out | (simp only [World.size_drew]; with_reducible exact Nat.le_of_eq hN0.out), ownK, ownK, ⟨fun _ => ownK, (fun h => Bool.noConfusion h)⟩, ⟨fun _ => ownK, (fun h => Bool.noConfusion h)⟩, ownK, ownK⟩
 ·
  obtain ⟨j0, jk, jn, b_t, b_i, b_r, b_q, b_v6, b_v7⟩ := hj
  exact ⟨j0, jk, jn, b_t, b_i, ⟨b_r.1, fun h => by obtain ⟨d, cs, e, hb⟩ := b_r.2 h; exact ⟨d, cs, (hv 11 d) ▸ e, hb⟩⟩, ⟨b_q.1, fun h => by obtain ⟨d, cs, e, hb⟩ := b_q.2 h; exact ⟨d, cs, (hv 23 d) ▸ e, hb⟩⟩, b_v6, b_v7⟩
 have eN := hN0.out
 try simp only [World.size_alloc, World.size_setCell, World.size_drew, World.heap_drewN] at eN
 have i_t : w.heap.size < N0 := by first | omega | (have h := ot.lt; omega)
 have i_i : w.heap.size + 1 < N0 := by first | omega | (have h := oi.lt; omega)
 have i_r : w.heap.size + 1 + 1 < N0 := by first | omega | (have h := or.lt; omega)
 have i_q : w.heap.size + 1 + 1 + 1 < N0 := by first | omega | (have h := oq.lt; omega)
 have i_v6 : p6 < N0 := by first | omega | (have h := ov6.lt; omega)
 have i_v7 : p7 < N0 := by first | omega | (have h := ov7.lt; omega)
 have iw : w.heap.size ≤ N0 := by first | omega | (have h := B.size; omega)
 clear ct0 ct1 ct2 ct3 ct4 ct5 ct6 ct7 ct8 ct9 ct10 ct11 ct12 ct13 ct14 ct15 lt li lr lq cv60 cv61 cv62 cv63 lv6 cv70 cv71 cv72 cv73 lv7
 clear hN0
 refine Reg.RP0 14 ?_
 apply Reg.RP rfl rfl rfl 15 rfl rfl
 ·
  intro D v' W' hc hj hf K hK
  obtain ⟨j0, jk, jn, b_t, b_i, b_r, b_q, b_v6, b_v7⟩ := hj
  obtain ⟨c0, c1, c2, c3⟩ := b_t.r3
  go_step
  exact hK.out
 · rfl
 apply Reg.RP rfl rfl rfl 16 rfl rfl
 ·
  intro D v' W' hc hj hf K hK
  obtain ⟨j0, jk, jn, b_t, b_i, b_r, b_q, b_v6, b_v7⟩ := hj
  obtain ⟨c0, c1, c2, c3⟩ := b_v6.r3
  go_step
  exact hK.out
 · rfl
 refine Reg.RC_call rfl (tlt rfl) rfl (fun D v' W' hc hj hf K hK => ?_) ?_
 ·
  obtain ⟨j0, jk, jn, b_t, b_i, b_r, b_q, b_v6, b_v7⟩ := hj
  clear hf
  go_step
  refine (prmul W' (F0.out.keeps jk) (Fxa.out.keeps jk) s0 sx (by omega)).mono ?_
  rintro e W2 ⟨u, rfl, hu, hs⟩
  obtain ⟨xc1, xc2, xc3, xc4, xc5, xc6, xc7, xc8, rfl⟩ := hu.shape
  exact hK.out _ W2 (Keeps.steps hs) ⟨jst j0 hs, jk.then_ hs, jsz jn hs, b_t.steps hs, b_i.steps hs, ⟨fun h => (b_r.1 h).steps hs, fun h => by obtain ⟨d, cs, e, hb⟩ := b_r.2 h; exact ⟨d, cs, e, hb.steps hs⟩⟩, ⟨fun h => (b_q.1 h).steps hs, fun h => by obtain ⟨d, cs, e, hb⟩ := b_q.2 h; exact ⟨d, cs, e, hb.steps hs⟩⟩, b_v6.steps hs, b_v7.steps hs⟩ hu ⟨_, _, _, _, _, _, _, _, rfl⟩
 rintro _ ⟨xc1, xc2, xc3, xc4, xc5, xc6, xc7, xc8, rfl⟩
 refine Reg.at38 rfl ?_
 refine Reg.RP0 18 ?_
 apply Reg.RP rfl rfl rfl 19 rfl rfl
 ·
  intro D v' W' hc hj hf K hK
  obtain ⟨j0, jk, jn, b_t, b_i, b_r, b_q, b_v6, b_v7⟩ := hj
  have c4 := b_t.q4
  have c5 := b_t.q5
  have c6 := b_t.q6
  have c7 := b_t.q7
  go_step
  exact hK.out
 · rfl
 apply Reg.RP rfl rfl rfl 20 rfl rfl
 ·
  intro D v' W' hc hj hf K hK
  obtain ⟨j0, jk, jn, b_t, b_i, b_r, b_q, b_v6, b_v7⟩ := hj
  obtain ⟨c0, c1, c2, c3⟩ := b_v7.r3
  go_step
  exact hK.out
 · rfl
 refine Reg.RC_call rfl (tlt rfl) rfl (fun D v' W' hc hj hf K hK => ?_) ?_
 ·
  obtain ⟨j0, jk, jn, b_t, b_i, b_r, b_q, b_v6, b_v7⟩ := hj
  clear hf
  go_step
  refine (prmul W' (F1.out.keeps jk) (Fxb.out.keeps jk) s1 sy (by omega)).mono ?_
  rintro e W2 ⟨u, rfl, hu, hs⟩
  obtain ⟨xd1, xd2, xd3, xd4, xd5, xd6, xd7, xd8, rfl⟩ := hu.shape
  exact hK.out _ W2 (Keeps.steps hs) ⟨jst j0 hs, jk.then_ hs, jsz jn hs, b_t.steps hs, b_i.steps hs, ⟨fun h => (b_r.1 h).steps hs, fun h => by obtain ⟨d, cs, e, hb⟩ := b_r.2 h; exact ⟨d, cs, e, hb.steps hs⟩⟩, ⟨fun h => (b_q.1 h).steps hs, fun h => by obtain ⟨d, cs, e, hb⟩ := b_q.2 h; exact ⟨d, cs, e, hb.steps hs⟩⟩, b_v6.steps hs, b_v7.steps hs⟩ hu ⟨_, _, _, _, _, _, _, _, rfl⟩
 rintro _ ⟨xd1, xd2, xd3, xd4, xd5, xd6, xd7, xd8, rfl⟩
 refine Reg.at38 rfl ?_
 refine Reg.RC_call rfl (tlt rfl) rfl (fun D v' W' hc hj hf K hK => ?_) ?_
 ·
  obtain ⟨j0, jk, jn, b_t, b_i, b_r, b_q, b_v6, b_v7⟩ := hj
  have g3 : GFr ((p * x)) _ W' := (hf (3, some 17) (.head _) rfl).2.2
  have g3 : FR W' _ ((p * x)) := g3
  have g7 : GFr ((q * y)) _ W' := (hf (7, some 21) (.tail _ (.head _)) rfl).2.2
  have g7 : FR W' _ ((q * y)) := g7
  clear hf
  go_step
  refine (prsub W' g3 g7 (s0.mul sx) (s1.mul sy) (by omega)).mono ?_
  rintro e W2 ⟨u, rfl, hu, hs⟩
  obtain ⟨xe1, xe2, xe3, xe4, xe5, xe6, xe7, xe8, rfl⟩ := hu.shape
  exact hK.out _ W2 (Keeps.steps hs) ⟨jst j0 hs, jk.then_ hs, jsz jn hs, b_t.steps hs, b_i.steps hs, ⟨fun h => (b_r.1 h).steps hs, fun h => by obtain ⟨d, cs, e, hb⟩ := b_r.2 h; exact ⟨d, cs, e, hb.steps hs⟩⟩, ⟨fun h => (b_q.1 h).steps hs, fun h => by obtain ⟨d, cs, e, hb⟩ := b_q.2 h; exact ⟨d, cs, e, hb.steps hs⟩⟩, b_v6.steps hs, b_v7.steps hs⟩ hu ⟨_, _, _, _, _, _, _, _, rfl⟩
 rintro _ ⟨xe1, xe2, xe3, xe4, xe5, xe6, xe7, xe8, rfl⟩
 refine Reg.at38 rfl ?_
 refine Reg.RP0 23 ?_
 apply Reg.RP rfl rfl rfl 24 rfl rfl
 ·
  intro D v' W' hc hj hf K hK
  obtain ⟨j0, jk, jn, b_t, b_i, b_r, b_q, b_v6, b_v7⟩ := hj
  have c8 := b_t.q8
  have c9 := b_t.q9
  have c10 := b_t.q10
  have c11 := b_t.q11
  go_step
  exact hK.out
 · rfl
 refine Reg.RC_call rfl (tlt rfl) rfl (fun D v' W' hc hj hf K hK => ?_) ?_
 ·
  obtain ⟨j0, jk, jn, b_t, b_i, b_r, b_q, b_v6, b_v7⟩ := hj
  have g8 : GFr (((p * x) - (q * y))) _ W' := (hf (8, some 22) (.head _) rfl).2.2
  have g8 : FR W' _ (((p * x) - (q * y))) := g8
  clear hf
  go_step
  refine (pradd W' g8 (F2.out.keeps jk) ((s0.mul sx).sub (s1.mul sy)) s2 (by omega)).mono ?_
  rintro e W2 ⟨u, rfl, hu, hs⟩
  obtain ⟨xf1, xf2, xf3, xf4, xf5, xf6, xf7, xf8, rfl⟩ := hu.shape
  exact hK.out _ W2 (Keeps.steps hs) ⟨jst j0 hs, jk.then_ hs, jsz jn hs, b_t.steps hs, b_i.steps hs, ⟨fun h => (b_r.1 h).steps hs, fun h => Bool.noConfusion ((hc.2 24 (by decide)).symm.trans h)⟩, ⟨fun h => (b_q.1 h).steps hs, fun h => by obtain ⟨d, cs, e, hb⟩ := b_q.2 h; exact ⟨d, cs, e, hb.steps hs⟩⟩, b_v6.steps hs, b_v7.steps hs⟩ hu ⟨_, _, _, _, _, _, _, _, rfl⟩
 rintro _ ⟨xf1, xf2, xf3, xf4, xf5, xf6, xf7, xf8, rfl⟩
 refine Reg.at38 rfl ?_
 refine Reg.RP0 26 ?_
 apply Reg.RP rfl rfl rfl 27 rfl rfl
 ·
  intro D v' W' hc hj hf K hK
  obtain ⟨j0, jk, jn, b_t, b_i, b_r, b_q, b_v6, b_v7⟩ := hj
  have c4 := b_t.q4
  have c5 := b_t.q5
  have c6 := b_t.q6
  have c7 := b_t.q7
  go_step
  exact hK.out
 · rfl
 apply Reg.RP rfl rfl rfl 28 rfl rfl
 ·
  intro D v' W' hc hj hf K hK
  obtain ⟨j0, jk, jn, b_t, b_i, b_r, b_q, b_v6, b_v7⟩ := hj
  obtain ⟨c0, c1, c2, c3⟩ := b_v6.r3
  go_step
  exact hK.out
 · rfl
 refine Reg.RC_call rfl (tlt rfl) rfl (fun D v' W' hc hj hf K hK => ?_) ?_
 ·
  obtain ⟨j0, jk, jn, b_t, b_i, b_r, b_q, b_v6, b_v7⟩ := hj
  clear hf
  go_step
  refine (prmul W' (F1.out.keeps jk) (Fxa.out.keeps jk) s1 sx (by omega)).mono ?_
  rintro e W2 ⟨u, rfl, hu, hs⟩
  obtain ⟨xg1, xg2, xg3, xg4, xg5, xg6, xg7, xg8, rfl⟩ := hu.shape
  exact hK.out _ W2 (Keeps.steps hs) ⟨jst j0 hs, jk.then_ hs, jsz jn hs, b_t.steps hs, b_i.steps hs, ⟨fun h => (b_r.1 h).steps hs, fun h => by obtain ⟨d, cs, e, hb⟩ := b_r.2 h; exact ⟨d, cs, e, hb.steps hs⟩⟩, ⟨fun h => (b_q.1 h).steps hs, fun h => by obtain ⟨d, cs, e, hb⟩ := b_q.2 h; exact ⟨d, cs, e, hb.steps hs⟩⟩, b_v6.steps hs, b_v7.steps hs⟩ hu ⟨_, _, _, _, _, _, _, _, rfl⟩
 rintro _ ⟨xg1, xg2, xg3, xg4, xg5, xg6, xg7, xg8, rfl⟩
 refine Reg.at38 rfl ?_
 refine Reg.RP0 30 ?_
 apply Reg.RP rfl rfl rfl 31 rfl rfl
 ·
  intro D v' W' hc hj hf K hK
  obtain ⟨j0, jk, jn, b_t, b_i, b_r, b_q, b_v6, b_v7⟩ := hj
  obtain ⟨c0, c1, c2, c3⟩ := b_t.r3
  go_step
  exact hK.out
 · rfl
 apply Reg.RP rfl rfl rfl 32 rfl rfl
 ·
  intro D v' W' hc hj hf K hK
  obtain ⟨j0, jk, jn, b_t, b_i, b_r, b_q, b_v6, b_v7⟩ := hj
  obtain ⟨c0, c1, c2, c3⟩ := b_v7.r3
  go_step
  exact hK.out
 · rfl
 refine Reg.RC_call rfl (tlt rfl) rfl (fun D v' W' hc hj hf K hK => ?_) ?_
 ·
  obtain ⟨j0, jk, jn, b_t, b_i, b_r, b_q, b_v6, b_v7⟩ := hj
  clear hf
  go_step
  refine (prmul W' (F0.out.keeps jk) (Fxb.out.keeps jk) s0 sy (by omega)).mono ?_
  rintro e W2 ⟨u, rfl, hu, hs⟩
  obtain ⟨xh1, xh2, xh3, xh4, xh5, xh6, xh7, xh8, rfl⟩ := hu.shape
  exact hK.out _ W2 (Keeps.steps hs) ⟨jst j0 hs, jk.then_ hs, jsz jn hs, b_t.steps hs, b_i.steps hs, ⟨fun h => (b_r.1 h).steps hs, fun h => by obtain ⟨d, cs, e, hb⟩ := b_r.2 h; exact ⟨d, cs, e, hb.steps hs⟩⟩, ⟨fun h => (b_q.1 h).steps hs, fun h => by obtain ⟨d, cs, e, hb⟩ := b_q.2 h; exact ⟨d, cs, e, hb.steps hs⟩⟩, b_v6.steps hs, b_v7.steps hs⟩ hu ⟨_, _, _, _, _, _, _, _, rfl⟩
 rintro _ ⟨xh1, xh2, xh3, xh4, xh5, xh6, xh7, xh8, rfl⟩
 refine Reg.at38 rfl ?_
 refine Reg.RC_call rfl (tlt rfl) rfl (fun D v' W' hc hj hf K hK => ?_) ?_
 ·
  obtain ⟨j0, jk, jn, b_t, b_i, b_r, b_q, b_v6, b_v7⟩ := hj
  have g15 : GFr ((q * x)) _ W' := (hf (15, some 29) (.head _) rfl).2.2
  have g15 : FR W' _ ((q * x)) := g15
  have g19 : GFr ((p * y)) _ W' := (hf (19, some 33) (.tail _ (.head _)) rfl).2.2
  have g19 : FR W' _ ((p * y)) := g19
  clear hf
  go_step
  refine (pradd W' g15 g19 (s1.mul sx) (s0.mul sy) (by omega)).mono ?_
  rintro e W2 ⟨u, rfl, hu, hs⟩
  obtain ⟨xi1, xi2, xi3, xi4, xi5, xi6, xi7, xi8, rfl⟩ := hu.shape
  exact hK.out _ W2 (Keeps.steps hs) ⟨jst j0 hs, jk.then_ hs, jsz jn hs, b_t.steps hs, b_i.steps hs, ⟨fun h => (b_r.1 h).steps hs, fun h => by obtain ⟨d, cs, e, hb⟩ := b_r.2 h; exact ⟨d, cs, e, hb.steps hs⟩⟩, ⟨fun h => (b_q.1 h).steps hs, fun h => by obtain ⟨d, cs, e, hb⟩ := b_q.2 h; exact ⟨d, cs, e, hb.steps hs⟩⟩, b_v6.steps hs, b_v7.steps hs⟩ hu ⟨_, _, _, _, _, _, _, _, rfl⟩
 rintro _ ⟨xi1, xi2, xi3, xi4, xi5, xi6, xi7, xi8, rfl⟩
 refine Reg.at38 rfl ?_
 refine Reg.RP0 35 ?_
 apply Reg.RP rfl rfl rfl 36 rfl rfl
 ·
  intro D v' W' hc hj hf K hK
  obtain ⟨j0, jk, jn, b_t, b_i, b_r, b_q, b_v6, b_v7⟩ := hj
  have c12 := b_t.q12
  have c13 := b_t.q13
  have c14 := b_t.q14
  have c15 := b_t.q15
  go_step
  exact hK.out
 · rfl
 refine Reg.RC_call rfl (tlt rfl) rfl (fun D v' W' hc hj hf K hK => ?_) ?_
 ·
  obtain ⟨j0, jk, jn, b_t, b_i, b_r, b_q, b_v6, b_v7⟩ := hj
  have g20 : GFr (((q * x) + (p * y))) _ W' := (hf (20, some 34) (.head _) rfl).2.2
  have g20 : FR W' _ (((q * x) + (p * y))) := g20
  clear hf
  go_step
  refine (pradd W' g20 (F3.out.keeps jk) ((s1.mul sx).add (s0.mul sy)) s3 (by omega)).mono ?_
  rintro e W2 ⟨u, rfl, hu, hs⟩
  obtain ⟨xj1, xj2, xj3, xj4, xj5, xj6, xj7, xj8, rfl⟩ := hu.shape
  exact hK.out _ W2 (Keeps.steps hs) ⟨jst j0 hs, jk.then_ hs, jsz jn hs, b_t.steps hs, b_i.steps hs, ⟨fun h => (b_r.1 h).steps hs, fun h => by obtain ⟨d, cs, e, hb⟩ := b_r.2 h; exact ⟨d, cs, e, hb.steps hs⟩⟩, ⟨fun h => (b_q.1 h).steps hs, fun h => Bool.noConfusion ((hc.2 25 (by decide)).symm.trans h)⟩, b_v6.steps hs, b_v7.steps hs⟩ hu ⟨_, _, _, _, _, _, _, _, rfl⟩
 rintro _ ⟨xj1, xj2, xj3, xj4, xj5, xj6, xj7, xj8, rfl⟩
 refine Reg.at38 rfl ?_
 refine Reg.RC_call rfl (by intro t ht; cases ht) rfl (fun D v' W' hc hj hf K hK => ?_) (fun _ _ => Reg.RC_at (b := ⟨_, _⟩) rfl ?_)
 ·
  obtain ⟨j0, jk, jn, b_t, b_i, b_r, b_q, b_v6, b_v7⟩ := hj
  have hb := b_r.1 hc.1
  have e2 : w.heap.size ≤ w.heap.size + 1 + 1 := by omega
  have fc := hf (11, some 25) (.head _) rfl
  have ec : v' 11 = .agg #[.bool xf1, .slice xf2 xf3 xf4, .bool xf5, .slice xf6 xf7 xf8] := fc.2.1
  have ff := hb.fr
  obtain ⟨cc0, cc1, cc2, cc3⟩ := hb.r3
  go_step
  exact hK.out undef _ (keeps4 hb rfl) ⟨(below4 j0 (by show w.heap.size ≤ w.heap.size + 1 + 1; omega)), jk.trans (keeps4 hb rfl), by simpa using jn, (b_t).far4 (show w.heap.size ≠ w.heap.size + 1 + 1 by omega), (b_i).far4 (show w.heap.size + 1 ≠ w.heap.size + 1 + 1 by omega), ⟨fun h => Bool.noConfusion h, fun _ => ⟨fc.1, _, ec, (Blk.set2 (cs' := #[.bool xf1, .slice xf2 xf3 xf4, .bool xf5, .slice xf6 xf7 xf8]) (Blk.set2 (cs' := #[.bool xf1, .slice xf2 xf3 xf4, .bool xf5, .slice none 0 0]) (Blk.set2 (cs' := #[.bool xf1, .slice xf2 xf3 xf4, .bool false, .slice none 0 0]) (Blk.set2 (cs' := #[.bool xf1, .slice none 0 0, .bool false, .slice none 0 0]) hb (i := 0) rfl) (i := 1) rfl) (i := 2) rfl) (i := 3) rfl)⟩⟩, ⟨fun h => (b_q.1 h).far4 (show w.heap.size + 1 + 1 + 1 ≠ w.heap.size + 1 + 1 by omega), fun h => by obtain ⟨d, cs, e, hb2⟩ := b_q.2 h; exact ⟨d, cs, e, (hb2).far4 (show w.heap.size + 1 + 1 + 1 ≠ w.heap.size + 1 + 1 by omega)⟩⟩, (b_v6).far4 (show p6 ≠ w.heap.size + 1 + 1 by omega), (b_v7).far4 (show p7 ≠ w.heap.size + 1 + 1 by omega)⟩ trivial trivial
 refine Reg.RC_call rfl (by intro t ht; cases ht) rfl (fun D v' W' hc hj hf K hK => ?_) (fun _ _ => Reg.RC_at (b := ⟨_, _⟩) rfl ?_)
 ·
  obtain ⟨j0, jk, jn, b_t, b_i, b_r, b_q, b_v6, b_v7⟩ := hj
  have hb := b_q.1 hc.1
  have e2 : w.heap.size ≤ w.heap.size + 1 + 1 + 1 := by omega
  have fc := hf (23, some 37) (.head _) rfl
  have ec : v' 23 = .agg #[.bool xj1, .slice xj2 xj3 xj4, .bool xj5, .slice xj6 xj7 xj8] := fc.2.1
  have ff := hb.fr
  obtain ⟨cc0, cc1, cc2, cc3⟩ := hb.r3
  go_step
  exact hK.out undef _ (keeps4 hb rfl) ⟨(below4 j0 (by show w.heap.size ≤ w.heap.size + 1 + 1 + 1; omega)), jk.trans (keeps4 hb rfl), by simpa using jn, (b_t).far4 (show w.heap.size ≠ w.heap.size + 1 + 1 + 1 by omega), (b_i).far4 (show w.heap.size + 1 ≠ w.heap.size + 1 + 1 + 1 by omega), ⟨fun h => (b_r.1 h).far4 (show w.heap.size + 1 + 1 ≠ w.heap.size + 1 + 1 + 1 by omega), fun h => by obtain ⟨d, cs, e, hb2⟩ := b_r.2 h; exact ⟨d, cs, e, (hb2).far4 (show w.heap.size + 1 + 1 ≠ w.heap.size + 1 + 1 + 1 by omega)⟩⟩, ⟨fun h => Bool.noConfusion h, fun _ => ⟨fc.1, _, ec, (Blk.set2 (cs' := #[.bool xj1, .slice xj2 xj3 xj4, .bool xj5, .slice xj6 xj7 xj8]) (Blk.set2 (cs' := #[.bool xj1, .slice xj2 xj3 xj4, .bool xj5, .slice none 0 0]) (Blk.set2 (cs' := #[.bool xj1, .slice xj2 xj3 xj4, .bool false, .slice none 0 0]) (Blk.set2 (cs' := #[.bool xj1, .slice none 0 0, .bool false, .slice none 0 0]) hb (i := 0) rfl) (i := 1) rfl) (i := 2) rfl) (i := 3) rfl)⟩⟩, (b_v6).far4 (show p6 ≠ w.heap.size + 1 + 1 + 1 by omega), (b_v7).far4 (show p7 ≠ w.heap.size + 1 + 1 + 1 by omega)⟩ trivial trivial
 refine Reg.RC_end (fun Dn v' w2 hd hj hf => ?_)
 obtain ⟨j0, jk, jn, b_t, b_i, b_r, b_q, b_v6, b_v7⟩ := hj
 have B := j0
 have ot := b_t
 clear b_t
 have oi := b_i
 clear b_i
 obtain ⟨-, cs_, ee, or⟩ := b_r.2 (hd 24 (Nat.le_of_ble_eq_true rfl))
 have ef : v' 11 = .agg #[.bool xf1, .slice xf2 xf3 xf4, .bool xf5, .slice xf6 xf7 xf8] := (hf (11, some 25) (.tail _ (.tail _ (.tail _ (.head _)))) rfl).2.1
 obtain rfl : #[.bool xf1, .slice xf2 xf3 xf4, .bool xf5, .slice xf6 xf7 xf8] = cs_ := by have := ef.symm.trans ee; simpa only [Value.tuple.injEq, Value.agg.injEq, Array.mk.injEq, List.cons.injEq, and_true, true_and] using this
 clear b_r ee ef
 obtain ⟨-, cs_, ee, oq⟩ := b_q.2 (hd 25 (Nat.le_of_ble_eq_true rfl))
 have ef : v' 23 = .agg #[.bool xj1, .slice xj2 xj3 xj4, .bool xj5, .slice xj6 xj7 xj8] := (hf (23, some 37) (.tail _ (.tail _ (.tail _ (.tail _ (.tail _ (.tail _ (.tail _ (.head _)))))))) rfl).2.1
 obtain rfl : #[.bool xj1, .slice xj2 xj3 xj4, .bool xj5, .slice xj6 xj7 xj8] = cs_ := by have := ef.symm.trans ee; simpa only [Value.tuple.injEq, Value.agg.injEq, Array.mk.injEq, List.cons.injEq, and_true, true_and] using this
 clear b_q ee ef
 have ov6 := b_v6
 clear b_v6
 have ov7 := b_v7
 clear b_v7
 have Fxf : Hid (FR w2 (.agg #[.bool xf1, .slice xf2 xf3 xf4, .bool xf5, .slice xf6 xf7 xf8]) ((((p * x) - (q * y)) + r))) := (hf (11, some 25) (.tail _ (.tail _ (.tail _ (.head _)))) rfl).2.2
 have Fxj : Hid (FR w2 (.agg #[.bool xj1, .slice xj2 xj3 xj4, .bool xj5, .slice xj6 xj7 xj8]) ((((q * x) + (p * y)) + s))) := (hf (23, some 37) (.tail _ (.tail _ (.tail _ (.tail _ (.tail _ (.tail _ (.tail _ (.head _)))))))) rfl).2.2
 replace F0 := Hid.mk_ (F0.out.keeps jk)
 replace F1 := Hid.mk_ (F1.out.keeps jk)
 replace F2 := Hid.mk_ (F2.out.keeps jk)
 replace F3 := Hid.mk_ (F3.out.keeps jk)
 replace Fxa := Hid.mk_ (Fxa.out.keeps jk)
 replace Fxb := Hid.mk_ (Fxb.out.keeps jk)
 clear hd hf jk j0
 refine hQ _ _ ?_
 clear hQ hops Q' ops'
 have lt := ot.lt
 have li := oi.lt
 obtain ⟨cr0, cr1, cr2, cr3⟩ := or.r3
 have lr := or.lt
 obtain ⟨cq0, cq1, cq2, cq3⟩ := oq.r3
 have lq := oq.lt
 go_wp2_with fail
 refine bodyPost_ret (by simp [results, Tryz.results43, go_sem, lt, li, cr0, cr1, cr2, cr3, lr, cq0, cq1, cq2, cq3, lq]; rfl) rfl ?_
 exact ⟨_, _, rfl, Fxf.out.keeps keepsB, Fxj.out.keeps keepsB, belowB⟩
def f4q (a b c d : Rat) (i : Nat) : Rat := match i with | 0 => a | 1 => b | 2 => c | _ => d
theorem apart_lt {x y : Rat} {q : Int × Int} (h : absQ (x - (q.1 : Rat)) < absQ (y - (q.2 : Rat))) : apartQ x y q = absQ (y - (q.2 : Rat)) := if_pos h
theorem apart_ge {x y : Rat} {q : Int × Int} (h : ¬ absQ (x - (q.1 : Rat)) < absQ (y - (q.2 : Rat))) : apartQ x y q = absQ (x - (q.1 : Rat)) := if_neg h
theorem sz_apart {x y : Rat} {q : Int × Int} {k : Nat} (hx : sz x k) (hy : sz y k) (h : okP q) : sz (apartQ x y q) (k + 3) := by
 have s1 := (hx.sub (sz_coord ⟨h.1, h.2.1⟩)).abs
 have s2 := (hy.sub (sz_coord ⟨h.2.2.1, h.2.2.2⟩)).abs
 unfold apartQ
 split
 · exact s2
 · exact s1
theorem mapart {va vb : Value} {x y : Rat} {gc : Nat} {tc : TypeId} (px py : Int) (w : World) (hc : Blk w gc tc #[.int .i64 0]) (ha : FR w va x) (hb : FR w vb y) (sx : sz x 300) (sy : sz y 300) (hp : okP (px, py)) :
  Calls Tryz.prog 101 #[.pointer (some ⟨gc, 0, none⟩), va, vb, .agg #[.int .i64 px, .int .i64 py]] w fun e w' => ∃ u, e = .returned u ∧ FR w' u (apartQ x y (px, py)) ∧ Steps w w' := by
 obtain ⟨p0, p1, p2, p3⟩ := hp
 dsimp only at p0 p1 p2 p3
 have KC : ∀ w', Below w.heap.size w w' → Blk w' gc tc #[.int .i64 0] := fun w' s => hc.steps s
 have ofx : ∀ w', Below w.heap.size w w' → Calls Tryz.prog 66 #[.pointer (some ⟨gc, 0, none⟩), .int .i64 px] w' fun e w2 => ∃ v, e = .returned v ∧ FR w2 v (px : Rat) ∧ Steps w' w2 := fun w' s => mof px w' (KC w' s) (by omega) (by omega)
 have ofy : ∀ w', Below w.heap.size w w' → Calls Tryz.prog 66 #[.pointer (some ⟨gc, 0, none⟩), .int .i64 py] w' fun e w2 => ∃ v, e = .returned v ∧ FR w2 v (py : Rat) ∧ Steps w' w2 := fun w' s => mof py w' (KC w' s) (by omega) (by omega)
 have s1 : sz (px : Rat) 2 := sz_coord ⟨p0, p1⟩
 have s2 : sz (py : Rat) 2 := sz_coord ⟨p2, p3⟩
 have LT := fun h => apart_lt (x := x) (y := y) (q := (px, py)) h
 have GE := fun h => apart_ge (x := x) (y := y) (q := (px, py)) h
 generalize apartQ x y (px, py) = R at *
 dsimp only at LT GE
 generalize (px : Rat) = pX at *
 generalize (py : Rat) = pY at *
 obtain ⟨a1, a2, a3, a4, a5, a6, a7, a8, rfl⟩ := ha.shape
 obtain ⟨b1, b2, b3, b4, b5, b6, b7, b8, rfl⟩ := hb.shape
 have Fa := Hid.mk_ ha
 have Fb := Hid.mk_ hb
 clear ha hb p0 p1 p2 p3 hc
 go_enter Tryz.func101, Tryz.ntmps101
 go_upto_region 1 with fail
 refine Reg.wp_chain_n (fun N0 D v W => Below w.heap.size w W ∧ Keeps w W ∧ N0 ≤ W.heap.size ∧ Blk W (w.heap.size) 28 #[.bool a1, .slice a2 a3 a4, .bool a5, .slice a6 a7 a8] ∧ Blk W (w.heap.size + 1) 28 #[.bool b1, .slice b2 b3 b4, .bool b5, .slice b6 b7 b8] ∧ Blk W (w.heap.size + 1 + 1) 23 #[.int .i64 px, .int .i64 py] ∧ Blk W (w.heap.size + 1 + 1 + 1) 28 #[.bool false, .slice none 0 0, .bool false, .slice none 0 0] ∧ (D 14 = true → ∃ g : Nat, v 14 = .pointer (some ⟨g, 0, none⟩) ∧ N0 ≤ g ∧ g < W.heap.size ∧ (D 16 = false → Blk W g 28 #[.bool false, .slice none 0 0, .bool false, .slice none 0 0]) ∧ (D 16 = true → D 6 = true ∧ ∃ cs, v 6 = .agg cs ∧ Blk W g 28 cs)) ∧ (D 15 = true → ∃ g : Nat, v 15 = .pointer (some ⟨g, 0, none⟩) ∧ N0 ≤ g ∧ g < W.heap.size ∧ (D 17 = false → Blk W g 28 #[.bool false, .slice none 0 0, .bool false, .slice none 0 0]) ∧ (D 17 = true → D 13 = true ∧ ∃ cs, v 13 = .agg cs ∧ Blk W g 28 cs)) ∧ (D 14 = true → D 15 = true → v 14 ≠ v 15))
  (Reg.inl [5, 6, 12, 13, 14, 15, 16, 17]) (Reg.gv [(5, IsFr), (6, IsFr), (12, IsFr), (13, IsFr), (14, IsPtr), (15, IsPtr)]) (gw [(5, GFr (pX)), (6, GFr ((x - pX))), (12, GFr (pY)), (13, GFr ((y - pY)))]) (fun _ => Keeps) (fun _ _ => False) (Reg.pl [(6, [(5, some 16)]), (13, [(12, some 23)]), (16, [(6, some 17), (14, some 9)]), (17, [(13, some 24), (15, some 10)]), (18, [(5, some 16), (6, some 17), (12, some 23), (13, some 24), (14, some 9), (15, some 10)])]) (Reg.pl [(14, [16]), (6, [16]), (15, [17]), (13, [17])])
  (by kernel_rfl) (by kernel_rfl) (by kernel_rfl) (Reg.gvA _) (fun N0 hN0 => ⟨fun v => ?_, fun D v v' W hv hj => ?_, fun D v k j W W' x _ _ _ _ hk hg => gwA hk hg, fun _ _ _ _ h => h.elim, fun ops' Q' hops hQ => ?_⟩)
 · exact ⟨belowB, keepsB, Nat.le_of_eq hN0.out, ownK, ownK, ownK, ownK, (fun h => Bool.noConfusion h), (fun h => Bool.noConfusion h), (fun h => Bool.noConfusion h)⟩
 ·
  obtain ⟨j0, jk, jn, b_a, b_b, b_i, b_r, a_14, a_15, q_14_15⟩ := hj
  exact ⟨j0, jk, jn, b_a, b_b, b_i, b_r, fun h => by obtain ⟨g, e1, e2, e3, e4, e5⟩ := a_14 h; exact ⟨g, (hv 14 h) ▸ e1, e2, e3, e4, fun h => by obtain ⟨d, cs, e, hb⟩ := e5 h; exact ⟨d, cs, (hv 6 d) ▸ e, hb⟩⟩, fun h => by obtain ⟨g, e1, e2, e3, e4, e5⟩ := a_15 h; exact ⟨g, (hv 15 h) ▸ e1, e2, e3, e4, fun h => by obtain ⟨d, cs, e, hb⟩ := e5 h; exact ⟨d, cs, (hv 13 d) ▸ e, hb⟩⟩, fun h h' => (hv 14 h) ▸ (hv 15 h') ▸ q_14_15 h h'⟩
 have eN := hN0.out
 try simp only [World.size_alloc, World.size_setCell, World.size_drew, World.heap_drewN] at eN
 have i_a : w.heap.size < N0 := by first | omega | (have h := oa.lt; omega)
 have i_b : w.heap.size + 1 < N0 := by first | omega | (have h := ob.lt; omega)
 have i_i : w.heap.size + 1 + 1 < N0 := by first | omega | (have h := oi.lt; omega)
 have i_r : w.heap.size + 1 + 1 + 1 < N0 := by first | omega | (have h := or.lt; omega)
 have iw : w.heap.size ≤ N0 := by first | omega | (have h := B.size; omega)
 clear hN0 eN
 refine Reg.RP0 11 ?_
 apply Reg.RP rfl rfl rfl 12 rfl rfl
 ·
  intro D v' W' hc hj hf K hK
  obtain ⟨j0, jk, jn, b_a, b_b, b_i, b_r, a_14, a_15, q_14_15⟩ := hj
  obtain ⟨c0, c1, c2, c3⟩ := b_a.r3
  go_step
  exact hK.out
 · rfl
 refine Reg.RP0 13 ?_
 refine Reg.RP0 14 ?_
 apply Reg.RP rfl rfl rfl 15 rfl rfl
 ·
  intro D v' W' hc hj hf K hK
  obtain ⟨j0, jk, jn, b_a, b_b, b_i, b_r, a_14, a_15, q_14_15⟩ := hj
  have c0 := b_i.q0
  go_step
  exact hK.out
 · rfl
 refine Reg.RC_call rfl (tlt rfl) rfl (fun D v' W' hc hj hf K hK => ?_) ?_
 ·
  obtain ⟨j0, jk, jn, b_a, b_b, b_i, b_r, a_14, a_15, q_14_15⟩ := hj
  clear hf
  go_step
  refine (ofx W' j0).mono ?_
  rintro e W2 ⟨u, rfl, hu, hs⟩
  obtain ⟨kx1, kx2, kx3, kx4, kx5, kx6, kx7, kx8, rfl⟩ := hu.shape
  exact hK.out _ W2 (Keeps.steps hs) ⟨jst j0 hs, jk.then_ hs, jsz jn hs, b_a.steps hs, b_b.steps hs, b_i.steps hs, b_r.steps hs, fun h => by obtain ⟨g, e1, e2, e3, e4, e5⟩ := a_14 h; exact ⟨g, e1, e2, Nat.lt_of_lt_of_le e3 (hs).size, fun h => (e4 h).steps hs, fun h => by obtain ⟨d, cs, e, hb⟩ := e5 h; exact ⟨d, cs, e, hb.steps hs⟩⟩, fun h => by obtain ⟨g, e1, e2, e3, e4, e5⟩ := a_15 h; exact ⟨g, e1, e2, Nat.lt_of_lt_of_le e3 (hs).size, fun h => (e4 h).steps hs, fun h => by obtain ⟨d, cs, e, hb⟩ := e5 h; exact ⟨d, cs, e, hb.steps hs⟩⟩, q_14_15⟩ hu ⟨_, _, _, _, _, _, _, _, rfl⟩
 rintro _ ⟨kx1, kx2, kx3, kx4, kx5, kx6, kx7, kx8, rfl⟩
 refine Reg.RC_at (b := ⟨#[_,_,_,_,_,_,_,_,_,_,_,_,_,_,_,_,_,_,_,_,_,_,_,_,_,_,_,_,_,_,_,_,_,_,_,_], _⟩) rfl ?_
 refine Reg.RC_call rfl (tlt rfl) rfl (fun D v' W' hc hj hf K hK => ?_) ?_
 ·
  obtain ⟨j0, jk, jn, b_a, b_b, b_i, b_r, a_14, a_15, q_14_15⟩ := hj
  have g5 : GFr (pX) _ W' := (hf (5, some 16) (.head _) rfl).2.2
  have g5 : FR W' _ (pX) := g5
  clear hf
  go_step
  refine (msub W' (KC _ j0) (Fa.out.keeps jk) g5 sx s1 (by omega)).mono ?_
  rintro e W2 ⟨u, rfl, hu, hs⟩
  obtain ⟨dx1, dx2, dx3, dx4, dx5, dx6, dx7, dx8, rfl⟩ := hu.shape
  exact hK.out _ W2 (Keeps.steps hs) ⟨jst j0 hs, jk.then_ hs, jsz jn hs, b_a.steps hs, b_b.steps hs, b_i.steps hs, b_r.steps hs, fun h => by obtain ⟨g, e1, e2, e3, e4, e5⟩ := a_14 h; exact ⟨g, e1, e2, Nat.lt_of_lt_of_le e3 (hs).size, fun h => (e4 h).steps hs, fun h => Bool.noConfusion ((hc.2 16 (by decide)).symm.trans h)⟩, fun h => by obtain ⟨g, e1, e2, e3, e4, e5⟩ := a_15 h; exact ⟨g, e1, e2, Nat.lt_of_lt_of_le e3 (hs).size, fun h => (e4 h).steps hs, fun h => by obtain ⟨d, cs, e, hb⟩ := e5 h; exact ⟨d, cs, e, hb.steps hs⟩⟩, q_14_15⟩ hu ⟨_, _, _, _, _, _, _, _, rfl⟩
 rintro _ ⟨dx1, dx2, dx3, dx4, dx5, dx6, dx7, dx8, rfl⟩
 refine Reg.RC_at (b := ⟨#[_,_,_,_,_,_,_,_,_,_,_,_,_,_,_,_,_,_,_,_,_,_,_,_,_,_,_,_,_,_,_,_,_,_,_,_], _⟩) rfl ?_
 refine Reg.RP0 18 ?_
 apply Reg.RP rfl rfl rfl 19 rfl rfl
 ·
  intro D v' W' hc hj hf K hK
  obtain ⟨j0, jk, jn, b_a, b_b, b_i, b_r, a_14, a_15, q_14_15⟩ := hj
  obtain ⟨c0, c1, c2, c3⟩ := b_b.r3
  go_step
  exact hK.out
 · rfl
 refine Reg.RP0 20 ?_
 refine Reg.RP0 21 ?_
 apply Reg.RP rfl rfl rfl 22 rfl rfl
 ·
  intro D v' W' hc hj hf K hK
  obtain ⟨j0, jk, jn, b_a, b_b, b_i, b_r, a_14, a_15, q_14_15⟩ := hj
  have c1 := b_i.q1
  go_step
  exact hK.out
 · rfl
 refine Reg.RC_call rfl (tlt rfl) rfl (fun D v' W' hc hj hf K hK => ?_) ?_
 ·
  obtain ⟨j0, jk, jn, b_a, b_b, b_i, b_r, a_14, a_15, q_14_15⟩ := hj
  clear hf
  go_step
  refine (ofy W' j0).mono ?_
  rintro e W2 ⟨u, rfl, hu, hs⟩
  obtain ⟨ky1, ky2, ky3, ky4, ky5, ky6, ky7, ky8, rfl⟩ := hu.shape
  exact hK.out _ W2 (Keeps.steps hs) ⟨jst j0 hs, jk.then_ hs, jsz jn hs, b_a.steps hs, b_b.steps hs, b_i.steps hs, b_r.steps hs, fun h => by obtain ⟨g, e1, e2, e3, e4, e5⟩ := a_14 h; exact ⟨g, e1, e2, Nat.lt_of_lt_of_le e3 (hs).size, fun h => (e4 h).steps hs, fun h => by obtain ⟨d, cs, e, hb⟩ := e5 h; exact ⟨d, cs, e, hb.steps hs⟩⟩, fun h => by obtain ⟨g, e1, e2, e3, e4, e5⟩ := a_15 h; exact ⟨g, e1, e2, Nat.lt_of_lt_of_le e3 (hs).size, fun h => (e4 h).steps hs, fun h => by obtain ⟨d, cs, e, hb⟩ := e5 h; exact ⟨d, cs, e, hb.steps hs⟩⟩, q_14_15⟩ hu ⟨_, _, _, _, _, _, _, _, rfl⟩
 rintro _ ⟨ky1, ky2, ky3, ky4, ky5, ky6, ky7, ky8, rfl⟩
 refine Reg.RC_at (b := ⟨#[_,_,_,_,_,_,_,_,_,_,_,_,_,_,_,_,_,_,_,_,_,_,_,_,_,_,_,_,_,_,_,_,_,_,_,_], _⟩) rfl ?_
 refine Reg.RC_call rfl (tlt rfl) rfl (fun D v' W' hc hj hf K hK => ?_) ?_
 ·
  obtain ⟨j0, jk, jn, b_a, b_b, b_i, b_r, a_14, a_15, q_14_15⟩ := hj
  have g12 : GFr (pY) _ W' := (hf (12, some 23) (.head _) rfl).2.2
  have g12 : FR W' _ (pY) := g12
  clear hf
  go_step
  refine (msub W' (KC _ j0) (Fb.out.keeps jk) g12 sy s2 (by omega)).mono ?_
  rintro e W2 ⟨u, rfl, hu, hs⟩
  obtain ⟨dy1, dy2, dy3, dy4, dy5, dy6, dy7, dy8, rfl⟩ := hu.shape
  exact hK.out _ W2 (Keeps.steps hs) ⟨jst j0 hs, jk.then_ hs, jsz jn hs, b_a.steps hs, b_b.steps hs, b_i.steps hs, b_r.steps hs, fun h => by obtain ⟨g, e1, e2, e3, e4, e5⟩ := a_14 h; exact ⟨g, e1, e2, Nat.lt_of_lt_of_le e3 (hs).size, fun h => (e4 h).steps hs, fun h => by obtain ⟨d, cs, e, hb⟩ := e5 h; exact ⟨d, cs, e, hb.steps hs⟩⟩, fun h => by obtain ⟨g, e1, e2, e3, e4, e5⟩ := a_15 h; exact ⟨g, e1, e2, Nat.lt_of_lt_of_le e3 (hs).size, fun h => (e4 h).steps hs, fun h => Bool.noConfusion ((hc.2 17 (by decide)).symm.trans h)⟩, q_14_15⟩ hu ⟨_, _, _, _, _, _, _, _, rfl⟩
 rintro _ ⟨dy1, dy2, dy3, dy4, dy5, dy6, dy7, dy8, rfl⟩
 refine Reg.RC_at (b := ⟨#[_,_,_,_,_,_,_,_,_,_,_,_,_,_,_,_,_,_,_,_,_,_,_,_,_,_,_,_,_,_,_,_,_,_,_,_], _⟩) rfl ?_
 refine Reg.RC_call rfl (tlt rfl) rfl (fun D v' W' hc hj hf K hK => ?_) ?_
 ·
  obtain ⟨j0, jk, jn, b_a, b_b, b_i, b_r, a_14, a_15, q_14_15⟩ := hj
  go_step
  have hs : ∀ o : Obj, Steps W' (W'.alloc o) := fun o => (Below.refl _ _).alloc (Nat.le_refl _) o
  exact hK.out _ _ (Keeps.steps (hs _)) ⟨jst j0 (hs _), jk.then_ (hs _), jsz jn (hs _), b_a.steps (hs _), b_b.steps (hs _), b_i.steps (hs _), b_r.steps (hs _), fun _ => ⟨W'.heap.size, rfl, jn, by rw [World.size_alloc]; omega, fun _ => Blk.new _ _ _, fun h => Bool.noConfusion ((hc.2 16 (by decide)).symm.trans h)⟩, fun h => by obtain ⟨g, e1, e2, e3, e4, e5⟩ := a_15 h; exact ⟨g, e1, e2, Nat.lt_of_lt_of_le e3 ((hs _)).size, fun h => (e4 h).steps (hs _), fun h => by obtain ⟨d, cs, e, hb⟩ := e5 h; exact ⟨d, cs, e, hb.steps (hs _)⟩⟩, fun _ h' => by obtain ⟨g, e1, e2, e3, e4, e5⟩ := a_15 h'; exact fun e => Reg.ptr_ne e3 (e.trans e1)⟩ trivial ⟨_, rfl⟩
 rintro _ ⟨p9, rfl⟩
 refine Reg.RC_at (b := ⟨#[_,_,_,_,_,_,_,_,_,_,_,_,_,_,_,_,_,_,_,_,_,_,_,_,_,_,_,_,_,_,_,_,_,_,_,_], _⟩) rfl ?_
 refine Reg.RC_call rfl (tlt rfl) rfl (fun D v' W' hc hj hf K hK => ?_) ?_
 ·
  obtain ⟨j0, jk, jn, b_a, b_b, b_i, b_r, a_14, a_15, q_14_15⟩ := hj
  go_step
  have hs : ∀ o : Obj, Steps W' (W'.alloc o) := fun o => (Below.refl _ _).alloc (Nat.le_refl _) o
  exact hK.out _ _ (Keeps.steps (hs _)) ⟨jst j0 (hs _), jk.then_ (hs _), jsz jn (hs _), b_a.steps (hs _), b_b.steps (hs _), b_i.steps (hs _), b_r.steps (hs _), fun h => by obtain ⟨g, e1, e2, e3, e4, e5⟩ := a_14 h; exact ⟨g, e1, e2, Nat.lt_of_lt_of_le e3 ((hs _)).size, fun h => (e4 h).steps (hs _), fun h => by obtain ⟨d, cs, e, hb⟩ := e5 h; exact ⟨d, cs, e, hb.steps (hs _)⟩⟩, fun _ => ⟨W'.heap.size, rfl, jn, by rw [World.size_alloc]; omega, fun _ => Blk.new _ _ _, fun h => Bool.noConfusion ((hc.2 17 (by decide)).symm.trans h)⟩, fun h _ => by obtain ⟨g, e1, e2, e3, e4, e5⟩ := a_14 h; exact fun e => Reg.ptr_ne e3 (e.symm.trans e1)⟩ trivial ⟨_, rfl⟩
 rintro _ ⟨p10, rfl⟩
 refine Reg.RC_at (b := ⟨#[_,_,_,_,_,_,_,_,_,_,_,_,_,_,_,_,_,_,_,_,_,_,_,_,_,_,_,_,_,_,_,_,_,_,_,_], _⟩) rfl ?_
 refine Reg.RC_call rfl (by intro t ht; cases ht) rfl (fun D v' W' hc hj hf K hK => ?_) (fun _ _ => Reg.RC_at (b := ⟨_, _⟩) rfl ?_)
 ·
  obtain ⟨j0, jk, jn, b_a, b_b, b_i, b_r, a_14, a_15, q_14_15⟩ := hj
  have f := hf (14, some 9) (.tail _ (.head _)) rfl
  have e6 : v' 14 = .pointer (some ⟨p9, 0, none⟩) := f.2.1
  obtain ⟨g, e1, e2, e3, e4, e5⟩ := a_14 f.1
  obtain rfl : p9 = g := Reg.ptr_eq (e6.symm.trans e1)
  have hb := e4 hc.1
  clear e4 e5
  have fc := hf (6, some 17) (.head _) rfl
  have ec : v' 6 = .agg #[.bool dx1, .slice dx2 dx3 dx4, .bool dx5, .slice dx6 dx7 dx8] := fc.2.1
  have ff := hb.fr
  obtain ⟨cc0, cc1, cc2, cc3⟩ := hb.r3
  go_step
  exact hK.out undef _ (keeps4 hb rfl) ⟨(below4 j0 (by show w.heap.size ≤ p9; omega)), jk.trans (keeps4 hb rfl), by simpa using jn, (b_a).far4 (show w.heap.size ≠ p9 by omega), (b_b).far4 (show w.heap.size + 1 ≠ p9 by omega), (b_i).far4 (show w.heap.size + 1 + 1 ≠ p9 by omega), (b_r).far4 (show w.heap.size + 1 + 1 + 1 ≠ p9 by omega), fun _ => ⟨p9, e1, e2, by simpa using e3, fun h => Bool.noConfusion h, fun _ => ⟨fc.1, _, ec, (Blk.set2 (cs' := #[.bool dx1, .slice dx2 dx3 dx4, .bool dx5, .slice dx6 dx7 dx8]) (Blk.set2 (cs' := #[.bool dx1, .slice dx2 dx3 dx4, .bool dx5, .slice none 0 0]) (Blk.set2 (cs' := #[.bool dx1, .slice dx2 dx3 dx4, .bool false, .slice none 0 0]) (Blk.set2 (cs' := #[.bool dx1, .slice none 0 0, .bool false, .slice none 0 0]) hb (i := 0) rfl) (i := 1) rfl) (i := 2) rfl) (i := 3) rfl)⟩⟩, fun h => by obtain ⟨g, k1, k2, k3, k4, k5⟩ := a_15 h; have hne : g ≠ p9 := fun e => (q_14_15 f.1 h) (by rw [e6, k1, e]); exact ⟨g, k1, k2, by simpa using k3, fun h => (k4 h).far4 hne, fun h => by obtain ⟨d, cs, e, hb2⟩ := k5 h; exact ⟨d, cs, e, (hb2).far4 hne⟩⟩, q_14_15⟩ trivial trivial
 refine Reg.RC_call rfl (by intro t ht; cases ht) rfl (fun D v' W' hc hj hf K hK => ?_) (fun _ _ => Reg.RC_at (b := ⟨_, _⟩) rfl ?_)
 ·
  obtain ⟨j0, jk, jn, b_a, b_b, b_i, b_r, a_14, a_15, q_14_15⟩ := hj
  have f := hf (15, some 10) (.tail _ (.head _)) rfl
  have e6 : v' 15 = .pointer (some ⟨p10, 0, none⟩) := f.2.1
  obtain ⟨g, e1, e2, e3, e4, e5⟩ := a_15 f.1
  obtain rfl : p10 = g := Reg.ptr_eq (e6.symm.trans e1)
  have hb := e4 hc.1
  clear e4 e5
  have fc := hf (13, some 24) (.head _) rfl
  have ec : v' 13 = .agg #[.bool dy1, .slice dy2 dy3 dy4, .bool dy5, .slice dy6 dy7 dy8] := fc.2.1
  have ff := hb.fr
  obtain ⟨cc0, cc1, cc2, cc3⟩ := hb.r3
  go_step
  exact hK.out undef _ (keeps4 hb rfl) ⟨(below4 j0 (by show w.heap.size ≤ p10; omega)), jk.trans (keeps4 hb rfl), by simpa using jn, (b_a).far4 (show w.heap.size ≠ p10 by omega), (b_b).far4 (show w.heap.size + 1 ≠ p10 by omega), (b_i).far4 (show w.heap.size + 1 + 1 ≠ p10 by omega), (b_r).far4 (show w.heap.size + 1 + 1 + 1 ≠ p10 by omega), fun h => by obtain ⟨g, k1, k2, k3, k4, k5⟩ := a_14 h; have hne : g ≠ p10 := fun e => (q_14_15 h f.1) (by rw [e6, k1, e]); exact ⟨g, k1, k2, by simpa using k3, fun h => (k4 h).far4 hne, fun h => by obtain ⟨d, cs, e, hb2⟩ := k5 h; exact ⟨d, cs, e, (hb2).far4 hne⟩⟩, fun _ => ⟨p10, e1, e2, by simpa using e3, fun h => Bool.noConfusion h, fun _ => ⟨fc.1, _, ec, (Blk.set2 (cs' := #[.bool dy1, .slice dy2 dy3 dy4, .bool dy5, .slice dy6 dy7 dy8]) (Blk.set2 (cs' := #[.bool dy1, .slice dy2 dy3 dy4, .bool dy5, .slice none 0 0]) (Blk.set2 (cs' := #[.bool dy1, .slice dy2 dy3 dy4, .bool false, .slice none 0 0]) (Blk.set2 (cs' := #[.bool dy1, .slice none 0 0, .bool false, .slice none 0 0]) hb (i := 0) rfl) (i := 1) rfl) (i := 2) rfl) (i := 3) rfl)⟩⟩, q_14_15⟩ trivial trivial
 refine Reg.RC_end (fun Dn v' w1 hd hj hf => ?_)
 obtain ⟨j0, jk, jn, b_a, b_b, b_i, b_r, a_14, a_15, q_14_15⟩ := hj
 have B := j0
 have oa := b_a
 clear b_a
 have ob := b_b
 clear b_b
 have oi := b_i
 clear b_i
 have or := b_r
 clear b_r
 have f := hf (14, some 9) (.tail _ (.tail _ (.tail _ (.tail _ (.head _))))) rfl
 have e6_ : v' 14 = .pointer (some ⟨p9, 0, none⟩) := f.2.1
 obtain ⟨g, e1_, zdx, -, -, e5_⟩ := a_14 f.1
 obtain rfl : p9 = g := Reg.ptr_eq (e6_.symm.trans e1_)
 obtain ⟨-, cs_, ee, odx⟩ := e5_ (hd 16 (Nat.le_of_ble_eq_true rfl))
 have ef : v' 6 = .agg #[.bool dx1, .slice dx2 dx3 dx4, .bool dx5, .slice dx6 dx7 dx8] := (hf (6, some 17) (.tail _ (.head _)) rfl).2.1
 obtain rfl : #[.bool dx1, .slice dx2 dx3 dx4, .bool dx5, .slice dx6 dx7 dx8] = cs_ := by have := ef.symm.trans ee; simpa only [Value.tuple.injEq, Value.agg.injEq, Array.mk.injEq, List.cons.injEq, and_true, true_and] using this
 clear ee ef f e5_ e1_ e6_
 have f := hf (15, some 10) (.tail _ (.tail _ (.tail _ (.tail _ (.tail _ (.head _)))))) rfl
 have e6_ : v' 15 = .pointer (some ⟨p10, 0, none⟩) := f.2.1
 obtain ⟨g, e1_, zdy, -, -, e5_⟩ := a_15 f.1
 obtain rfl : p10 = g := Reg.ptr_eq (e6_.symm.trans e1_)
 obtain ⟨-, cs_, ee, ody⟩ := e5_ (hd 17 (Nat.le_of_ble_eq_true rfl))
 have ef : v' 13 = .agg #[.bool dy1, .slice dy2 dy3 dy4, .bool dy5, .slice dy6 dy7 dy8] := (hf (13, some 24) (.tail _ (.tail _ (.tail _ (.head _)))) rfl).2.1
 obtain rfl : #[.bool dy1, .slice dy2 dy3 dy4, .bool dy5, .slice dy6 dy7 dy8] = cs_ := by have := ef.symm.trans ee; simpa only [Value.tuple.injEq, Value.agg.injEq, Array.mk.injEq, List.cons.injEq, and_true, true_and] using this
 clear ee ef f e5_ e1_ e6_
 have y_14_15 : p9 ≠ p10 := fun e => q_14_15 (hf (14, some 9) (.tail _ (.tail _ (.tail _ (.tail _ (.head _))))) rfl).1 (hf (15, some 10) (.tail _ (.tail _ (.tail _ (.tail _ (.tail _ (.head _)))))) rfl).1 (by have h1 := (hf (14, some 9) (.tail _ (.tail _ (.tail _ (.tail _ (.head _))))) rfl).2.1; have h2 := (hf (15, some 10) (.tail _ (.tail _ (.tail _ (.tail _ (.tail _ (.head _)))))) rfl).2.1; rw [h1, h2]; show Value.pointer _ = .pointer _; rw [e])
 have Fdx : Hid (FR w1 (.agg #[.bool dx1, .slice dx2 dx3 dx4, .bool dx5, .slice dx6 dx7 dx8]) ((x - pX))) := (hf (6, some 17) (.tail _ (.head _)) rfl).2.2
 have Fdy : Hid (FR w1 (.agg #[.bool dy1, .slice dy2 dy3 dy4, .bool dy5, .slice dy6 dy7 dy8]) ((y - pY))) := (hf (13, some 24) (.tail _ (.tail _ (.tail _ (.head _)))) rfl).2.2
 replace Fa := Hid.mk_ (Fa.out.keeps jk)
 replace Fb := Hid.mk_ (Fb.out.keeps jk)
 clear hd hf jk j0 q_14_15
 refine hQ _ _ ?_
 clear hQ hops Q' ops'
 obtain ⟨cdx0, cdx1, cdx2, cdx3, fdx, ldx⟩ := odx.s3
 obtain ⟨cdy0, cdy1, cdy2, cdy3, fdy, ldy⟩ := ody.s3
 have Gdx : Hid (FR _ (.agg #[.bool false, .slice dx2 dx3 dx4, .bool dx5, .slice dx6 dx7 dx8]) (absQ (x - pX))) := Hid.mk_ Fdx.out.abs
 have Gdy : Hid (FR _ (.agg #[.bool false, .slice dy2 dy3 dy4, .bool dy5, .slice dy6 dy7 dy8]) (absQ (y - pY))) := Hid.mk_ Fdy.out.abs
 have LT' : cmpQ (absQ (x - pX)) (absQ (y - pY)) < 0 → R = absQ (y - pY) := fun h => LT (cmpQ_lt.1 h)
 have GE' : ¬ cmpQ (absQ (x - pX)) (absQ (y - pY)) < 0 → R = absQ (x - pX) := fun h => GE (fun g => h (cmpQ_lt.2 g))
 have CM := fun (w' : World) (u v : Value) (s : Below w.heap.size w w') (h1 : FR w' u (absQ (x - pX))) (h2 : FR w' v (absQ (y - pY))) => mcompare w' (KC w' s) h1 h2 (sx.sub s1).abs (sy.sub s2).abs (by omega)
 obtain ⟨c, hc⟩ : ∃ c, cmpQ (absQ (x - pX)) (absQ (y - pY)) = c := ⟨_, rfl⟩
 rw [hc] at CM LT' GE'
 clear hc LT GE
 go_wp2_with fail
 refine (CM _ _ _ belowB (Gdx.out.keeps keepsB) (Gdy.out.keeps keepsB)).mono ?_
 rintro e w2 ⟨rfl, hb2⟩
 have st : Steps _ w2 := hb2
 have Bn : Below w.heap.size w w2 := belowA st
 have kp : Keeps w1 w2 := Keeps.then_ keepsB st
 replace oa : Blk w2 (w.heap.size) 28 #[.bool a1, .slice a2 a3 a4, .bool a5, .slice a6 a7 a8] := Blk.stepsK st
 replace ob : Blk w2 (w.heap.size + 1) 28 #[.bool b1, .slice b2 b3 b4, .bool b5, .slice b6 b7 b8] := Blk.stepsK st
 replace oi : Blk w2 (w.heap.size + 1 + 1) 23 #[.int .i64 px, .int .i64 py] := Blk.stepsK st
 replace or : Blk w2 (w.heap.size + 1 + 1 + 1) 28 #[.bool false, .slice none 0 0, .bool false, .slice none 0 0] := Blk.stepsK st
 replace odx : Blk w2 (p9) 28 #[.bool false, .slice dx2 dx3 dx4, .bool dx5, .slice dx6 dx7 dx8] := Blk.stepsK st
 replace ody : Blk w2 (p10) 28 #[.bool false, .slice dy2 dy3 dy4, .bool dy5, .slice dy6 dy7 dy8] := Blk.stepsK st
 clear cdx0 cdx1 cdx2 cdx3 fdx ldx cdy0 cdy1 cdy2 cdy3 fdy ldy
 replace B := Bn
 replace Fa := Hid.mk_ (Fa.out.keeps kp)
 replace Fb := Hid.mk_ (Fb.out.keeps kp)
 replace Fdx := Hid.mk_ (Fdx.out.keeps kp)
 replace Fdy := Hid.mk_ (Fdy.out.keeps kp)
 replace Gdx := Hid.mk_ (Gdx.out.keeps kp)
 replace Gdy := Hid.mk_ (Gdy.out.keeps kp)
 clear kp
 clear st
 have la := oa.lt
 have lb := ob.lt
 have li := oi.lt
 obtain ⟨cr0, cr1, cr2, cr3, fr, lr⟩ := or.s3
 obtain ⟨cdx0, cdx1, cdx2, cdx3⟩ := odx.r3
 have ldx := odx.lt
 obtain ⟨cdy0, cdy1, cdy2, cdy3⟩ := ody.r3
 have ldy := ody.lt
 rcases Int.lt_or_le c 0 with hc | hc
 ·
  have E0 := LT' hc
  clear LT' GE' CM
  go_wp2_with fail
  refine bodyPost_ret (by simp [results, Tryz.results101, go_sem, la, lb, li, cr0, cr1, cr2, cr3, fr, lr, cdx0, cdx1, cdx2, cdx3, ldx, cdy0, cdy1, cdy2, cdy3, ldy]; rfl) rfl ?_
  exact ⟨_, rfl, by rw [E0]; exact Gdy.out.keeps keepsB, belowB⟩
 ·
  have hc2 : ¬ c < 0 := by omega
  have E0 : R = absQ (x - pX) := by first | exact GE' hc2 | exact GE' hc
  clear LT' GE' CM
  go_wp2_with fail
  refine bodyPost_ret (by simp [results, Tryz.results101, go_sem, la, lb, li, cr0, cr1, cr2, cr3, fr, lr, cdx0, cdx1, cdx2, cdx3, ldx, cdy0, cdy1, cdy2, cdy3, ldy]; rfl) rfl ?_
  exact ⟨_, rfl, by rw [E0]; exact Gdx.out.keeps keepsB, belowB⟩
theorem prapart {va vb : Value} {x y : Rat} (px py : Int) (w : World) (ha : FR w va x) (hb : FR w vb y) (sx : sz x 300) (sy : sz y 300) (hp : okP (px, py)) :
  Calls Tryz.prog 30 #[va, vb, .agg #[.int .i64 px, .int .i64 py]] w fun e w' => ∃ u, e = .returned u ∧ FR w' u (apartQ x y (px, py)) ∧ Steps w w' := by
 obtain ⟨p0, p1, p2, p3⟩ := hp
 dsimp only at p0 p1 p2 p3
 have ofx : ∀ w', Calls Tryz.prog 47 #[.int .i64 px] w' fun e w2 => ∃ v, e = .returned v ∧ FR w2 v (px : Rat) ∧ Steps w' w2 := fun w' => rwhole px w' (by omega) (by omega)
 have ofy : ∀ w', Calls Tryz.prog 47 #[.int .i64 py] w' fun e w2 => ∃ v, e = .returned v ∧ FR w2 v (py : Rat) ∧ Steps w' w2 := fun w' => rwhole py w' (by omega) (by omega)
 have s1 : sz (px : Rat) 2 := sz_coord ⟨p0, p1⟩
 have s2 : sz (py : Rat) 2 := sz_coord ⟨p2, p3⟩
 have LT := fun h => apart_lt (x := x) (y := y) (q := (px, py)) h
 have GE := fun h => apart_ge (x := x) (y := y) (q := (px, py)) h
 generalize apartQ x y (px, py) = R at *
 dsimp only at LT GE
 generalize (px : Rat) = pX at *
 generalize (py : Rat) = pY at *
 obtain ⟨a1, a2, a3, a4, a5, a6, a7, a8, rfl⟩ := ha.shape
 obtain ⟨b1, b2, b3, b4, b5, b6, b7, b8, rfl⟩ := hb.shape
 have Fa := Hid.mk_ ha
 have Fb := Hid.mk_ hb
 clear ha hb p0 p1 p2 p3
 go_enter Tryz.func30, Tryz.ntmps30
 go_upto_region 1 with fail
 refine Reg.wp_chain_n (fun N0 D v W => Below w.heap.size w W ∧ Keeps w W ∧ N0 ≤ W.heap.size ∧ Blk W (w.heap.size) 28 #[.bool a1, .slice a2 a3 a4, .bool a5, .slice a6 a7 a8] ∧ Blk W (w.heap.size + 1) 28 #[.bool b1, .slice b2 b3 b4, .bool b5, .slice b6 b7 b8] ∧ Blk W (w.heap.size + 1 + 1) 23 #[.int .i64 px, .int .i64 py] ∧ Blk W (w.heap.size + 1 + 1 + 1) 28 #[.bool false, .slice none 0 0, .bool false, .slice none 0 0] ∧ (D 10 = true → ∃ g : Nat, v 10 = .pointer (some ⟨g, 0, none⟩) ∧ N0 ≤ g ∧ g < W.heap.size ∧ (D 12 = false → Blk W g 28 #[.bool false, .slice none 0 0, .bool false, .slice none 0 0]) ∧ (D 12 = true → D 4 = true ∧ ∃ cs, v 4 = .agg cs ∧ Blk W g 28 cs)) ∧ (D 11 = true → ∃ g : Nat, v 11 = .pointer (some ⟨g, 0, none⟩) ∧ N0 ≤ g ∧ g < W.heap.size ∧ (D 13 = false → Blk W g 28 #[.bool false, .slice none 0 0, .bool false, .slice none 0 0]) ∧ (D 13 = true → D 9 = true ∧ ∃ cs, v 9 = .agg cs ∧ Blk W g 28 cs)) ∧ (D 10 = true → D 11 = true → v 10 ≠ v 11))
  (Reg.inl [3, 4, 8, 9, 10, 11, 12, 13]) (Reg.gv [(3, IsFr), (4, IsFr), (8, IsFr), (9, IsFr), (10, IsPtr), (11, IsPtr)]) (gw [(3, GFr (pX)), (4, GFr ((x - pX))), (8, GFr (pY)), (9, GFr ((y - pY)))]) (fun _ => Keeps) (fun _ _ => False) (Reg.pl [(4, [(3, some 12)]), (9, [(8, some 17)]), (12, [(4, some 13), (10, some 7)]), (13, [(9, some 18), (11, some 8)]), (14, [(3, some 12), (4, some 13), (8, some 17), (9, some 18), (10, some 7), (11, some 8)])]) (Reg.pl [(10, [12]), (4, [12]), (11, [13]), (9, [13])])
  (by kernel_rfl) (by kernel_rfl) (by kernel_rfl) (Reg.gvA _) (fun N0 hN0 => ⟨fun v => ?_, fun D v v' W hv hj => ?_, fun D v k j W W' x _ _ _ _ hk hg => gwA hk hg, fun _ _ _ _ h => h.elim, fun ops' Q' hops hQ => ?_⟩)
 · exact ⟨belowB, keepsB, Nat.le_of_eq hN0.out, ownK, ownK, ownK, ownK, (fun h => Bool.noConfusion h), (fun h => Bool.noConfusion h), (fun h => Bool.noConfusion h)⟩
 ·
  obtain ⟨j0, jk, jn, b_a, b_b, b_i, b_r, a_10, a_11, q_10_11⟩ := hj
  exact ⟨j0, jk, jn, b_a, b_b, b_i, b_r, fun h => by obtain ⟨g, e1, e2, e3, e4, e5⟩ := a_10 h; exact ⟨g, (hv 10 h) ▸ e1, e2, e3, e4, fun h => by obtain ⟨d, cs, e, hb⟩ := e5 h; exact ⟨d, cs, (hv 4 d) ▸ e, hb⟩⟩, fun h => by obtain ⟨g, e1, e2, e3, e4, e5⟩ := a_11 h; exact ⟨g, (hv 11 h) ▸ e1, e2, e3, e4, fun h => by obtain ⟨d, cs, e, hb⟩ := e5 h; exact ⟨d, cs, (hv 9 d) ▸ e, hb⟩⟩, fun h h' => (hv 10 h) ▸ (hv 11 h') ▸ q_10_11 h h'⟩
 have eN := hN0.out
 try simp only [World.size_alloc, World.size_setCell, World.size_drew, World.heap_drewN] at eN
 have i_a : w.heap.size < N0 := by first | omega | (have h := oa.lt; omega)
 have i_b : w.heap.size + 1 < N0 := by first | omega | (have h := ob.lt; omega)
 have i_i : w.heap.size + 1 + 1 < N0 := by first | omega | (have h := oi.lt; omega)
 have i_r : w.heap.size + 1 + 1 + 1 < N0 := by first | omega | (have h := or.lt; omega)
 have iw : w.heap.size ≤ N0 := by first | omega | (have h := B.size; omega)
 clear hN0 eN
 apply Reg.RP rfl rfl rfl 9 rfl rfl
 ·
  intro D v' W' hc hj hf K hK
  obtain ⟨j0, jk, jn, b_a, b_b, b_i, b_r, a_10, a_11, q_10_11⟩ := hj
  obtain ⟨c0, c1, c2, c3⟩ := b_a.r3
  go_step
  exact hK.out
 · rfl
 refine Reg.RP0 10 ?_
 apply Reg.RP rfl rfl rfl 11 rfl rfl
 ·
  intro D v' W' hc hj hf K hK
  obtain ⟨j0, jk, jn, b_a, b_b, b_i, b_r, a_10, a_11, q_10_11⟩ := hj
  have c0 := b_i.q0
  go_step
  exact hK.out
 · rfl
 refine Reg.RC_call rfl (tlt rfl) rfl (fun D v' W' hc hj hf K hK => ?_) ?_
 ·
  obtain ⟨j0, jk, jn, b_a, b_b, b_i, b_r, a_10, a_11, q_10_11⟩ := hj
  clear hf
  go_step
  refine (ofx W').mono ?_
  rintro e W2 ⟨u, rfl, hu, hs⟩
  obtain ⟨kx1, kx2, kx3, kx4, kx5, kx6, kx7, kx8, rfl⟩ := hu.shape
  exact hK.out _ W2 (Keeps.steps hs) ⟨jst j0 hs, jk.then_ hs, jsz jn hs, b_a.steps hs, b_b.steps hs, b_i.steps hs, b_r.steps hs, fun h => by obtain ⟨g, e1, e2, e3, e4, e5⟩ := a_10 h; exact ⟨g, e1, e2, Nat.lt_of_lt_of_le e3 (hs).size, fun h => (e4 h).steps hs, fun h => by obtain ⟨d, cs, e, hb⟩ := e5 h; exact ⟨d, cs, e, hb.steps hs⟩⟩, fun h => by obtain ⟨g, e1, e2, e3, e4, e5⟩ := a_11 h; exact ⟨g, e1, e2, Nat.lt_of_lt_of_le e3 (hs).size, fun h => (e4 h).steps hs, fun h => by obtain ⟨d, cs, e, hb⟩ := e5 h; exact ⟨d, cs, e, hb.steps hs⟩⟩, q_10_11⟩ hu ⟨_, _, _, _, _, _, _, _, rfl⟩
 rintro _ ⟨kx1, kx2, kx3, kx4, kx5, kx6, kx7, kx8, rfl⟩
 refine Reg.RC_at (b := ⟨#[_,_,_,_,_,_,_,_,_,_,_,_,_,_,_,_,_,_,_,_,_,_,_,_,_,_,_,_,_], _⟩) rfl ?_
 refine Reg.RC_call rfl (tlt rfl) rfl (fun D v' W' hc hj hf K hK => ?_) ?_
 ·
  obtain ⟨j0, jk, jn, b_a, b_b, b_i, b_r, a_10, a_11, q_10_11⟩ := hj
  have g3 : GFr (pX) _ W' := (hf (3, some 12) (.head _) rfl).2.2
  have g3 : FR W' _ (pX) := g3
  clear hf
  go_step
  refine (prsub W' (Fa.out.keeps jk) g3 sx s1 (by omega)).mono ?_
  rintro e W2 ⟨u, rfl, hu, hs⟩
  obtain ⟨dx1, dx2, dx3, dx4, dx5, dx6, dx7, dx8, rfl⟩ := hu.shape
  exact hK.out _ W2 (Keeps.steps hs) ⟨jst j0 hs, jk.then_ hs, jsz jn hs, b_a.steps hs, b_b.steps hs, b_i.steps hs, b_r.steps hs, fun h => by obtain ⟨g, e1, e2, e3, e4, e5⟩ := a_10 h; exact ⟨g, e1, e2, Nat.lt_of_lt_of_le e3 (hs).size, fun h => (e4 h).steps hs, fun h => Bool.noConfusion ((hc.2 12 (by decide)).symm.trans h)⟩, fun h => by obtain ⟨g, e1, e2, e3, e4, e5⟩ := a_11 h; exact ⟨g, e1, e2, Nat.lt_of_lt_of_le e3 (hs).size, fun h => (e4 h).steps hs, fun h => by obtain ⟨d, cs, e, hb⟩ := e5 h; exact ⟨d, cs, e, hb.steps hs⟩⟩, q_10_11⟩ hu ⟨_, _, _, _, _, _, _, _, rfl⟩
 rintro _ ⟨dx1, dx2, dx3, dx4, dx5, dx6, dx7, dx8, rfl⟩
 refine Reg.RC_at (b := ⟨#[_,_,_,_,_,_,_,_,_,_,_,_,_,_,_,_,_,_,_,_,_,_,_,_,_,_,_,_,_], _⟩) rfl ?_
 apply Reg.RP rfl rfl rfl 14 rfl rfl
 ·
  intro D v' W' hc hj hf K hK
  obtain ⟨j0, jk, jn, b_a, b_b, b_i, b_r, a_10, a_11, q_10_11⟩ := hj
  obtain ⟨c0, c1, c2, c3⟩ := b_b.r3
  go_step
  exact hK.out
 · rfl
 refine Reg.RP0 15 ?_
 apply Reg.RP rfl rfl rfl 16 rfl rfl
 ·
  intro D v' W' hc hj hf K hK
  obtain ⟨j0, jk, jn, b_a, b_b, b_i, b_r, a_10, a_11, q_10_11⟩ := hj
  have c1 := b_i.q1
  go_step
  exact hK.out
 · rfl
 refine Reg.RC_call rfl (tlt rfl) rfl (fun D v' W' hc hj hf K hK => ?_) ?_
 ·
  obtain ⟨j0, jk, jn, b_a, b_b, b_i, b_r, a_10, a_11, q_10_11⟩ := hj
  clear hf
  go_step
  refine (ofy W').mono ?_
  rintro e W2 ⟨u, rfl, hu, hs⟩
  obtain ⟨ky1, ky2, ky3, ky4, ky5, ky6, ky7, ky8, rfl⟩ := hu.shape
  exact hK.out _ W2 (Keeps.steps hs) ⟨jst j0 hs, jk.then_ hs, jsz jn hs, b_a.steps hs, b_b.steps hs, b_i.steps hs, b_r.steps hs, fun h => by obtain ⟨g, e1, e2, e3, e4, e5⟩ := a_10 h; exact ⟨g, e1, e2, Nat.lt_of_lt_of_le e3 (hs).size, fun h => (e4 h).steps hs, fun h => by obtain ⟨d, cs, e, hb⟩ := e5 h; exact ⟨d, cs, e, hb.steps hs⟩⟩, fun h => by obtain ⟨g, e1, e2, e3, e4, e5⟩ := a_11 h; exact ⟨g, e1, e2, Nat.lt_of_lt_of_le e3 (hs).size, fun h => (e4 h).steps hs, fun h => by obtain ⟨d, cs, e, hb⟩ := e5 h; exact ⟨d, cs, e, hb.steps hs⟩⟩, q_10_11⟩ hu ⟨_, _, _, _, _, _, _, _, rfl⟩
 rintro _ ⟨ky1, ky2, ky3, ky4, ky5, ky6, ky7, ky8, rfl⟩
 refine Reg.RC_at (b := ⟨#[_,_,_,_,_,_,_,_,_,_,_,_,_,_,_,_,_,_,_,_,_,_,_,_,_,_,_,_,_], _⟩) rfl ?_
 refine Reg.RC_call rfl (tlt rfl) rfl (fun D v' W' hc hj hf K hK => ?_) ?_
 ·
  obtain ⟨j0, jk, jn, b_a, b_b, b_i, b_r, a_10, a_11, q_10_11⟩ := hj
  have g8 : GFr (pY) _ W' := (hf (8, some 17) (.head _) rfl).2.2
  have g8 : FR W' _ (pY) := g8
  clear hf
  go_step
  refine (prsub W' (Fb.out.keeps jk) g8 sy s2 (by omega)).mono ?_
  rintro e W2 ⟨u, rfl, hu, hs⟩
  obtain ⟨dy1, dy2, dy3, dy4, dy5, dy6, dy7, dy8, rfl⟩ := hu.shape
  exact hK.out _ W2 (Keeps.steps hs) ⟨jst j0 hs, jk.then_ hs, jsz jn hs, b_a.steps hs, b_b.steps hs, b_i.steps hs, b_r.steps hs, fun h => by obtain ⟨g, e1, e2, e3, e4, e5⟩ := a_10 h; exact ⟨g, e1, e2, Nat.lt_of_lt_of_le e3 (hs).size, fun h => (e4 h).steps hs, fun h => by obtain ⟨d, cs, e, hb⟩ := e5 h; exact ⟨d, cs, e, hb.steps hs⟩⟩, fun h => by obtain ⟨g, e1, e2, e3, e4, e5⟩ := a_11 h; exact ⟨g, e1, e2, Nat.lt_of_lt_of_le e3 (hs).size, fun h => (e4 h).steps hs, fun h => Bool.noConfusion ((hc.2 13 (by decide)).symm.trans h)⟩, q_10_11⟩ hu ⟨_, _, _, _, _, _, _, _, rfl⟩
 rintro _ ⟨dy1, dy2, dy3, dy4, dy5, dy6, dy7, dy8, rfl⟩
 refine Reg.RC_at (b := ⟨#[_,_,_,_,_,_,_,_,_,_,_,_,_,_,_,_,_,_,_,_,_,_,_,_,_,_,_,_,_], _⟩) rfl ?_
 refine Reg.RC_call rfl (tlt rfl) rfl (fun D v' W' hc hj hf K hK => ?_) ?_
 ·
  obtain ⟨j0, jk, jn, b_a, b_b, b_i, b_r, a_10, a_11, q_10_11⟩ := hj
  go_step
  have hs : ∀ o : Obj, Steps W' (W'.alloc o) := fun o => (Below.refl _ _).alloc (Nat.le_refl _) o
  exact hK.out _ _ (Keeps.steps (hs _)) ⟨jst j0 (hs _), jk.then_ (hs _), jsz jn (hs _), b_a.steps (hs _), b_b.steps (hs _), b_i.steps (hs _), b_r.steps (hs _), fun _ => ⟨W'.heap.size, rfl, jn, by rw [World.size_alloc]; omega, fun _ => Blk.new _ _ _, fun h => Bool.noConfusion ((hc.2 12 (by decide)).symm.trans h)⟩, fun h => by obtain ⟨g, e1, e2, e3, e4, e5⟩ := a_11 h; exact ⟨g, e1, e2, Nat.lt_of_lt_of_le e3 ((hs _)).size, fun h => (e4 h).steps (hs _), fun h => by obtain ⟨d, cs, e, hb⟩ := e5 h; exact ⟨d, cs, e, hb.steps (hs _)⟩⟩, fun _ h' => by obtain ⟨g, e1, e2, e3, e4, e5⟩ := a_11 h'; exact fun e => Reg.ptr_ne e3 (e.trans e1)⟩ trivial ⟨_, rfl⟩
 rintro _ ⟨p7, rfl⟩
 refine Reg.RC_at (b := ⟨#[_,_,_,_,_,_,_,_,_,_,_,_,_,_,_,_,_,_,_,_,_,_,_,_,_,_,_,_,_], _⟩) rfl ?_
 refine Reg.RC_call rfl (tlt rfl) rfl (fun D v' W' hc hj hf K hK => ?_) ?_
 ·
  obtain ⟨j0, jk, jn, b_a, b_b, b_i, b_r, a_10, a_11, q_10_11⟩ := hj
  go_step
  have hs : ∀ o : Obj, Steps W' (W'.alloc o) := fun o => (Below.refl _ _).alloc (Nat.le_refl _) o
  exact hK.out _ _ (Keeps.steps (hs _)) ⟨jst j0 (hs _), jk.then_ (hs _), jsz jn (hs _), b_a.steps (hs _), b_b.steps (hs _), b_i.steps (hs _), b_r.steps (hs _), fun h => by obtain ⟨g, e1, e2, e3, e4, e5⟩ := a_10 h; exact ⟨g, e1, e2, Nat.lt_of_lt_of_le e3 ((hs _)).size, fun h => (e4 h).steps (hs _), fun h => by obtain ⟨d, cs, e, hb⟩ := e5 h; exact ⟨d, cs, e, hb.steps (hs _)⟩⟩, fun _ => ⟨W'.heap.size, rfl, jn, by rw [World.size_alloc]; omega, fun _ => Blk.new _ _ _, fun h => Bool.noConfusion ((hc.2 13 (by decide)).symm.trans h)⟩, fun h _ => by obtain ⟨g, e1, e2, e3, e4, e5⟩ := a_10 h; exact fun e => Reg.ptr_ne e3 (e.symm.trans e1)⟩ trivial ⟨_, rfl⟩
 rintro _ ⟨p8, rfl⟩
 refine Reg.RC_at (b := ⟨#[_,_,_,_,_,_,_,_,_,_,_,_,_,_,_,_,_,_,_,_,_,_,_,_,_,_,_,_,_], _⟩) rfl ?_
 refine Reg.RC_call rfl (by intro t ht; cases ht) rfl (fun D v' W' hc hj hf K hK => ?_) (fun _ _ => Reg.RC_at (b := ⟨_, _⟩) rfl ?_)
 ·
  obtain ⟨j0, jk, jn, b_a, b_b, b_i, b_r, a_10, a_11, q_10_11⟩ := hj
  have f := hf (10, some 7) (.tail _ (.head _)) rfl
  have e6 : v' 10 = .pointer (some ⟨p7, 0, none⟩) := f.2.1
  obtain ⟨g, e1, e2, e3, e4, e5⟩ := a_10 f.1
  obtain rfl : p7 = g := Reg.ptr_eq (e6.symm.trans e1)
  have hb := e4 hc.1
  clear e4 e5
  have fc := hf (4, some 13) (.head _) rfl
  have ec : v' 4 = .agg #[.bool dx1, .slice dx2 dx3 dx4, .bool dx5, .slice dx6 dx7 dx8] := fc.2.1
  have ff := hb.fr
  obtain ⟨cc0, cc1, cc2, cc3⟩ := hb.r3
  go_step
  exact hK.out undef _ (keeps4 hb rfl) ⟨(below4 j0 (by show w.heap.size ≤ p7; omega)), jk.trans (keeps4 hb rfl), by simpa using jn, (b_a).far4 (show w.heap.size ≠ p7 by omega), (b_b).far4 (show w.heap.size + 1 ≠ p7 by omega), (b_i).far4 (show w.heap.size + 1 + 1 ≠ p7 by omega), (b_r).far4 (show w.heap.size + 1 + 1 + 1 ≠ p7 by omega), fun _ => ⟨p7, e1, e2, by simpa using e3, fun h => Bool.noConfusion h, fun _ => ⟨fc.1, _, ec, (Blk.set2 (cs' := #[.bool dx1, .slice dx2 dx3 dx4, .bool dx5, .slice dx6 dx7 dx8]) (Blk.set2 (cs' := #[.bool dx1, .slice dx2 dx3 dx4, .bool dx5, .slice none 0 0]) (Blk.set2 (cs' := #[.bool dx1, .slice dx2 dx3 dx4, .bool false, .slice none 0 0]) (Blk.set2 (cs' := #[.bool dx1, .slice none 0 0, .bool false, .slice none 0 0]) hb (i := 0) rfl) (i := 1) rfl) (i := 2) rfl) (i := 3) rfl)⟩⟩, fun h => by obtain ⟨g, k1, k2, k3, k4, k5⟩ := a_11 h; have hne : g ≠ p7 := fun e => (q_10_11 f.1 h) (by rw [e6, k1, e]); exact ⟨g, k1, k2, by simpa using k3, fun h => (k4 h).far4 hne, fun h => by obtain ⟨d, cs, e, hb2⟩ := k5 h; exact ⟨d, cs, e, (hb2).far4 hne⟩⟩, q_10_11⟩ trivial trivial
 refine Reg.RC_call rfl (by intro t ht; cases ht) rfl (fun D v' W' hc hj hf K hK => ?_) (fun _ _ => Reg.RC_at (b := ⟨_, _⟩) rfl ?_)
 ·
  obtain ⟨j0, jk, jn, b_a, b_b, b_i, b_r, a_10, a_11, q_10_11⟩ := hj
  have f := hf (11, some 8) (.tail _ (.head _)) rfl
  have e6 : v' 11 = .pointer (some ⟨p8, 0, none⟩) := f.2.1
  obtain ⟨g, e1, e2, e3, e4, e5⟩ := a_11 f.1
  obtain rfl : p8 = g := Reg.ptr_eq (e6.symm.trans e1)
  have hb := e4 hc.1
  clear e4 e5
  have fc := hf (9, some 18) (.head _) rfl
  have ec : v' 9 = .agg #[.bool dy1, .slice dy2 dy3 dy4, .bool dy5, .slice dy6 dy7 dy8] := fc.2.1
  have ff := hb.fr
  obtain ⟨cc0, cc1, cc2, cc3⟩ := hb.r3
  go_step
  exact hK.out undef _ (keeps4 hb rfl) ⟨(below4 j0 (by show w.heap.size ≤ p8; omega)), jk.trans (keeps4 hb rfl), by simpa using jn, (b_a).far4 (show w.heap.size ≠ p8 by omega), (b_b).far4 (show w.heap.size + 1 ≠ p8 by omega), (b_i).far4 (show w.heap.size + 1 + 1 ≠ p8 by omega), (b_r).far4 (show w.heap.size + 1 + 1 + 1 ≠ p8 by omega), fun h => by obtain ⟨g, k1, k2, k3, k4, k5⟩ := a_10 h; have hne : g ≠ p8 := fun e => (q_10_11 h f.1) (by rw [e6, k1, e]); exact ⟨g, k1, k2, by simpa using k3, fun h => (k4 h).far4 hne, fun h => by obtain ⟨d, cs, e, hb2⟩ := k5 h; exact ⟨d, cs, e, (hb2).far4 hne⟩⟩, fun _ => ⟨p8, e1, e2, by simpa using e3, fun h => Bool.noConfusion h, fun _ => ⟨fc.1, _, ec, (Blk.set2 (cs' := #[.bool dy1, .slice dy2 dy3 dy4, .bool dy5, .slice dy6 dy7 dy8]) (Blk.set2 (cs' := #[.bool dy1, .slice dy2 dy3 dy4, .bool dy5, .slice none 0 0]) (Blk.set2 (cs' := #[.bool dy1, .slice dy2 dy3 dy4, .bool false, .slice none 0 0]) (Blk.set2 (cs' := #[.bool dy1, .slice none 0 0, .bool false, .slice none 0 0]) hb (i := 0) rfl) (i := 1) rfl) (i := 2) rfl) (i := 3) rfl)⟩⟩, q_10_11⟩ trivial trivial
 refine Reg.RC_end (fun Dn v' w1 hd hj hf => ?_)
 obtain ⟨j0, jk, jn, b_a, b_b, b_i, b_r, a_10, a_11, q_10_11⟩ := hj
 have B := j0
 have oa := b_a
 clear b_a
 have ob := b_b
 clear b_b
 have oi := b_i
 clear b_i
 have or := b_r
 clear b_r
 have f := hf (10, some 7) (.tail _ (.tail _ (.tail _ (.tail _ (.head _))))) rfl
 have e6_ : v' 10 = .pointer (some ⟨p7, 0, none⟩) := f.2.1
 obtain ⟨g, e1_, zdx, -, -, e5_⟩ := a_10 f.1
 obtain rfl : p7 = g := Reg.ptr_eq (e6_.symm.trans e1_)
 obtain ⟨-, cs_, ee, odx⟩ := e5_ (hd 12 (Nat.le_of_ble_eq_true rfl))
 have ef : v' 4 = .agg #[.bool dx1, .slice dx2 dx3 dx4, .bool dx5, .slice dx6 dx7 dx8] := (hf (4, some 13) (.tail _ (.head _)) rfl).2.1
 obtain rfl : #[.bool dx1, .slice dx2 dx3 dx4, .bool dx5, .slice dx6 dx7 dx8] = cs_ := by have := ef.symm.trans ee; simpa only [Value.tuple.injEq, Value.agg.injEq, Array.mk.injEq, List.cons.injEq, and_true, true_and] using this
 clear ee ef f e5_ e1_ e6_
 have f := hf (11, some 8) (.tail _ (.tail _ (.tail _ (.tail _ (.tail _ (.head _)))))) rfl
 have e6_ : v' 11 = .pointer (some ⟨p8, 0, none⟩) := f.2.1
 obtain ⟨g, e1_, zdy, -, -, e5_⟩ := a_11 f.1
 obtain rfl : p8 = g := Reg.ptr_eq (e6_.symm.trans e1_)
 obtain ⟨-, cs_, ee, ody⟩ := e5_ (hd 13 (Nat.le_of_ble_eq_true rfl))
 have ef : v' 9 = .agg #[.bool dy1, .slice dy2 dy3 dy4, .bool dy5, .slice dy6 dy7 dy8] := (hf (9, some 18) (.tail _ (.tail _ (.tail _ (.head _)))) rfl).2.1
 obtain rfl : #[.bool dy1, .slice dy2 dy3 dy4, .bool dy5, .slice dy6 dy7 dy8] = cs_ := by have := ef.symm.trans ee; simpa only [Value.tuple.injEq, Value.agg.injEq, Array.mk.injEq, List.cons.injEq, and_true, true_and] using this
 clear ee ef f e5_ e1_ e6_
 have y_10_11 : p7 ≠ p8 := fun e => q_10_11 (hf (10, some 7) (.tail _ (.tail _ (.tail _ (.tail _ (.head _))))) rfl).1 (hf (11, some 8) (.tail _ (.tail _ (.tail _ (.tail _ (.tail _ (.head _)))))) rfl).1 (by have h1 := (hf (10, some 7) (.tail _ (.tail _ (.tail _ (.tail _ (.head _))))) rfl).2.1; have h2 := (hf (11, some 8) (.tail _ (.tail _ (.tail _ (.tail _ (.tail _ (.head _)))))) rfl).2.1; rw [h1, h2]; show Value.pointer _ = .pointer _; rw [e])
 have Fdx : Hid (FR w1 (.agg #[.bool dx1, .slice dx2 dx3 dx4, .bool dx5, .slice dx6 dx7 dx8]) ((x - pX))) := (hf (4, some 13) (.tail _ (.head _)) rfl).2.2
 have Fdy : Hid (FR w1 (.agg #[.bool dy1, .slice dy2 dy3 dy4, .bool dy5, .slice dy6 dy7 dy8]) ((y - pY))) := (hf (9, some 18) (.tail _ (.tail _ (.tail _ (.head _)))) rfl).2.2
 replace Fa := Hid.mk_ (Fa.out.keeps jk)
 replace Fb := Hid.mk_ (Fb.out.keeps jk)
 clear hd hf jk j0 q_10_11
 refine hQ _ _ ?_
 clear hQ hops Q' ops'
 obtain ⟨cdx0, cdx1, cdx2, cdx3, fdx, ldx⟩ := odx.s3
 obtain ⟨cdy0, cdy1, cdy2, cdy3, fdy, ldy⟩ := ody.s3
 have Gdx : Hid (FR _ (.agg #[.bool false, .slice dx2 dx3 dx4, .bool dx5, .slice dx6 dx7 dx8]) (absQ (x - pX))) := Hid.mk_ Fdx.out.abs
 have Gdy : Hid (FR _ (.agg #[.bool false, .slice dy2 dy3 dy4, .bool dy5, .slice dy6 dy7 dy8]) (absQ (y - pY))) := Hid.mk_ Fdy.out.abs
 have LT' : cmpQ (absQ (x - pX)) (absQ (y - pY)) < 0 → R = absQ (y - pY) := fun h => LT (cmpQ_lt.1 h)
 have GE' : ¬ cmpQ (absQ (x - pX)) (absQ (y - pY)) < 0 → R = absQ (x - pX) := fun h => GE (fun g => h (cmpQ_lt.2 g))
 have CM := fun (w' : World) (u v : Value) (h1 : FR w' u (absQ (x - pX))) (h2 : FR w' v (absQ (y - pY))) => prcmp w' h1 h2 (sx.sub s1).abs (sy.sub s2).abs (by omega)
 obtain ⟨c, hc⟩ : ∃ c, cmpQ (absQ (x - pX)) (absQ (y - pY)) = c := ⟨_, rfl⟩
 rw [hc] at CM LT' GE'
 clear hc LT GE
 go_wp2_with fail
 refine (CM _ _ _ (Gdx.out.keeps keepsB) (Gdy.out.keeps keepsB)).mono ?_
 rintro e w2 ⟨rfl, hb2⟩
 have st : Steps _ w2 := hb2
 have Bn : Below w.heap.size w w2 := belowA st
 have kp : Keeps w1 w2 := Keeps.then_ keepsB st
 replace oa : Blk w2 (w.heap.size) 28 #[.bool a1, .slice a2 a3 a4, .bool a5, .slice a6 a7 a8] := Blk.stepsK st
 replace ob : Blk w2 (w.heap.size + 1) 28 #[.bool b1, .slice b2 b3 b4, .bool b5, .slice b6 b7 b8] := Blk.stepsK st
 replace oi : Blk w2 (w.heap.size + 1 + 1) 23 #[.int .i64 px, .int .i64 py] := Blk.stepsK st
 replace or : Blk w2 (w.heap.size + 1 + 1 + 1) 28 #[.bool false, .slice none 0 0, .bool false, .slice none 0 0] := Blk.stepsK st
 replace odx : Blk w2 (p7) 28 #[.bool false, .slice dx2 dx3 dx4, .bool dx5, .slice dx6 dx7 dx8] := Blk.stepsK st
 replace ody : Blk w2 (p8) 28 #[.bool false, .slice dy2 dy3 dy4, .bool dy5, .slice dy6 dy7 dy8] := Blk.stepsK st
 clear cdx0 cdx1 cdx2 cdx3 fdx ldx cdy0 cdy1 cdy2 cdy3 fdy ldy
 replace B := Bn
 replace Fa := Hid.mk_ (Fa.out.keeps kp)
 replace Fb := Hid.mk_ (Fb.out.keeps kp)
 replace Fdx := Hid.mk_ (Fdx.out.keeps kp)
 replace Fdy := Hid.mk_ (Fdy.out.keeps kp)
 replace Gdx := Hid.mk_ (Gdx.out.keeps kp)
 replace Gdy := Hid.mk_ (Gdy.out.keeps kp)
 clear kp
 clear st
 have la := oa.lt
 have lb := ob.lt
 have li := oi.lt
 obtain ⟨cr0, cr1, cr2, cr3, fr, lr⟩ := or.s3
 obtain ⟨cdx0, cdx1, cdx2, cdx3⟩ := odx.r3
 have ldx := odx.lt
 obtain ⟨cdy0, cdy1, cdy2, cdy3⟩ := ody.r3
 have ldy := ody.lt
 rcases Int.lt_or_le c 0 with hc | hc
 ·
  have E0 := LT' hc
  clear LT' GE' CM
  go_wp2_with fail
  refine bodyPost_ret (by simp [results, Tryz.results30, go_sem, la, lb, li, cr0, cr1, cr2, cr3, fr, lr, cdx0, cdx1, cdx2, cdx3, ldx, cdy0, cdy1, cdy2, cdy3, ldy]; rfl) rfl ?_
  exact ⟨_, rfl, by rw [E0]; exact Gdy.out.keeps keepsB, belowB⟩
 ·
  have hc2 : ¬ c < 0 := by omega
  have E0 : R = absQ (x - pX) := by first | exact GE' hc2 | exact GE' hc
  clear LT' GE' CM
  go_wp2_with fail
  refine bodyPost_ret (by simp [results, Tryz.results30, go_sem, la, lb, li, cr0, cr1, cr2, cr3, fr, lr, cdx0, cdx1, cdx2, cdx3, ldx, cdy0, cdy1, cdy2, cdy3, ldy]; rfl) rfl ?_
  exact ⟨_, rfl, by rw [E0]; exact Gdx.out.keeps keepsB, belowB⟩
theorem sz_chance {R A n : Int} (r0 : 1 ≤ R) (r1 : R ≤ 65536) (a0 : 1 ≤ A) (a1 : A ≤ 17592186044416) (n0 : 0 ≤ n) (n1 : n ≤ 200) : sz (chanceQ R A n) 2 ∧ (0 ≤ n * 4 * R * R ∧ n * 4 * R * R ≤ 3435973836800) ∧ (0 ≤ n * 4 * R ∧ n * 4 * R ≤ 52428800) := by
 have h1 : 0 ≤ n * 4 * R ∧ n * 4 * R ≤ 52428800 := by
  have p := mul_bound (a := n * 4) (b := R) (m := 800) (n := 65536) (by omega) (by omega) (by omega) (by omega)
  exact ⟨Int.mul_nonneg (by omega) (by omega), by omega⟩
 have h2 : 0 ≤ n * 4 * R * R ∧ n * 4 * R * R ≤ 3435973836800 := by
  have p := mul_bound (a := n * 4 * R) (b := R) (m := 52428800) (n := 65536) (by omega) (by omega) (by omega) (by omega)
  exact ⟨Int.mul_nonneg (by omega) (by omega), by omega⟩
 exact ⟨sz_frac (by omega) (by rw [bp_two]; unfold absN; omega) (by rw [bp_two]; unfold absN; omega), h2, h1⟩
theorem chance_pos {R A n : Int} (r0 : 1 ≤ R) (a0 : 1 ≤ A) (n0 : 1 ≤ n) : 0 < chanceQ R A n := by
 unfold chanceQ
 have h : 0 < n * 4 * R * R := Int.mul_pos (Int.mul_pos (by omega) (by omega)) (by omega)
 rw [Rat.div_def]
 exact Rat.mul_pos (Rat.intCast_pos.2 h) (Rat.inv_pos.2 (Rat.intCast_pos.2 (by omega)))
theorem sz_one : sz ((1 : Int) : Rat) 2 := sz_coord (by decide)
theorem one_cast : ((1 : Int) : Rat) = 1 := rfl
theorem mchance {ua1 ua5 ub1 ub5 uc1 uc5 : Bool} {ua2 ua6 ub2 ub6 uc2 uc6 : Option Addr} {ua3 ua4 ua7 ua8 ub3 ub4 ub7 ub8 uc3 uc4 uc7 uc8 : Nat} (R A n : Int) {gc : Nat} {tc : TypeId} (w : World) (hc : Blk w gc tc #[.int .i64 0]) (r0 : 1 ≤ R) (r1 : R ≤ 65536) (a0 : 1 ≤ A) (a1 : A ≤ 17592186044416) (n0 : 0 ≤ n) (n1 : n ≤ 200) :
  Calls Tryz.prog 50 #[.pointer (some ⟨gc, 0, none⟩), .agg #[.bool ua1, .slice ua2 ua3 ua4, .bool ua5, .slice ua6 ua7 ua8, .int .i64 R, .int .i64 A, .bool ub1, .slice ub2 ub3 ub4, .bool ub5, .slice ub6 ub7 ub8, .bool uc1, .slice uc2 uc3 uc4, .bool uc5, .slice uc6 uc7 uc8], .int .i64 n] w fun e w' => ∃ v, e = .returned (.tuple #[v, .bool (decide (chanceQ R A n < 1))]) ∧ FR w' v (chanceQ R A n) ∧ Steps w w' := by
 obtain ⟨sc, m2, m1⟩ := sz_chance r0 r1 a0 a1 n0 n1
 obtain ⟨x1, e1⟩ : ∃ x, n * 4 = x := ⟨_, rfl⟩
 have v1 : wrap64 (n * 4) = x1 := by rw [← e1]; unfold wrap64; omega
 have eC : chanceQ R A n = ((n * 4 * R * R : Int) : Rat) / (A : Rat) := rfl
 rw [e1] at m1 m2 eC
 obtain ⟨x2, e2⟩ : ∃ x, x1 * R = x := ⟨_, rfl⟩
 rw [e2] at m1 m2 eC
 have v2 : wrap64 (x1 * R) = x2 := by rw [e2]; unfold wrap64; omega
 obtain ⟨x3, e3⟩ : ∃ x, x2 * R = x := ⟨_, rfl⟩
 rw [e3] at m2 eC
 have v3 : wrap64 (x2 * R) = x3 := by rw [e3]; unfold wrap64; omega
 have KC : ∀ w', Below w.heap.size w w' → Blk w' gc tc #[.int .i64 0] := fun w' s => hc.steps s
 have OF := fun w' => fofQ x3 A w' (by omega) (by omega) (by omega) (by omega) (by omega)
 rw [← eC] at OF
 have O1 : ∀ w', Below w.heap.size w w' → Calls Tryz.prog 66 #[.pointer (some ⟨gc, 0, none⟩), .int .i64 1] w' fun e w2 => ∃ v, e = .returned v ∧ FR w2 v (1 : Rat) ∧ Steps w' w2 := fun w' s => by have := mof 1 w' (KC w' s) (by decide) (by decide); rw [one_cast] at this; exact this
 have CM : ∀ w' u v, Below w.heap.size w w' → FR w' u (chanceQ R A n) → FR w' v 1 → Calls Tryz.prog 67 #[.pointer (some ⟨gc, 0, none⟩), u, v] w' fun e w2 => e = .returned (.int .i64 (cmpQ (chanceQ R A n) 1)) ∧ Steps w' w2 := fun w' u v s h1 h2 => mcompare w' (KC w' s) h1 h2 sc sz_one (by omega)
 have ED : decide (chanceQ R A n < 1) = decide (cmpQ (chanceQ R A n) 1 < 0) := decide_eq_decide.2 cmpQ_lt.symm
 rw [ED]
 have KP : ∀ w' u, Below w.heap.size w w' → FR w' u (chanceQ R A n) → Calls Tryz.prog 76 #[.pointer (some ⟨gc, 0, none⟩), u, .int .i64 0] w' fun e w2 => ∃ v, e = .returned v ∧ FR w2 v (chanceQ R A n) ∧ Steps w' w2 := fun w' u s h => mkeepQ w' (KC w' s) h
 obtain ⟨c, hcc⟩ : ∃ c, cmpQ (chanceQ R A n) 1 = c := ⟨_, rfl⟩
 rw [hcc] at CM ⊢
 generalize chanceQ R A n = q at *
 clear eC e1 e2 e3 m1 m2 r0 r1 a0 a1 n0 n1 hc ED hcc sc
 go_enter Tryz.func50, Tryz.ntmps50
 go_wp2_with fail
 refine (OF _).mono ?_
 rintro e w1 ⟨vya, rfl, hvya, hb1⟩
 have st : Steps _ w1 := hb1
 have B : Below w.heap.size w w1 := belowA st
 have ou : Blk w1 (w.heap.size) 45 #[.bool ua1, .slice ua2 ua3 ua4, .bool ua5, .slice ua6 ua7 ua8, .int .i64 R, .int .i64 A, .bool ub1, .slice ub2 ub3 ub4, .bool ub5, .slice ub6 ub7 ub8, .bool uc1, .slice uc2 uc3 uc4, .bool uc5, .slice uc6 uc7 uc8] := Blk.stepsK st
 have or : Blk w1 (w.heap.size + 1) 28 #[.bool false, .slice none 0 0, .bool false, .slice none 0 0] := Blk.stepsK st
 clear st
 obtain ⟨ya1, ya2, ya3, ya4, ya5, ya6, ya7, ya8, rfl⟩ := hvya.shape
 have Fya := Hid.mk_ hvya
 clear hvya
 go_wp2_with fail
 refine (KP _ _ belowB (Fya.out.keeps keepsB)).mono ?_
 rintro e w2 ⟨vh_, rfl, hvh_, hb2⟩
 have st : Steps _ w2 := hb2
 have sk : Below w1.heap.size w1 w2 := belowA st
 replace B := below_steps B (Nat.le_refl _) sk
 replace ou := ou.steps sk
 replace or := or.steps sk
 replace Fya := Hid.mk_ (Fya.out.steps sk)
 clear st sk
 obtain ⟨h_1, h_2, h_3, h_4, h_5, h_6, h_7, h_8, rfl⟩ := hvh_.shape
 have Fh_ := Hid.mk_ hvh_
 clear hvh_
 have zr_2 : w.heap.size + 1 < w2.heap.size := or.lt
 have zz2 := B.size
 go_wp2_with fail
 go_upto_region 2 with fail
 refine Reg.wp_chain_n (fun N0 D v W => Below w.heap.size w W ∧ Keeps w2 W ∧ N0 ≤ W.heap.size ∧ Blk W (w.heap.size) 45 #[.bool ua1, .slice ua2 ua3 ua4, .bool ua5, .slice ua6 ua7 ua8, .int .i64 R, .int .i64 A, .bool ub1, .slice ub2 ub3 ub4, .bool ub5, .slice ub6 ub7 ub8, .bool uc1, .slice uc2 uc3 uc4, .bool uc5, .slice uc6 uc7 uc8] ∧ ((D 7 = false → Blk W (w.heap.size + 1) 28 #[.bool false, .slice none 0 0, .bool false, .slice none 0 0]) ∧ (D 7 = true → Blk W (w.heap.size + 1) 28 #[.bool h_1, .slice h_2 h_3 h_4, .bool h_5, .slice h_6 h_7 h_8])) ∧ Blk W (w2.heap.size) 28 #[.bool h_1, .slice h_2 h_3 h_4, .bool h_5, .slice h_6 h_7 h_8])
  (Reg.inl [4, 5, 7]) (Reg.gv [(4, IsFr), (5, fun z_ => z_ = .int .i64 c)]) (gw [(4, GFr (1))]) (fun _ => Keeps) (fun _ _ => False) (Reg.pl [(5, [(4, some 28)]), (9, [(4, some 28), (5, some 29)])]) (Reg.pl [])
  (by kernel_rfl) (by kernel_rfl) (by kernel_rfl) (Reg.gvA _) (fun N0 hN0 => ⟨fun v => ?_, fun D v v' W hv hj => ?_, fun D v k j W W' x _ _ _ _ hk hg => gwA hk hg, fun _ _ _ _ h => h.elim, fun ops' Q' hops hQ => ?_⟩)
 · exact ⟨belowB, keepsB, Nat.le_of_eq hN0.out, ownK, ⟨fun _ => ownK, (fun h => Bool.noConfusion h)⟩, ownK⟩
 ·
  obtain ⟨j0, jk, jn, b_u, b_r, b_v8⟩ := hj
  exact ⟨j0, jk, jn, b_u, b_r, b_v8⟩
 have eN := hN0.out
 try simp only [World.size_alloc, World.size_setCell, World.size_drew, World.heap_drewN] at eN
 have i_u : w.heap.size < N0 := by first | omega | (have h := ou.lt; omega)
 have i_r : w.heap.size + 1 < N0 := by first | omega | (have h := or.lt; omega)
 have i_v8 : w2.heap.size < N0 := by first | omega | (have h := ov8.lt; omega)
 have iw : w.heap.size ≤ N0 := by first | omega | (have h := B.size; omega)
 clear hN0 eN
 apply Reg.RP rfl rfl rfl 24 rfl rfl
 ·
  intro D v' W' hc hj hf K hK
  obtain ⟨j0, jk, jn, b_u, b_r, b_v8⟩ := hj
  obtain ⟨c0, c1, c2, c3⟩ := b_v8.r3
  go_step
  exact hK.out
 · rfl
 refine Reg.RP0 25 ?_
 apply Reg.RP rfl rfl rfl 26 rfl rfl
 ·
  intro D v' W' hc hj hf K hK
  obtain ⟨j0, jk, jn, b_u, b_r, b_v8⟩ := hj
  obtain ⟨c0, c1, c2, c3⟩ := b_v8.r3
  go_step
  exact hK.out
 · rfl
 refine Reg.RP0 27 ?_
 refine Reg.RC_call rfl (tlt rfl) rfl (fun D v' W' hc hj hf K hK => ?_) ?_
 ·
  obtain ⟨j0, jk, jn, b_u, b_r, b_v8⟩ := hj
  clear hf
  go_step
  refine (O1 W' j0).mono ?_
  rintro e W2 ⟨u, rfl, hu, hs⟩
  obtain ⟨k_1, k_2, k_3, k_4, k_5, k_6, k_7, k_8, rfl⟩ := hu.shape
  exact hK.out _ W2 (Keeps.steps hs) ⟨jst j0 hs, jk.then_ hs, jsz jn hs, b_u.steps hs, ⟨fun h => (b_r.1 h).steps hs, fun h => (b_r.2 h).steps hs⟩, b_v8.steps hs⟩ hu ⟨_, _, _, _, _, _, _, _, rfl⟩
 rintro _ ⟨k_1, k_2, k_3, k_4, k_5, k_6, k_7, k_8, rfl⟩
 refine Reg.RC_at (b := ⟨#[_,_,_,_,_,_,_,_,_,_,_,_,_,_,_,_,_,_,_,_,_,_,_,_,_,_,_,_,_,_,_], _⟩) rfl ?_
 refine Reg.RC_call rfl (tlt rfl) rfl (fun D v' W' hc hj hf K hK => ?_) ?_
 ·
  obtain ⟨j0, jk, jn, b_u, b_r, b_v8⟩ := hj
  have g4 : GFr (1) _ W' := (hf (4, some 28) (.head _) rfl).2.2
  have g4 : FR W' _ (1) := g4
  clear hf
  go_step
  refine (CM W' _ _ j0 (Fh_.out.keeps jk) g4).mono ?_
  rintro e W2 ⟨rfl, hs⟩
  exact hK.out _ W2 (Keeps.steps hs) ⟨jst j0 hs, jk.then_ hs, jsz jn hs, b_u.steps hs, ⟨fun h => (b_r.1 h).steps hs, fun h => (b_r.2 h).steps hs⟩, b_v8.steps hs⟩ trivial rfl
 rintro _ rfl
 refine Reg.RC_at (b := ⟨#[_,_,_,_,_,_,_,_,_,_,_,_,_,_,_,_,_,_,_,_,_,_,_,_,_,_,_,_,_,_,_], _⟩) rfl ?_
 refine Reg.RP0 30 ?_
 refine Reg.RC_call rfl (by intro t ht; cases ht) rfl (fun D v' W' hc hj hf K hK => ?_) (fun _ _ => Reg.RC_at (b := ⟨_, _⟩) rfl ?_)
 ·
  obtain ⟨j0, jk, jn, b_u, b_r, b_v8⟩ := hj
  have hb := b_r.1 hc.1
  have e2 : w.heap.size ≤ w.heap.size + 1 := by omega
  have ff := hb.fr
  obtain ⟨cc0, cc1, cc2, cc3⟩ := hb.r3
  go_step
  exact hK.out undef _ (keeps4 hb rfl) ⟨(below4 j0 (by show w.heap.size ≤ w.heap.size + 1; omega)), jk.trans (keeps4 hb rfl), by simpa using jn, (b_u).far4 (show w.heap.size ≠ w.heap.size + 1 by omega), ⟨fun h => Bool.noConfusion h, fun _ => (Blk.set2 (cs' := #[.bool h_1, .slice h_2 h_3 h_4, .bool h_5, .slice h_6 h_7 h_8]) (Blk.set2 (cs' := #[.bool h_1, .slice h_2 h_3 h_4, .bool h_5, .slice none 0 0]) (Blk.set2 (cs' := #[.bool h_1, .slice h_2 h_3 h_4, .bool false, .slice none 0 0]) (Blk.set2 (cs' := #[.bool h_1, .slice none 0 0, .bool false, .slice none 0 0]) hb (i := 0) rfl) (i := 1) rfl) (i := 2) rfl) (i := 3) rfl)⟩, (b_v8).far4 (show w2.heap.size ≠ w.heap.size + 1 by omega)⟩ trivial trivial
 refine Reg.RP0 7 ?_
 refine Reg.RC_end (fun Dn v' w3 hd hj hf => ?_)
 obtain ⟨j0, jk, jn, b_u, b_r, b_v8⟩ := hj
 have B := j0
 have ou := b_u
 clear b_u
 have or := b_r.2 (hd 7 (Nat.le_of_ble_eq_true rfl))
 clear b_r
 have ov8 := b_v8
 clear b_v8
 replace Fya := Hid.mk_ (Fya.out.keeps jk)
 replace Fh_ := Hid.mk_ (Fh_.out.keeps jk)
 clear hd hf jk j0
 refine hQ _ _ ?_
 clear hQ hops Q' ops'
 have lu := ou.lt
 obtain ⟨cr0, cr1, cr2, cr3⟩ := or.r3
 have lr := or.lt
 go_wp2_with fail
 refine bodyPost_ret (by simp [results, Tryz.results50, go_sem, lu, cr0, cr1, cr2, cr3, lr]; rfl) rfl ?_
 exact ⟨_, rfl, Fh_.out.keeps keepsB, belowB⟩
theorem rChance {ua1 ua5 ub1 ub5 uc1 uc5 : Bool} {ua2 ua6 ub2 ub6 uc2 uc6 : Option Addr} {ua3 ua4 ua7 ua8 ub3 ub4 ub7 ub8 uc3 uc4 uc7 uc8 : Nat} (R A n : Int) (w : World) (r0 : 1 ≤ R) (r1 : R ≤ 65536) (a0 : 1 ≤ A) (a1 : A ≤ 17592186044416) (n0 : 0 ≤ n) (n1 : n ≤ 200) :
  Calls Tryz.prog 64 #[.agg #[.bool ua1, .slice ua2 ua3 ua4, .bool ua5, .slice ua6 ua7 ua8, .int .i64 R, .int .i64 A, .bool ub1, .slice ub2 ub3 ub4, .bool ub5, .slice ub6 ub7 ub8, .bool uc1, .slice uc2 uc3 uc4, .bool uc5, .slice uc6 uc7 uc8], .int .i64 n] w fun e w' => ∃ v, e = .returned v ∧ FR w' v (chanceQ R A n) ∧ Steps w w' := by
 obtain ⟨sc, m2, m1⟩ := sz_chance r0 r1 a0 a1 n0 n1
 obtain ⟨x1, e1⟩ : ∃ x, n * 4 = x := ⟨_, rfl⟩
 have v1 : wrap64 (n * 4) = x1 := by rw [← e1]; unfold wrap64; omega
 have eC : chanceQ R A n = ((n * 4 * R * R : Int) : Rat) / (A : Rat) := rfl
 rw [e1] at m1 m2 eC
 obtain ⟨x2, e2⟩ : ∃ x, x1 * R = x := ⟨_, rfl⟩
 rw [e2] at m1 m2 eC
 have v2 : wrap64 (x1 * R) = x2 := by rw [e2]; unfold wrap64; omega
 obtain ⟨x3, e3⟩ : ∃ x, x2 * R = x := ⟨_, rfl⟩
 rw [e3] at m2 eC
 have v3 : wrap64 (x2 * R) = x3 := by rw [e3]; unfold wrap64; omega
 have OF := fun w' => rofF x3 A w' (by omega) (by omega) (by omega) (by omega) (by omega)
 rw [← eC] at OF
 generalize chanceQ R A n = q at *
 clear eC e1 e2 e3 m1 m2 r0 r1 a0 a1 n0 n1 sc
 go_enter Tryz.func64, Tryz.ntmps64
 go_wp2_with fail
 refine (OF _).mono ?_
 rintro e w1 ⟨vq, rfl, hvq, hb1⟩
 have st : Steps _ w1 := hb1
 have B : Below w.heap.size w w1 := belowA st
 have ou : Blk w1 (w.heap.size) 45 #[.bool ua1, .slice ua2 ua3 ua4, .bool ua5, .slice ua6 ua7 ua8, .int .i64 R, .int .i64 A, .bool ub1, .slice ub2 ub3 ub4, .bool ub5, .slice ub6 ub7 ub8, .bool uc1, .slice uc2 uc3 uc4, .bool uc5, .slice uc6 uc7 uc8] := Blk.stepsK st
 have or : Blk w1 (w.heap.size + 1) 28 #[.bool false, .slice none 0 0, .bool false, .slice none 0 0] := Blk.stepsK st
 clear st
 have lu := ou.lt
 obtain ⟨cr0, cr1, cr2, cr3, fr, lr⟩ := or.s3
 obtain ⟨q1, q2, q3, q4, q5, q6, q7, q8, rfl⟩ := hvq.shape
 have Fq := Hid.mk_ hvq
 clear hvq
 have zr_1 : w.heap.size + 1 < w1.heap.size := or.lt
 have zz1 := B.size
 go_wp2_with fail
 refine bodyPost_ret (by simp [results, Tryz.results64, go_sem, lu, cr0, cr1, cr2, cr3, fr, lr]; rfl) rfl ?_
 exact ⟨_, rfl, Fq.out.keeps keepsB, belowB⟩
theorem rFactors {ua1 ua5 ub1 ub5 uc1 uc5 : Bool} {ua2 ua6 ub2 ub6 uc2 uc6 : Option Addr} {ua3 ua4 ua7 ua8 ub3 ub4 ub7 ub8 uc3 uc4 uc7 uc8 : Nat} (R A n : Int) {s : Rat} (w : World) (r0 : 1 ≤ R) (r1 : R ≤ 65536) (a0 : 1 ≤ A) (a1 : A ≤ 17592186044416) (n0 : 0 ≤ n) (n1 : n ≤ 200) (n2 : 1 ≤ n) (hub : FR w (.agg #[.bool ub1, .slice ub2 ub3 ub4, .bool ub5, .slice ub6 ub7 ub8]) s) (ss : sz s 2) :
  Calls Tryz.prog 102 #[.agg #[.bool ua1, .slice ua2 ua3 ua4, .bool ua5, .slice ua6 ua7 ua8, .int .i64 R, .int .i64 A, .bool ub1, .slice ub2 ub3 ub4, .bool ub5, .slice ub6 ub7 ub8, .bool uc1, .slice uc2 uc3 uc4, .bool uc5, .slice uc6 uc7 uc8], .int .i64 n] w fun e w' => ∃ u v, e = .returned (.tuple #[u, v]) ∧ FR w' u (withQ s (chanceQ R A n)) ∧ FR w' v s ∧ Steps w w' := by
 have sc := (sz_chance r0 r1 a0 a1 n0 n1).1
 have hp := chance_pos r0 a0 n2
 have CH := fun w' => rChance (ua1 := ua1) (ua2 := ua2) (ua3 := ua3) (ua4 := ua4) (ua5 := ua5) (ua6 := ua6) (ua7 := ua7) (ua8 := ua8) (ub1 := ub1) (ub2 := ub2) (ub3 := ub3) (ub4 := ub4) (ub5 := ub5) (ub6 := ub6) (ub7 := ub7) (ub8 := ub8) (uc1 := uc1) (uc2 := uc2) (uc3 := uc3) (uc4 := uc4) (uc5 := uc5) (uc6 := uc6) (uc7 := uc7) (uc8 := uc8) R A n w' r0 r1 a0 a1 n0 n1
 have O1 : ∀ w', Calls Tryz.prog 47 #[.int .i64 1] w' fun e w2 => ∃ v, e = .returned v ∧ FR w2 v (1 : Rat) ∧ Steps w' w2 := fun w' => by have := rwhole 1 w' (by decide) (by decide); rw [one_cast] at this; exact this
 have s1 : sz (1 : Rat) 2 := sz_one
 have eW : withQ s (chanceQ R A n) = (1 - s + s * chanceQ R A n) / chanceQ R A n := rfl
 rw [eW]
 have hne : chanceQ R A n ≠ 0 := Rat.ne_of_gt hp
 have Fb := Hid.mk_ hub
 generalize chanceQ R A n = q at *
 clear eW r0 r1 a0 a1 n0 n1 n2 hp hub
 go_enter Tryz.func102, Tryz.ntmps102
 go_wp2_with (first
  | (
    (with_reducible show wpList _ _ _ (⟨some 8, _, _, _, _, _⟩ :: _) _ _)
    refine load_big rfl 45 (.tmp 2) rfl (w.heap.size) rfl 45 #[.bool ua1, .slice ua2 ua3 ua4, .bool ua5, .slice ua6 ua7 ua8, .int .i64 R, .int .i64 A, .bool ub1, .slice ub2 ub3 ub4, .bool ub5, .slice ub6 ub7 ub8, .bool uc1, .slice uc2 uc3 uc4, .bool uc5, .slice uc6 uc7 uc8] _ ownK Tryz.underlying45 rfl (by kernel_rfl) ?_
    skip)
  )
 refine (CH _).mono ?_
 rintro e w1 ⟨vh_, rfl, hvh_, hb1⟩
 have st : Steps _ w1 := hb1
 have B : Below w.heap.size w w1 := belowA st
 have kp : Keeps w w1 := Keeps.then_ keepsB st
 have ou : Blk w1 (w.heap.size) 45 #[.bool ua1, .slice ua2 ua3 ua4, .bool ua5, .slice ua6 ua7 ua8, .int .i64 R, .int .i64 A, .bool ub1, .slice ub2 ub3 ub4, .bool ub5, .slice ub6 ub7 ub8, .bool uc1, .slice uc2 uc3 uc4, .bool uc5, .slice uc6 uc7 uc8] := Blk.stepsK st
 have or : Blk w1 (w.heap.size + 1) 28 #[.bool false, .slice none 0 0, .bool false, .slice none 0 0] := Blk.stepsK st
 have oq : Blk w1 (w.heap.size + 1 + 1) 28 #[.bool false, .slice none 0 0, .bool false, .slice none 0 0] := Blk.stepsK st
 replace Fb := Hid.mk_ (Fb.out.keeps kp)
 clear kp
 clear st
 obtain ⟨cu0, cu1, cu2, cu3, cu4, cu5, cu6, cu7, cu8, cu9, cu10, cu11, cu12, cu13⟩ := ou.r13
 have lu := ou.lt
 have lr := or.lt
 have lq := oq.lt
 obtain ⟨h_1, h_2, h_3, h_4, h_5, h_6, h_7, h_8, rfl⟩ := hvh_.shape
 have Fh_ := Hid.mk_ hvh_
 clear hvh_
 have zq_1 : w.heap.size + 1 + 1 < w1.heap.size := oq.lt
 have zz1 := B.size
 go_wp2_with fail
 go_upto_region 2 with fail
 refine Reg.wp_chain_n (fun N0 D v W => Below w.heap.size w W ∧ Keeps w1 W ∧ N0 ≤ W.heap.size ∧ Blk W (w.heap.size) 45 #[.bool ua1, .slice ua2 ua3 ua4, .bool ua5, .slice ua6 ua7 ua8, .int .i64 R, .int .i64 A, .bool ub1, .slice ub2 ub3 ub4, .bool ub5, .slice ub6 ub7 ub8, .bool uc1, .slice uc2 uc3 uc4, .bool uc5, .slice uc6 uc7 uc8] ∧ Blk W (w.heap.size + 1) 28 #[.bool false, .slice none 0 0, .bool false, .slice none 0 0] ∧ Blk W (w.heap.size + 1 + 1) 28 #[.bool false, .slice none 0 0, .bool false, .slice none 0 0] ∧ Blk W (w1.heap.size) 28 #[.bool h_1, .slice h_2 h_3 h_4, .bool h_5, .slice h_6 h_7 h_8] ∧ (D 9 = true → ∃ g : Nat, v 9 = .pointer (some ⟨g, 0, none⟩) ∧ N0 ≤ g ∧ g < W.heap.size ∧ (D 10 = false → Blk W g 28 #[.bool false, .slice none 0 0, .bool false, .slice none 0 0]) ∧ (D 10 = true → D 8 = true ∧ ∃ cs, v 8 = .agg cs ∧ Blk W g 28 cs)))
  (Reg.inl [0, 3, 7, 8, 9, 10]) (Reg.gv [(0, IsFr), (3, IsFr), (7, IsFr), (8, IsFr), (9, IsPtr)]) (gw [(0, GFr (1)), (3, GFr ((1 - s))), (7, GFr ((s * q))), (8, GFr (((1 - s) + (s * q))))]) (fun _ => Keeps) (fun _ _ => False) (Reg.pl [(3, [(0, some 11)]), (8, [(3, some 14), (7, some 18)]), (10, [(8, some 19), (9, some 7)]), (11, [(0, some 11), (3, some 14), (7, some 18), (8, some 19), (9, some 7)])]) (Reg.pl [(9, [10]), (8, [10])])
  (by kernel_rfl) (by kernel_rfl) (by kernel_rfl) (Reg.gvA _) (fun N0 hN0 => ⟨fun v => ?_, fun D v v' W hv hj => ?_, fun D v k j W W' x _ _ _ _ hk hg => gwA hk hg, fun _ _ _ _ h => h.elim, fun ops' Q' hops hQ => ?_⟩)
 · exact ⟨belowB, keepsB, Nat.le_of_eq hN0.out, ownK, ownK, ownK, ownK, (fun h => Bool.noConfusion h)⟩
 ·
  obtain ⟨j0, jk, jn, b_u, b_r, b_q, b_v6, a_9⟩ := hj
  exact ⟨j0, jk, jn, b_u, b_r, b_q, b_v6, fun h => by obtain ⟨g, e1, e2, e3, e4, e5⟩ := a_9 h; exact ⟨g, (hv 9 h) ▸ e1, e2, e3, e4, fun h => by obtain ⟨d, cs, e, hb⟩ := e5 h; exact ⟨d, cs, (hv 8 d) ▸ e, hb⟩⟩⟩
 have eN := hN0.out
 try simp only [World.size_alloc, World.size_setCell, World.size_drew, World.heap_drewN] at eN
 have i_u : w.heap.size < N0 := by first | omega | (have h := ou.lt; omega)
 have i_r : w.heap.size + 1 < N0 := by first | omega | (have h := or.lt; omega)
 have i_q : w.heap.size + 1 + 1 < N0 := by first | omega | (have h := oq.lt; omega)
 have i_v6 : w1.heap.size < N0 := by first | omega | (have h := ov6.lt; omega)
 have iw : w.heap.size ≤ N0 := by first | omega | (have h := B.size; omega)
 clear cu0 cu1 cu2 cu3 cu4 cu5 cu6 cu7 cu8 cu9 cu10 cu11 cu12 cu13 lu lr lq
 clear hN0
 refine Reg.RC_call rfl (tlt rfl) rfl (fun D v' W' hc hj hf K hK => ?_) ?_
 ·
  obtain ⟨j0, jk, jn, b_u, b_r, b_q, b_v6, a_9⟩ := hj
  clear hf
  go_step
  refine (O1 W').mono ?_
  rintro e W2 ⟨u, rfl, hu, hs⟩
  obtain ⟨k_1, k_2, k_3, k_4, k_5, k_6, k_7, k_8, rfl⟩ := hu.shape
  exact hK.out _ W2 (Keeps.steps hs) ⟨jst j0 hs, jk.then_ hs, jsz jn hs, b_u.steps hs, b_r.steps hs, b_q.steps hs, b_v6.steps hs, fun h => by obtain ⟨g, e1, e2, e3, e4, e5⟩ := a_9 h; exact ⟨g, e1, e2, Nat.lt_of_lt_of_le e3 (hs).size, fun h => (e4 h).steps hs, fun h => by obtain ⟨d, cs, e, hb⟩ := e5 h; exact ⟨d, cs, e, hb.steps hs⟩⟩⟩ hu ⟨_, _, _, _, _, _, _, _, rfl⟩
 rintro _ ⟨k_1, k_2, k_3, k_4, k_5, k_6, k_7, k_8, rfl⟩
 refine Reg.RC_at (b := ⟨#[_,_,_,_,_,_,_,_,_,_,_,_,_,_,_,_,_,_,_,_,_,_,_,_,_], _⟩) rfl ?_
 refine Reg.RP0 12 ?_
 apply Reg.RP rfl rfl rfl 13 rfl rfl
 ·
  intro D v' W' hc hj hf K hK
  obtain ⟨j0, jk, jn, b_u, b_r, b_q, b_v6, a_9⟩ := hj
  have c6 := b_u.q6
  have c7 := b_u.q7
  have c8 := b_u.q8
  have c9 := b_u.q9
  go_step
  exact hK.out
 · rfl
 refine Reg.RC_call rfl (tlt rfl) rfl (fun D v' W' hc hj hf K hK => ?_) ?_
 ·
  obtain ⟨j0, jk, jn, b_u, b_r, b_q, b_v6, a_9⟩ := hj
  have g0 : GFr (1) _ W' := (hf (0, some 11) (.head _) rfl).2.2
  have g0 : FR W' _ (1) := g0
  clear hf
  go_step
  refine (prsub W' g0 (Fb.out.keeps jk) s1 ss (by omega)).mono ?_
  rintro e W2 ⟨u, rfl, hu, hs⟩
  obtain ⟨xa1, xa2, xa3, xa4, xa5, xa6, xa7, xa8, rfl⟩ := hu.shape
  exact hK.out _ W2 (Keeps.steps hs) ⟨jst j0 hs, jk.then_ hs, jsz jn hs, b_u.steps hs, b_r.steps hs, b_q.steps hs, b_v6.steps hs, fun h => by obtain ⟨g, e1, e2, e3, e4, e5⟩ := a_9 h; exact ⟨g, e1, e2, Nat.lt_of_lt_of_le e3 (hs).size, fun h => (e4 h).steps hs, fun h => by obtain ⟨d, cs, e, hb⟩ := e5 h; exact ⟨d, cs, e, hb.steps hs⟩⟩⟩ hu ⟨_, _, _, _, _, _, _, _, rfl⟩
 rintro _ ⟨xa1, xa2, xa3, xa4, xa5, xa6, xa7, xa8, rfl⟩
 refine Reg.RC_at (b := ⟨#[_,_,_,_,_,_,_,_,_,_,_,_,_,_,_,_,_,_,_,_,_,_,_,_,_], _⟩) rfl ?_
 refine Reg.RP0 15 ?_
 apply Reg.RP rfl rfl rfl 16 rfl rfl
 ·
  intro D v' W' hc hj hf K hK
  obtain ⟨j0, jk, jn, b_u, b_r, b_q, b_v6, a_9⟩ := hj
  have c6 := b_u.q6
  have c7 := b_u.q7
  have c8 := b_u.q8
  have c9 := b_u.q9
  go_step
  exact hK.out
 · rfl
 apply Reg.RP rfl rfl rfl 17 rfl rfl
 ·
  intro D v' W' hc hj hf K hK
  obtain ⟨j0, jk, jn, b_u, b_r, b_q, b_v6, a_9⟩ := hj
  obtain ⟨c0, c1, c2, c3⟩ := b_v6.r3
  go_step
  exact hK.out
 · rfl
 refine Reg.RC_call rfl (tlt rfl) rfl (fun D v' W' hc hj hf K hK => ?_) ?_
 ·
  obtain ⟨j0, jk, jn, b_u, b_r, b_q, b_v6, a_9⟩ := hj
  clear hf
  go_step
  refine (prmul W' (Fb.out.keeps jk) (Fh_.out.keeps jk) ss sc (by omega)).mono ?_
  rintro e W2 ⟨u, rfl, hu, hs⟩
  obtain ⟨xb1, xb2, xb3, xb4, xb5, xb6, xb7, xb8, rfl⟩ := hu.shape
  exact hK.out _ W2 (Keeps.steps hs) ⟨jst j0 hs, jk.then_ hs, jsz jn hs, b_u.steps hs, b_r.steps hs, b_q.steps hs, b_v6.steps hs, fun h => by obtain ⟨g, e1, e2, e3, e4, e5⟩ := a_9 h; exact ⟨g, e1, e2, Nat.lt_of_lt_of_le e3 (hs).size, fun h => (e4 h).steps hs, fun h => by obtain ⟨d, cs, e, hb⟩ := e5 h; exact ⟨d, cs, e, hb.steps hs⟩⟩⟩ hu ⟨_, _, _, _, _, _, _, _, rfl⟩
 rintro _ ⟨xb1, xb2, xb3, xb4, xb5, xb6, xb7, xb8, rfl⟩
 refine Reg.RC_at (b := ⟨#[_,_,_,_,_,_,_,_,_,_,_,_,_,_,_,_,_,_,_,_,_,_,_,_,_], _⟩) rfl ?_
 refine Reg.RC_call rfl (tlt rfl) rfl (fun D v' W' hc hj hf K hK => ?_) ?_
 ·
  obtain ⟨j0, jk, jn, b_u, b_r, b_q, b_v6, a_9⟩ := hj
  have g3 : GFr ((1 - s)) _ W' := (hf (3, some 14) (.head _) rfl).2.2
  have g3 : FR W' _ ((1 - s)) := g3
  have g7 : GFr ((s * q)) _ W' := (hf (7, some 18) (.tail _ (.head _)) rfl).2.2
  have g7 : FR W' _ ((s * q)) := g7
  clear hf
  go_step
  refine (pradd W' g3 g7 (s1.sub ss) (ss.mul sc) (by omega)).mono ?_
  rintro e W2 ⟨u, rfl, hu, hs⟩
  obtain ⟨xc1, xc2, xc3, xc4, xc5, xc6, xc7, xc8, rfl⟩ := hu.shape
  exact hK.out _ W2 (Keeps.steps hs) ⟨jst j0 hs, jk.then_ hs, jsz jn hs, b_u.steps hs, b_r.steps hs, b_q.steps hs, b_v6.steps hs, fun h => by obtain ⟨g, e1, e2, e3, e4, e5⟩ := a_9 h; exact ⟨g, e1, e2, Nat.lt_of_lt_of_le e3 (hs).size, fun h => (e4 h).steps hs, fun h => Bool.noConfusion ((hc.2 10 (by decide)).symm.trans h)⟩⟩ hu ⟨_, _, _, _, _, _, _, _, rfl⟩
 rintro _ ⟨xc1, xc2, xc3, xc4, xc5, xc6, xc7, xc8, rfl⟩
 refine Reg.RC_at (b := ⟨#[_,_,_,_,_,_,_,_,_,_,_,_,_,_,_,_,_,_,_,_,_,_,_,_,_], _⟩) rfl ?_
 refine Reg.RC_call rfl (tlt rfl) rfl (fun D v' W' hc hj hf K hK => ?_) ?_
 ·
  obtain ⟨j0, jk, jn, b_u, b_r, b_q, b_v6, a_9⟩ := hj
  go_step
  have hs : ∀ o : Obj, Steps W' (W'.alloc o) := fun o => (Below.refl _ _).alloc (Nat.le_refl _) o
  exact hK.out _ _ (Keeps.steps (hs _)) ⟨jst j0 (hs _), jk.then_ (hs _), jsz jn (hs _), b_u.steps (hs _), b_r.steps (hs _), b_q.steps (hs _), b_v6.steps (hs _), fun _ => ⟨W'.heap.size, rfl, jn, by rw [World.size_alloc]; omega, fun _ => Blk.new _ _ _, fun h => Bool.noConfusion ((hc.2 10 (by decide)).symm.trans h)⟩⟩ trivial ⟨_, rfl⟩
 rintro _ ⟨p7, rfl⟩
 refine Reg.RC_at (b := ⟨#[_,_,_,_,_,_,_,_,_,_,_,_,_,_,_,_,_,_,_,_,_,_,_,_,_], _⟩) rfl ?_
 refine Reg.RC_call rfl (by intro t ht; cases ht) rfl (fun D v' W' hc hj hf K hK => ?_) (fun _ _ => Reg.RC_at (b := ⟨_, _⟩) rfl ?_)
 ·
  obtain ⟨j0, jk, jn, b_u, b_r, b_q, b_v6, a_9⟩ := hj
  have f := hf (9, some 7) (.tail _ (.head _)) rfl
  have e6 : v' 9 = .pointer (some ⟨p7, 0, none⟩) := f.2.1
  obtain ⟨g, e1, e2, e3, e4, e5⟩ := a_9 f.1
  obtain rfl : p7 = g := Reg.ptr_eq (e6.symm.trans e1)
  have hb := e4 hc.1
  clear e4 e5
  have fc := hf (8, some 19) (.head _) rfl
  have ec : v' 8 = .agg #[.bool xc1, .slice xc2 xc3 xc4, .bool xc5, .slice xc6 xc7 xc8] := fc.2.1
  have ff := hb.fr
  obtain ⟨cc0, cc1, cc2, cc3⟩ := hb.r3
  go_step
  exact hK.out undef _ (keeps4 hb rfl) ⟨(below4 j0 (by show w.heap.size ≤ p7; omega)), jk.trans (keeps4 hb rfl), by simpa using jn, (b_u).far4 (show w.heap.size ≠ p7 by omega), (b_r).far4 (show w.heap.size + 1 ≠ p7 by omega), (b_q).far4 (show w.heap.size + 1 + 1 ≠ p7 by omega), (b_v6).far4 (show w1.heap.size ≠ p7 by omega), fun _ => ⟨p7, e1, e2, by simpa using e3, fun h => Bool.noConfusion h, fun _ => ⟨fc.1, _, ec, (Blk.set2 (cs' := #[.bool xc1, .slice xc2 xc3 xc4, .bool xc5, .slice xc6 xc7 xc8]) (Blk.set2 (cs' := #[.bool xc1, .slice xc2 xc3 xc4, .bool xc5, .slice none 0 0]) (Blk.set2 (cs' := #[.bool xc1, .slice xc2 xc3 xc4, .bool false, .slice none 0 0]) (Blk.set2 (cs' := #[.bool xc1, .slice none 0 0, .bool false, .slice none 0 0]) hb (i := 0) rfl) (i := 1) rfl) (i := 2) rfl) (i := 3) rfl)⟩⟩⟩ trivial trivial
 refine Reg.RC_end (fun Dn v' w2 hd hj hf => ?_)
 obtain ⟨j0, jk, jn, b_u, b_r, b_q, b_v6, a_9⟩ := hj
 have B := j0
 have ou := b_u
 clear b_u
 have or := b_r
 clear b_r
 have oq := b_q
 clear b_q
 have ov6 := b_v6
 clear b_v6
 have f := hf (9, some 7) (.tail _ (.tail _ (.tail _ (.tail _ (.head _))))) rfl
 have e6_ : v' 9 = .pointer (some ⟨p7, 0, none⟩) := f.2.1
 obtain ⟨g, e1_, zv7, -, -, e5_⟩ := a_9 f.1
 obtain rfl : p7 = g := Reg.ptr_eq (e6_.symm.trans e1_)
 obtain ⟨-, cs_, ee, ov7⟩ := e5_ (hd 10 (Nat.le_of_ble_eq_true rfl))
 have ef : v' 8 = .agg #[.bool xc1, .slice xc2 xc3 xc4, .bool xc5, .slice xc6 xc7 xc8] := (hf (8, some 19) (.tail _ (.tail _ (.tail _ (.head _)))) rfl).2.1
 obtain rfl : #[.bool xc1, .slice xc2 xc3 xc4, .bool xc5, .slice xc6 xc7 xc8] = cs_ := by have := ef.symm.trans ee; simpa only [Value.tuple.injEq, Value.agg.injEq, Array.mk.injEq, List.cons.injEq, and_true, true_and] using this
 clear ee ef f e5_ e1_ e6_
 have Fxc : Hid (FR w2 (.agg #[.bool xc1, .slice xc2 xc3 xc4, .bool xc5, .slice xc6 xc7 xc8]) (((1 - s) + (s * q)))) := (hf (8, some 19) (.tail _ (.tail _ (.tail _ (.head _)))) rfl).2.2
 replace Fb := Hid.mk_ (Fb.out.keeps jk)
 replace Fh_ := Hid.mk_ (Fh_.out.keeps jk)
 clear hd hf jk j0
 refine hQ _ _ ?_
 clear hQ hops Q' ops'
 obtain ⟨cu0, cu1, cu2, cu3, cu4, cu5, cu6, cu7, cu8, cu9, cu10, cu11, cu12, cu13⟩ := ou.r13
 have lu := ou.lt
 have lr := or.lt
 have lq := oq.lt
 obtain ⟨cv60, cv61, cv62, cv63⟩ := ov6.r3
 have lv6 := ov6.lt
 obtain ⟨cv70, cv71, cv72, cv73⟩ := ov7.r3
 have lv7 := ov7.lt
 have zv7_2 : p7 < w2.heap.size := ov7.lt
 have zz2 := B.size
 go_upto_region 3 with fail
 refine Reg.wp_chain_n (fun N0 D v W => Below w.heap.size w W ∧ Keeps w2 W ∧ N0 ≤ W.heap.size ∧ Blk W (w.heap.size) 45 #[.bool ua1, .slice ua2 ua3 ua4, .bool ua5, .slice ua6 ua7 ua8, .int .i64 R, .int .i64 A, .bool ub1, .slice ub2 ub3 ub4, .bool ub5, .slice ub6 ub7 ub8, .bool uc1, .slice uc2 uc3 uc4, .bool uc5, .slice uc6 uc7 uc8] ∧ ((D 5 = false → Blk W (w.heap.size + 1) 28 #[.bool false, .slice none 0 0, .bool false, .slice none 0 0]) ∧ (D 5 = true → D 2 = true ∧ ∃ cs, v 2 = .agg cs ∧ Blk W (w.heap.size + 1) 28 cs)) ∧ ((D 6 = false → Blk W (w.heap.size + 1 + 1) 28 #[.bool false, .slice none 0 0, .bool false, .slice none 0 0]) ∧ (D 6 = true → Blk W (w.heap.size + 1 + 1) 28 #[.bool ub1, .slice ub2 ub3 ub4, .bool ub5, .slice ub6 ub7 ub8])) ∧ Blk W (w1.heap.size) 28 #[.bool h_1, .slice h_2 h_3 h_4, .bool h_5, .slice h_6 h_7 h_8] ∧ Blk W (p7) 28 #[.bool xc1, .slice xc2 xc3 xc4, .bool xc5, .slice xc6 xc7 xc8])
  (Reg.inl [2, 5, 6]) (Reg.gv [(2, IsFr)]) (gw [(2, GFr ((((1 - s) + (s * q)) / q)))]) (fun _ => Keeps) (fun _ _ => False) (Reg.pl [(5, [(2, some 22)]), (7, [(2, some 22)])]) (Reg.pl [(2, [5])])
  (by kernel_rfl) (by kernel_rfl) (by kernel_rfl) (Reg.gvA _) (fun N0 hN0 => ⟨fun v => ?_, fun D v v' W hv hj => ?_, fun D v k j W W' x _ _ _ _ hk hg => gwA hk hg, fun _ _ _ _ h => h.elim, fun ops' Q' hops hQ => ?_⟩)
 · exact ⟨belowB, keepsB, Nat.le_of_eq hN0.out, ownK, ⟨fun _ => ownK, (fun h => Bool.noConfusion h)⟩, ⟨fun _ => ownK, (fun h => Bool.noConfusion h)⟩, ownK, ownK⟩
 ·
  obtain ⟨j0, jk, jn, b_u, b_r, b_q, b_v6, b_v7⟩ := hj
  exact ⟨j0, jk, jn, b_u, ⟨b_r.1, fun h => by obtain ⟨d, cs, e, hb⟩ := b_r.2 h; exact ⟨d, cs, (hv 2 d) ▸ e, hb⟩⟩, b_q, b_v6, b_v7⟩
 have eN := hN0.out
 try simp only [World.size_alloc, World.size_setCell, World.size_drew, World.heap_drewN] at eN
 have i_u : w.heap.size < N0 := by first | omega | (have h := ou.lt; omega)
 have i_r : w.heap.size + 1 < N0 := by first | omega | (have h := or.lt; omega)
 have i_q : w.heap.size + 1 + 1 < N0 := by first | omega | (have h := oq.lt; omega)
 have i_v6 : w1.heap.size < N0 := by first | omega | (have h := ov6.lt; omega)
 have i_v7 : p7 < N0 := by first | omega | (have h := ov7.lt; omega)
 have iw : w.heap.size ≤ N0 := by first | omega | (have h := B.size; omega)
 clear cu0 cu1 cu2 cu3 cu4 cu5 cu6 cu7 cu8 cu9 cu10 cu11 cu12 cu13 lu lr lq cv60 cv61 cv62 cv63 lv6 cv70 cv71 cv72 cv73 lv7
 clear hN0
 apply Reg.RP rfl rfl rfl 20 rfl rfl
 ·
  intro D v' W' hc hj hf K hK
  obtain ⟨j0, jk, jn, b_u, b_r, b_q, b_v6, b_v7⟩ := hj
  obtain ⟨c0, c1, c2, c3⟩ := b_v7.r3
  go_step
  exact hK.out
 · rfl
 apply Reg.RP rfl rfl rfl 21 rfl rfl
 ·
  intro D v' W' hc hj hf K hK
  obtain ⟨j0, jk, jn, b_u, b_r, b_q, b_v6, b_v7⟩ := hj
  obtain ⟨c0, c1, c2, c3⟩ := b_v6.r3
  go_step
  exact hK.out
 · rfl
 refine Reg.RC_call rfl (tlt rfl) rfl (fun D v' W' hc hj hf K hK => ?_) ?_
 ·
  obtain ⟨j0, jk, jn, b_u, b_r, b_q, b_v6, b_v7⟩ := hj
  clear hf
  go_step
  refine (prdiv W' (Fxc.out.keeps jk) (Fh_.out.keeps jk) ((s1.sub ss).add (ss.mul sc)) sc (by omega) hne).mono ?_
  rintro e W2 ⟨u, rfl, hu, hs⟩
  obtain ⟨xd1, xd2, xd3, xd4, xd5, xd6, xd7, xd8, rfl⟩ := hu.shape
  exact hK.out _ W2 (Keeps.steps hs) ⟨jst j0 hs, jk.then_ hs, jsz jn hs, b_u.steps hs, ⟨fun h => (b_r.1 h).steps hs, fun h => Bool.noConfusion ((hc.2 5 (by decide)).symm.trans h)⟩, ⟨fun h => (b_q.1 h).steps hs, fun h => (b_q.2 h).steps hs⟩, b_v6.steps hs, b_v7.steps hs⟩ hu ⟨_, _, _, _, _, _, _, _, rfl⟩
 rintro _ ⟨xd1, xd2, xd3, xd4, xd5, xd6, xd7, xd8, rfl⟩
 refine Reg.RC_at (b := ⟨#[_,_,_,_,_,_,_,_,_,_,_,_,_,_,_,_,_,_,_,_,_,_,_,_,_], _⟩) rfl ?_
 refine Reg.RP0 23 ?_
 apply Reg.RP rfl rfl rfl 24 rfl rfl
 ·
  intro D v' W' hc hj hf K hK
  obtain ⟨j0, jk, jn, b_u, b_r, b_q, b_v6, b_v7⟩ := hj
  have c6 := b_u.q6
  have c7 := b_u.q7
  have c8 := b_u.q8
  have c9 := b_u.q9
  go_step
  exact hK.out
 · rfl
 refine Reg.RC_call rfl (by intro t ht; cases ht) rfl (fun D v' W' hc hj hf K hK => ?_) (fun _ _ => Reg.RC_at (b := ⟨_, _⟩) rfl ?_)
 ·
  obtain ⟨j0, jk, jn, b_u, b_r, b_q, b_v6, b_v7⟩ := hj
  have hb := b_r.1 hc.1
  have e2 : w.heap.size ≤ w.heap.size + 1 := by omega
  have fc := hf (2, some 22) (.head _) rfl
  have ec : v' 2 = .agg #[.bool xd1, .slice xd2 xd3 xd4, .bool xd5, .slice xd6 xd7 xd8] := fc.2.1
  have ff := hb.fr
  obtain ⟨cc0, cc1, cc2, cc3⟩ := hb.r3
  go_step
  exact hK.out undef _ (keeps4 hb rfl) ⟨(below4 j0 (by show w.heap.size ≤ w.heap.size + 1; omega)), jk.trans (keeps4 hb rfl), by simpa using jn, (b_u).far4 (show w.heap.size ≠ w.heap.size + 1 by omega), ⟨fun h => Bool.noConfusion h, fun _ => ⟨fc.1, _, ec, (Blk.set2 (cs' := #[.bool xd1, .slice xd2 xd3 xd4, .bool xd5, .slice xd6 xd7 xd8]) (Blk.set2 (cs' := #[.bool xd1, .slice xd2 xd3 xd4, .bool xd5, .slice none 0 0]) (Blk.set2 (cs' := #[.bool xd1, .slice xd2 xd3 xd4, .bool false, .slice none 0 0]) (Blk.set2 (cs' := #[.bool xd1, .slice none 0 0, .bool false, .slice none 0 0]) hb (i := 0) rfl) (i := 1) rfl) (i := 2) rfl) (i := 3) rfl)⟩⟩, ⟨fun h => (b_q.1 h).far4 (show w.heap.size + 1 + 1 ≠ w.heap.size + 1 by omega), fun h => (b_q.2 h).far4 (show w.heap.size + 1 + 1 ≠ w.heap.size + 1 by omega)⟩, (b_v6).far4 (show w1.heap.size ≠ w.heap.size + 1 by omega), (b_v7).far4 (show p7 ≠ w.heap.size + 1 by omega)⟩ trivial trivial
 refine Reg.RC_call rfl (by intro t ht; cases ht) rfl (fun D v' W' hc hj hf K hK => ?_) (fun _ _ => Reg.RC_at (b := ⟨_, _⟩) rfl ?_)
 ·
  obtain ⟨j0, jk, jn, b_u, b_r, b_q, b_v6, b_v7⟩ := hj
  have hb := b_q.1 hc.1
  have e2 : w.heap.size ≤ w.heap.size + 1 + 1 := by omega
  have ff := hb.fr
  obtain ⟨cc0, cc1, cc2, cc3⟩ := hb.r3
  go_step
  exact hK.out undef _ (keeps4 hb rfl) ⟨(below4 j0 (by show w.heap.size ≤ w.heap.size + 1 + 1; omega)), jk.trans (keeps4 hb rfl), by simpa using jn, (b_u).far4 (show w.heap.size ≠ w.heap.size + 1 + 1 by omega), ⟨fun h => (b_r.1 h).far4 (show w.heap.size + 1 ≠ w.heap.size + 1 + 1 by omega), fun h => by obtain ⟨d, cs, e, hb2⟩ := b_r.2 h; exact ⟨d, cs, e, (hb2).far4 (show w.heap.size + 1 ≠ w.heap.size + 1 + 1 by omega)⟩⟩, ⟨fun h => Bool.noConfusion h, fun _ => (Blk.set2 (cs' := #[.bool ub1, .slice ub2 ub3 ub4, .bool ub5, .slice ub6 ub7 ub8]) (Blk.set2 (cs' := #[.bool ub1, .slice ub2 ub3 ub4, .bool ub5, .slice none 0 0]) (Blk.set2 (cs' := #[.bool ub1, .slice ub2 ub3 ub4, .bool false, .slice none 0 0]) (Blk.set2 (cs' := #[.bool ub1, .slice none 0 0, .bool false, .slice none 0 0]) hb (i := 0) rfl) (i := 1) rfl) (i := 2) rfl) (i := 3) rfl)⟩, (b_v6).far4 (show w1.heap.size ≠ w.heap.size + 1 + 1 by omega), (b_v7).far4 (show p7 ≠ w.heap.size + 1 + 1 by omega)⟩ trivial trivial
 refine Reg.RC_end (fun Dn v' w3 hd hj hf => ?_)
 obtain ⟨j0, jk, jn, b_u, b_r, b_q, b_v6, b_v7⟩ := hj
 have B := j0
 have ou := b_u
 clear b_u
 obtain ⟨-, cs_, ee, or⟩ := b_r.2 (hd 5 (Nat.le_of_ble_eq_true rfl))
 have ef : v' 2 = .agg #[.bool xd1, .slice xd2 xd3 xd4, .bool xd5, .slice xd6 xd7 xd8] := (hf (2, some 22) (.head _) rfl).2.1
 obtain rfl : #[.bool xd1, .slice xd2 xd3 xd4, .bool xd5, .slice xd6 xd7 xd8] = cs_ := by have := ef.symm.trans ee; simpa only [Value.tuple.injEq, Value.agg.injEq, Array.mk.injEq, List.cons.injEq, and_true, true_and] using this
 clear b_r ee ef
 have oq := b_q.2 (hd 6 (Nat.le_of_ble_eq_true rfl))
 clear b_q
 have ov6 := b_v6
 clear b_v6
 have ov7 := b_v7
 clear b_v7
 have Fxd : Hid (FR w3 (.agg #[.bool xd1, .slice xd2 xd3 xd4, .bool xd5, .slice xd6 xd7 xd8]) ((((1 - s) + (s * q)) / q))) := (hf (2, some 22) (.head _) rfl).2.2
 replace Fb := Hid.mk_ (Fb.out.keeps jk)
 replace Fh_ := Hid.mk_ (Fh_.out.keeps jk)
 replace Fxc := Hid.mk_ (Fxc.out.keeps jk)
 clear hd hf jk j0
 refine hQ _ _ ?_
 clear hQ hops Q' ops'
 have lu := ou.lt
 obtain ⟨cr0, cr1, cr2, cr3⟩ := or.r3
 have lr := or.lt
 obtain ⟨cq0, cq1, cq2, cq3⟩ := oq.r3
 have lq := oq.lt
 go_wp2_with fail
 refine bodyPost_ret (by simp [results, Tryz.results102, go_sem, lu, cr0, cr1, cr2, cr3, lr, cq0, cq1, cq2, cq3, lq]; rfl) rfl ?_
 exact ⟨_, _, rfl, Fxd.out.keeps keepsB, Fb.out.keeps keepsB, belowB⟩
end Go.Proofs.YtffmbepfbienaaaGreat
