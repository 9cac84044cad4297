import Derived.Test.YtffmbepfbienaaaGreatCMc
import Derived.Test.YtffmbepfbienaaaGreatCQx
namespace Go.Proofs.YtffmbepfbienaaaGreat
open Go.RowKit
set_option maxHeartbeats 6400000 in
set_option maxRecDepth 1000000 in
theorem rwhole02 (x : Int) (w : World) (x0 : -9223372036854775808 ≤ x) (x1 : x ≤ 9223372036854775807) :
    Calls Tryz.prog 88 #[.int .i64 x] w fun e w' => ∃ v, e = .returned v ∧ FR w' v (x : Rat) ∧ Steps w w' := by
  have f1 := fun w' => rfrom x w' x0 x1
  have f2 := fun w' => rfrom 1 w' (by decide) (by decide)
  have mk : ∀ w' a b c d, Num w' (.agg #[.bool a, b]) x → Num w' (.agg #[.bool c, d]) 1 → FR w' (.agg #[.bool a, b, .bool c, d]) (x : Rat) := fun w' a b c d h1 h2 => by
    have e1 : (x : Rat).num = x := Rat.num_intCast x
    have e2 : ((x : Rat).den : Int) = 1 := by rw [Rat.den_intCast]; rfl
    unfold FR
    rw [e1, e2]
    exact Frc.mk' h1 h2 (by decide) (by unfold gcdI; simp) (fits_small64 x0 x1) (fits_small64 (by decide) (by decide))
  clear x0 x1
  go_enter Tryz.func88, Tryz.ntmps88
  go_wp2_with fail
  refine (f1 _).mono ?_
  rintro e w1 ⟨vx, rfl, hvx, hb1⟩
  have st : Steps _ w1 := hb1
  have B : Below w.heap.size w w1 := belowA st
  have nr : Blk w1 (w.heap.size) 28 #[.bool false, .slice none 0 0, .bool false, .slice none 0 0] := Blk.stepsK st
  have or := nr
  clear nr
  clear st
  obtain ⟨x1, x2, x3, x4, rfl⟩ := hvx.shape
  have Fx := Hid.mk_ hvx
  clear hvx
  go_wp2_with fail
  refine (f2 _).mono ?_
  rintro e w2 ⟨vy, rfl, hvy, hb2⟩
  have st : Steps _ w2 := hb2
  have sk : Below w1.heap.size w1 w2 := belowA st
  replace B := below_steps B (Nat.le_refl _) sk
  replace or := or.steps sk
  replace Fx := Hid.mk_ (Fx.out.steps sk)
  clear st sk
  have cr0 := or.q0
  have cr1 := or.q1
  have cr2 := or.q2
  have cr3 := or.q3
  have fr := or.fr
  have lr := or.lt
  obtain ⟨y1, y2, y3, y4, rfl⟩ := hvy.shape
  have Fy := Hid.mk_ hvy
  clear hvy
  go_wp2_with fail
  refine bodyPost_ret (by simp [results, Tryz.results88, go_sem, cr0, cr1, cr2, cr3, fr, lr]; rfl) rfl ?_
  exact ⟨_, rfl, mk _ _ _ _ _ (Fx.out.keeps keepsB) (Fy.out.keeps keepsB), belowB⟩
set_option maxHeartbeats 6400000 in
set_option maxRecDepth 1000000 in
theorem rwhole (x : Int) (w : World) (x0 : -9223372036854775808 ≤ x) (x1 : x ≤ 9223372036854775807) :
    Calls Tryz.prog 47 #[.int .i64 x] w fun e w' => ∃ v, e = .returned v ∧ FR w' v (x : Rat) ∧ Steps w w' := by
  have CL := fun w' => rwhole02 x w' x0 x1
  clear x0 x1
  generalize (x : Rat) = q at *
  go_enter Tryz.func47, Tryz.ntmps47
  go_wp2_with fail
  refine (CL _).mono ?_
  rintro e w1 ⟨vq, rfl, hvq, hb1⟩
  have st : Steps _ w1 := hb1
  have B : Below w.heap.size w w1 := belowA st
  have nr : Blk w1 (w.heap.size) 28 #[.bool false, .slice none 0 0, .bool false, .slice none 0 0] := Blk.stepsK st
  have or := nr
  clear nr
  clear st
  have cr0 := or.q0
  have cr1 := or.q1
  have cr2 := or.q2
  have cr3 := or.q3
  have fr := or.fr
  have lr := or.lt
  obtain ⟨q1, q2, q3, q4, q5, q6, q7, q8, rfl⟩ := hvq.shape
  have Fq := Hid.mk_ hvq
  clear hvq
  go_wp2_with fail
  refine bodyPost_ret (by simp [results, Tryz.results47, go_sem, cr0, cr1, cr2, cr3, fr, lr]; rfl) rfl ?_
  exact ⟨_, rfl, Fq.out.keeps keepsB, belowB⟩
set_option maxHeartbeats 6400000 in
set_option maxRecDepth 1000000 in
theorem pradd {va vb : Value} {r s : Rat} {i j : Nat} (w : World) (ha : FR w va r) (hb : FR w vb s) (hr : sz r i) (hs : sz s j) (hk : i + j ≤ 4094) :
    Calls Tryz.prog 79 #[va, vb] w fun e w' => ∃ v, e = .returned v ∧ FR w' v (r + s) ∧ Steps w w' := by
  have CL : ∀ w', Steps w w' → Calls Tryz.prog 120 #[va, vb] w' fun e w2 => ∃ v, e = .returned (.tuple #[v, .int .i64 0]) ∧ FR w2 v (r + s) ∧ Steps w' w2 := fun w' st => rAddQ w' (ha.steps st) (hb.steps st) hr hs hk
  obtain ⟨a1, a2, a3, a4, a5, a6, a7, a8, rfl⟩ := ha.shape
  obtain ⟨b1, b2, b3, b4, b5, b6, b7, b8, rfl⟩ := hb.shape
  clear ha hb hr hs hk
  generalize r + s = t at *
  go_enter Tryz.func79, Tryz.ntmps79
  go_wp2_with fail
  refine (CL _ belowB).mono ?_
  rintro e w1 ⟨vq, rfl, hvq, hb1⟩
  have st : Steps _ w1 := hb1
  have B : Below w.heap.size w w1 := belowA st
  have na : Blk w1 (w.heap.size) 28 #[.bool a1, .slice a2 a3 a4, .bool a5, .slice a6 a7 a8] := Blk.stepsK st
  have nb : Blk w1 (w.heap.size + 1) 28 #[.bool b1, .slice b2 b3 b4, .bool b5, .slice b6 b7 b8] := Blk.stepsK st
  have nr : Blk w1 (w.heap.size + 1 + 1) 28 #[.bool false, .slice none 0 0, .bool false, .slice none 0 0] := Blk.stepsK st
  have oa := na
  clear na
  have ob := nb
  clear nb
  have or := nr
  clear nr
  clear st
  have la := oa.lt
  have lb := ob.lt
  have cr0 := or.q0
  have cr1 := or.q1
  have cr2 := or.q2
  have cr3 := or.q3
  have fr := or.fr
  have lr := or.lt
  obtain ⟨q1, q2, q3, q4, q5, q6, q7, q8, rfl⟩ := hvq.shape
  have Fq := Hid.mk_ hvq
  clear hvq
  have zr_1 : w.heap.size + 1 + 1 < w1.heap.size := or.lt
  have zz1 := B.size
  go_wp2_with fail
  refine bodyPost_ret (by simp [results, Tryz.results79, go_sem, la, lb, cr0, cr1, cr2, cr3, fr, lr]; rfl) rfl ?_
  exact ⟨_, rfl, Fq.out.keeps keepsB, belowB⟩
set_option maxHeartbeats 6400000 in
set_option maxRecDepth 1000000 in
theorem prsub {va vb : Value} {r s : Rat} {i j : Nat} (w : World) (ha : FR w va r) (hb : FR w vb s) (hr : sz r i) (hs : sz s j) (hk : i + j ≤ 4094) :
    Calls Tryz.prog 70 #[va, vb] w fun e w' => ∃ v, e = .returned v ∧ FR w' v (r - s) ∧ Steps w w' := by
  have CL : ∀ w', Steps w w' → Calls Tryz.prog 105 #[va, vb] w' fun e w2 => ∃ v, e = .returned (.tuple #[v, .int .i64 0]) ∧ FR w2 v (r - s) ∧ Steps w' w2 := fun w' st => rSubQ w' (ha.steps st) (hb.steps st) hr hs hk
  obtain ⟨a1, a2, a3, a4, a5, a6, a7, a8, rfl⟩ := ha.shape
  obtain ⟨b1, b2, b3, b4, b5, b6, b7, b8, rfl⟩ := hb.shape
  clear ha hb hr hs hk
  generalize r - s = t at *
  go_enter Tryz.func70, Tryz.ntmps70
  go_wp2_with fail
  refine (CL _ belowB).mono ?_
  rintro e w1 ⟨vq, rfl, hvq, hb1⟩
  have st : Steps _ w1 := hb1
  have B : Below w.heap.size w w1 := belowA st
  have na : Blk w1 (w.heap.size) 28 #[.bool a1, .slice a2 a3 a4, .bool a5, .slice a6 a7 a8] := Blk.stepsK st
  have nb : Blk w1 (w.heap.size + 1) 28 #[.bool b1, .slice b2 b3 b4, .bool b5, .slice b6 b7 b8] := Blk.stepsK st
  have nr : Blk w1 (w.heap.size + 1 + 1) 28 #[.bool false, .slice none 0 0, .bool false, .slice none 0 0] := Blk.stepsK st
  have oa := na
  clear na
  have ob := nb
  clear nb
  have or := nr
  clear nr
  clear st
  have la := oa.lt
  have lb := ob.lt
  have cr0 := or.q0
  have cr1 := or.q1
  have cr2 := or.q2
  have cr3 := or.q3
  have fr := or.fr
  have lr := or.lt
  obtain ⟨q1, q2, q3, q4, q5, q6, q7, q8, rfl⟩ := hvq.shape
  have Fq := Hid.mk_ hvq
  clear hvq
  have zr_1 : w.heap.size + 1 + 1 < w1.heap.size := or.lt
  have zz1 := B.size
  go_wp2_with fail
  refine bodyPost_ret (by simp [results, Tryz.results70, go_sem, la, lb, cr0, cr1, cr2, cr3, fr, lr]; rfl) rfl ?_
  exact ⟨_, rfl, Fq.out.keeps keepsB, belowB⟩
set_option maxHeartbeats 6400000 in
set_option maxRecDepth 1000000 in
theorem prmul {va vb : Value} {r s : Rat} {i j : Nat} (w : World) (ha : FR w va r) (hb : FR w vb s) (hr : sz r i) (hs : sz s j) (hk : i + j ≤ 4095) :
    Calls Tryz.prog 80 #[va, vb] w fun e w' => ∃ v, e = .returned v ∧ FR w' v (r * s) ∧ Steps w w' := by
  have CL : ∀ w', Steps w w' → Calls Tryz.prog 121 #[va, vb] w' fun e w2 => ∃ v, e = .returned (.tuple #[v, .int .i64 0]) ∧ FR w2 v (r * s) ∧ Steps w' w2 := fun w' st => rMulQ w' (ha.steps st) (hb.steps st) hr hs hk
  obtain ⟨a1, a2, a3, a4, a5, a6, a7, a8, rfl⟩ := ha.shape
  obtain ⟨b1, b2, b3, b4, b5, b6, b7, b8, rfl⟩ := hb.shape
  clear ha hb hr hs hk
  generalize r * s = t at *
  go_enter Tryz.func80, Tryz.ntmps80
  go_wp2_with fail
  refine (CL _ belowB).mono ?_
  rintro e w1 ⟨vq, rfl, hvq, hb1⟩
  have st : Steps _ w1 := hb1
  have B : Below w.heap.size w w1 := belowA st
  have na : Blk w1 (w.heap.size) 28 #[.bool a1, .slice a2 a3 a4, .bool a5, .slice a6 a7 a8] := Blk.stepsK st
  have nb : Blk w1 (w.heap.size + 1) 28 #[.bool b1, .slice b2 b3 b4, .bool b5, .slice b6 b7 b8] := Blk.stepsK st
  have nr : Blk w1 (w.heap.size + 1 + 1) 28 #[.bool false, .slice none 0 0, .bool false, .slice none 0 0] := Blk.stepsK st
  have oa := na
  clear na
  have ob := nb
  clear nb
  have or := nr
  clear nr
  clear st
  have la := oa.lt
  have lb := ob.lt
  have cr0 := or.q0
  have cr1 := or.q1
  have cr2 := or.q2
  have cr3 := or.q3
  have fr := or.fr
  have lr := or.lt
  obtain ⟨q1, q2, q3, q4, q5, q6, q7, q8, rfl⟩ := hvq.shape
  have Fq := Hid.mk_ hvq
  clear hvq
  have zr_1 : w.heap.size + 1 + 1 < w1.heap.size := or.lt
  have zz1 := B.size
  go_wp2_with fail
  refine bodyPost_ret (by simp [results, Tryz.results80, go_sem, la, lb, cr0, cr1, cr2, cr3, fr, lr]; rfl) rfl ?_
  exact ⟨_, rfl, Fq.out.keeps keepsB, belowB⟩
set_option maxHeartbeats 6400000 in
set_option maxRecDepth 1000000 in
theorem psmall {a1 a5 : Bool} {a2 a6 : Option Addr} {p q a4 a8 : Nat} {o : Option Rat} (w : World) (hf : FB w (.agg #[.bool a1, .slice a2 p a4, .bool a5, .slice a6 q a8]) o) :
    Calls Tryz.prog 68 #[.agg #[.bool a1, .slice a2 p a4, .bool a5, .slice a6 q a8]] w fun e w' => e = .returned (.bool (limF 16 o p q)) ∧ Steps w w' := by
  have ck : ∀ w', Keeps w w' → Calls Tryz.prog 86 #[.agg #[.bool a1, .slice a2 p a4, .bool a5, .slice a6 q a8]] w' fun e w2 => e = .returned (.int .i64 (okC o.isSome)) ∧ Steps w' w2 := fun w' k => rfcheck_fb w' (hf.keeps k)
  unfold limF
  obtain ⟨s, hs⟩ : ∃ s, o.isSome = s := ⟨_, rfl⟩
  rw [hs] at ck ⊢
  clear hf hs
  by_cases h1 : p ≤ 16
  · by_cases h2 : q ≤ 16
    · rw [decide_eq_true h1, decide_eq_true h2]
      have g1 : (p : Int) ≤ 16 := by omega
      have g2 : (q : Int) ≤ 16 := by omega
      clear h1 h2
      go_enter Tryz.func68, Tryz.ntmps68
      go_wp2_with fail
      refine (ck _ keepsB).mono ?_
      rintro e w1 ⟨rfl, hs1⟩
      have B1 : Below w.heap.size w w1 := belowA hs1
      clear ck hs1
      cases s with
      | false =>
        have e8 : (okC false == 0) = false := rfl
        rw [show okC false = 8 from rfl]
        go_wp2
        go_returns
        exact ⟨rfl, B1⟩
      | true =>
        rw [show okC true = 0 from rfl]
        go_wp2
        go_returns
        exact ⟨rfl, B1⟩
    · rw [decide_eq_true h1, decide_eq_false h2]
      have g1 : (p : Int) ≤ 16 := by omega
      have g2 : ¬ (q : Int) ≤ 16 := by omega
      clear h1 h2 ck
      go_enter Tryz.func68, Tryz.ntmps68
      go_wp2
      go_returns
      exact ⟨rfl, belowB⟩
  · rw [decide_eq_false h1]
    have g1 : ¬ (p : Int) ≤ 16 := by omega
    clear h1 ck
    go_enter Tryz.func68, Tryz.ntmps68
    go_wp2
    go_returns
    exact ⟨rfl, belowB⟩
instance (p : Int × Int) : Decidable (okP p) := by unfold okP; infer_instance
theorem chk_one (p : Int × Int) : chkP [p] = if okP p then 0 else 8 := by unfold chkP; simp
theorem pts_one {w : World} {g : Nat} {t : TypeId} {x y : Int} (h : Blk w g t #[.int .i64 x, .int .i64 y]) (hx : -9223372036854775808 ≤ x ∧ x ≤ 9223372036854775807) (hy : -9223372036854775808 ≤ y ∧ y ≤ 9223372036854775807) : Pts w (.slice (some ⟨g, 0, none⟩) 1 1) [(x, y)] := by
  refine ⟨fun k => ?_, some ⟨g, 0, none⟩, 1, rfl, Nat.le_refl _, fun _ => ⟨g, 0, rfl, h.lt, fun t ht => ?_⟩⟩
  · match k with
    | 0 => exact ⟨hx.1, hx.2, hy.1, hy.2⟩
    | k + 1 => rw [show ([(x, y)] : List (Int × Int)).getD (k + 1) (0, 0) = (0, 0) by simp [List.getD]]; decide
  · have : t = 0 := by simp at ht; omega
    subst this
    exact ⟨h.c 0 rfl, h.c 1 rfl⟩
set_option maxHeartbeats 6400000 in
set_option maxRecDepth 1000000 in
theorem rone (x y : Int) (w : World) (hx : -9223372036854775808 ≤ x ∧ x ≤ 9223372036854775807) (hy : -9223372036854775808 ≤ y ∧ y ≤ 9223372036854775807) :
    Calls Tryz.prog 39 #[.agg #[.int .i64 x, .int .i64 y]] w fun e w' => e = .returned (.bool (decide (okP (x, y)))) ∧ Steps w w' := by
  have ck : ∀ w' g t, Blk w' g t #[.int .i64 x, .int .i64 y] → Calls Tryz.prog 62 #[.slice (some ⟨g, 0, none⟩) 1 1] w' fun e w2 => e = .returned (.int .i64 (if okP (x, y) then 0 else 8)) ∧ Steps w' w2 := fun w' g t hb => by
    have := rcheckP w' (pts_one hb hx hy) (by simp)
    rw [chk_one] at this
    exact this
  clear hx hy
  by_cases h : okP (x, y)
  · simp only [if_pos h, decide_eq_true h] at *
    clear h
    go_enter Tryz.func39, Tryz.ntmps39
    go_wp2_with fail
    refine (ck _ (w.heap.size + 1) 23 ownK).mono ?_
    rintro e w1 ⟨rfl, hs1⟩
    have B1 : Below w.heap.size w w1 := belowA hs1
    clear ck hs1
    go_wp2
    go_returns
    exact ⟨rfl, B1⟩
  · simp only [if_neg h, decide_eq_false h] at *
    clear h
    go_enter Tryz.func39, Tryz.ntmps39
    go_wp2_with fail
    refine (ck _ (w.heap.size + 1) 23 ownK).mono ?_
    rintro e w1 ⟨rfl, hs1⟩
    have B1 : Below w.heap.size w w1 := belowA hs1
    clear ck hs1
    go_wp2
    go_returns
    exact ⟨rfl, B1⟩
end Go.Proofs.YtffmbepfbienaaaGreat
namespace Go.Proofs.YtffmbepfbienaaaGreat
open Go.RowKit
theorem sz_coord {x : Int} (h : -1048576 ≤ x ∧ x ≤ 1048576) : sz (x : Rat) 2 := sz_int (by rw [bp_two]; unfold absN; omega)
def SimR (w : World) (v : Value) (t : Nat → Rat) : Prop := ∃ ka1 ka2 ka3 ka4 ka5 ka6 ka7 ka8 kb1 kb2 kb3 kb4 kb5 kb6 kb7 kb8 kc1 kc2 kc3 kc4 kc5 kc6 kc7 kc8 kd1 kd2 kd3 kd4 kd5 kd6 kd7 kd8, v = .agg #[.bool ka1, .slice ka2 ka3 ka4, .bool ka5, .slice ka6 ka7 ka8, .bool kb1, .slice kb2 kb3 kb4, .bool kb5, .slice kb6 kb7 kb8, .bool kc1, .slice kc2 kc3 kc4, .bool kc5, .slice kc6 kc7 kc8, .bool kd1, .slice kd2 kd3 kd4, .bool kd5, .slice kd6 kd7 kd8] ∧ FR w (.agg #[.bool ka1, .slice ka2 ka3 ka4, .bool ka5, .slice ka6 ka7 ka8]) (t 0) ∧ FR w (.agg #[.bool kb1, .slice kb2 kb3 kb4, .bool kb5, .slice kb6 kb7 kb8]) (t 1) ∧ FR w (.agg #[.bool kc1, .slice kc2 kc3 kc4, .bool kc5, .slice kc6 kc7 kc8]) (t 2) ∧ FR w (.agg #[.bool kd1, .slice kd2 kd3 kd4, .bool kd5, .slice kd6 kd7 kd8]) (t 3)
theorem SimR.keeps {w w' : World} {v : Value} {t : Nat → Rat} (h : SimR w v t) (k : Keeps w w') : SimR w' v t := by
  obtain ⟨ka1, ka2, ka3, ka4, ka5, ka6, ka7, ka8, kb1, kb2, kb3, kb4, kb5, kb6, kb7, kb8, kc1, kc2, kc3, kc4, kc5, kc6, kc7, kc8, kd1, kd2, kd3, kd4, kd5, kd6, kd7, kd8, rfl, h0, h1, h2, h3⟩ := h
  exact ⟨_, _, _, _, _, _, _, _, _, _, _, _, _, _, _, _, _, _, _, _, _, _, _, _, _, _, _, _, _, _, _, _, rfl, h0.keeps k, h1.keeps k, h2.keeps k, h3.keeps k⟩
set_option maxHeartbeats 6400000 in
set_option maxRecDepth 1000000 in
theorem mapply {ka1 ka5 kb1 kb5 kc1 kc5 kd1 kd5 : Bool} {ka2 ka6 kb2 kb6 kc2 kc6 kd2 kd6 : Option Addr} {ka3 ka4 ka7 ka8 kb3 kb4 kb7 kb8 kc3 kc4 kc7 kc8 kd3 kd4 kd7 kd8 : Nat} {t : Nat → Rat} {gc : Nat} {tc : TypeId} (px py : Int) (w : World) (hc : Blk w gc tc #[.int .i64 0]) (h0 : FR w (.agg #[.bool ka1, .slice ka2 ka3 ka4, .bool ka5, .slice ka6 ka7 ka8]) (t 0)) (h1 : FR w (.agg #[.bool kb1, .slice kb2 kb3 kb4, .bool kb5, .slice kb6 kb7 kb8]) (t 1)) (h2 : FR w (.agg #[.bool kc1, .slice kc2 kc3 kc4, .bool kc5, .slice kc6 kc7 kc8]) (t 2)) (h3 : FR w (.agg #[.bool kd1, .slice kd2 kd3 kd4, .bool kd5, .slice kd6 kd7 kd8]) (t 3)) (s0 : sz (t 0) 64) (s1 : sz (t 1) 64) (s2 : sz (t 2) 64) (s3 : sz (t 3) 64) (hp : -1048576 ≤ px ∧ px ≤ 1048576) (hq : -1048576 ≤ py ∧ py ≤ 1048576) :
    Calls Tryz.prog 42 #[.pointer (some ⟨gc, 0, none⟩), .agg #[.bool ka1, .slice ka2 ka3 ka4, .bool ka5, .slice ka6 ka7 ka8, .bool kb1, .slice kb2 kb3 kb4, .bool kb5, .slice kb6 kb7 kb8, .bool kc1, .slice kc2 kc3 kc4, .bool kc5, .slice kc6 kc7 kc8, .bool kd1, .slice kd2 kd3 kd4, .bool kd5, .slice kd6 kd7 kd8], .agg #[.int .i64 px, .int .i64 py]] w fun e w' => ∃ u v, e = .returned (.tuple #[u, v]) ∧ FR w' u (apX t (px, py)) ∧ FR w' v (apY t (px, py)) ∧ Steps w w' := by
  have KC : ∀ w', Below w.heap.size w w' → Blk w' gc tc #[.int .i64 0] := fun w' s => hc.steps s
  have sx : sz (px : Rat) 2 := sz_coord hp
  have sy : sz (py : Rat) 2 := sz_coord hq
  have ofx : ∀ w', Below w.heap.size w w' → Calls Tryz.prog 66 #[.pointer (some ⟨gc, 0, none⟩), .int .i64 px] w' fun e w2 => ∃ v, e = .returned v ∧ FR w2 v (px : Rat) ∧ Steps w' w2 := fun w' s => mof px w' (KC w' s) (by omega) (by omega)
  have ofy : ∀ w', Below w.heap.size w w' → Calls Tryz.prog 66 #[.pointer (some ⟨gc, 0, none⟩), .int .i64 py] w' fun e w2 => ∃ v, e = .returned v ∧ FR w2 v (py : Rat) ∧ Steps w' w2 := fun w' s => mof py w' (KC w' s) (by omega) (by omega)
  have e1 : apX t (px, py) = t 0 * (px : Rat) - t 1 * (py : Rat) + t 2 := rfl
  have e2 : apY t (px, py) = t 1 * (px : Rat) + t 0 * (py : Rat) + t 3 := rfl
  rw [e1, e2]
  clear e1 e2 hp hq
  generalize (px : Rat) = x at *
  generalize (py : Rat) = y at *
  have F0 := Hid.mk_ h0
  have F1 := Hid.mk_ h1
  have F2 := Hid.mk_ h2
  have F3 := Hid.mk_ h3
  clear h0 h1 h2 h3 hc
  generalize t 0 = p at *
  generalize t 1 = q at *
  generalize t 2 = r at *
  generalize t 3 = s at *
  go_enter Tryz.func42, Tryz.ntmps42
  go_upto_region 1 with fail
  refine Reg.wp_chain_n (fun N0 D v W => Below w.heap.size w W ∧ Keeps w W ∧ N0 ≤ W.heap.size ∧ Blk W (w.heap.size) 30 #[.bool ka1, .slice ka2 ka3 ka4, .bool ka5, .slice ka6 ka7 ka8, .bool kb1, .slice kb2 kb3 kb4, .bool kb5, .slice kb6 kb7 kb8, .bool kc1, .slice kc2 kc3 kc4, .bool kc5, .slice kc6 kc7 kc8, .bool kd1, .slice kd2 kd3 kd4, .bool kd5, .slice kd6 kd7 kd8] ∧ Blk W (w.heap.size + 1) 23 #[.int .i64 px, .int .i64 py] ∧ Blk W (w.heap.size + 1 + 1) 28 #[.bool false, .slice none 0 0, .bool false, .slice none 0 0] ∧ Blk W (w.heap.size + 1 + 1 + 1) 28 #[.bool false, .slice none 0 0, .bool false, .slice none 0 0] ∧ (D 8 = true → ∃ g : Nat, v 8 = .pointer (some ⟨g, 0, none⟩) ∧ N0 ≤ g ∧ g < W.heap.size ∧ (D 10 = false → Blk W g 28 #[.bool false, .slice none 0 0, .bool false, .slice none 0 0]) ∧ (D 10 = true → D 3 = true ∧ ∃ cs, v 3 = .agg cs ∧ Blk W g 28 cs)) ∧ (D 9 = true → ∃ g : Nat, v 9 = .pointer (some ⟨g, 0, none⟩) ∧ N0 ≤ g ∧ g < W.heap.size ∧ (D 11 = false → Blk W g 28 #[.bool false, .slice none 0 0, .bool false, .slice none 0 0]) ∧ (D 11 = true → D 7 = true ∧ ∃ cs, v 7 = .agg cs ∧ Blk W g 28 cs)) ∧ (D 8 = true → D 9 = true → v 8 ≠ v 9))
    (Reg.inl [3, 7, 8, 9, 10, 11]) (Reg.gv [(3, IsFr), (7, IsFr), (8, IsPtr), (9, IsPtr)]) (gw [(3, GFr (x)), (7, GFr (y))]) (fun _ => Keeps) (fun _ _ => False) (Reg.pl [(10, [(3, some 13), (8, some 8)]), (11, [(7, some 17), (9, some 9)]), (12, [(3, some 13), (7, some 17), (8, some 8), (9, some 9)])]) (Reg.pl [(8, [10]), (3, [10]), (9, [11]), (7, [11])])
    (by kernel_rfl) (by kernel_rfl) (by kernel_rfl) (Reg.gv_some _ (by intro p hp; simp only [List.mem_cons, List.not_mem_nil, or_false] at hp; rcases hp with rfl | rfl | rfl | rfl <;> first | exact ⟨_, rfl⟩ | exact ⟨_, 0, rfl⟩ | exact ⟨_, none, 0, 0, rfl⟩ | exact ⟨_, false, none, 0, 0, rfl⟩ | exact ⟨_, false, none, 0, 0, false, none, 0, 0, rfl⟩)) (fun N0 hN0 => ⟨fun v => ?_, fun D v v' W hv hj => ?_, fun D v k j W W' x _ _ _ _ hk hg => gw_keeps _ (by intro p hp; simp only [List.mem_cons, List.not_mem_nil, or_false] at hp; rcases hp with rfl | rfl <;> first | exact GFr.keeps | exact GFrE.keeps | exact GNu.keeps | exact GNuE.keeps | exact GLi.keeps) hk hg, fun _ _ _ _ h => h.elim, fun ops' Q' hops hQ => ?_⟩)
  · exact ⟨belowB, keepsB, by first | with_reducible exact Nat.le_of_eq hN0.out | (simp only [World.size_drew]; with_reducible exact Nat.le_of_eq hN0.out), ownK, ownK, ownK, ownK, (fun h => Bool.noConfusion h), (fun h => Bool.noConfusion h), (fun h => Bool.noConfusion h)⟩
  · obtain ⟨j0, jk, jn, b_t, b_i, b_r, b_q, a_8, a_9, q_8_9⟩ := hj
    exact ⟨j0, jk, jn, b_t, b_i, b_r, b_q, fun h => by obtain ⟨g, e1, e2, e3, e4, e5⟩ := a_8 h; exact ⟨g, (hv 8 h) ▸ e1, e2, e3, e4, fun h => by obtain ⟨d, cs, e, hb⟩ := e5 h; exact ⟨d, cs, (hv 3 d) ▸ e, hb⟩⟩, fun h => by obtain ⟨g, e1, e2, e3, e4, e5⟩ := a_9 h; exact ⟨g, (hv 9 h) ▸ e1, e2, e3, e4, fun h => by obtain ⟨d, cs, e, hb⟩ := e5 h; exact ⟨d, cs, (hv 7 d) ▸ e, hb⟩⟩, fun h h' => (hv 8 h) ▸ (hv 9 h') ▸ q_8_9 h h'⟩
  have i_t : w.heap.size < N0 := by have e := hN0.out; (try simp only [World.size_alloc, World.size_setCell, World.size_drew, World.heap_drewN] at e); first | omega | (have h := ot.lt; omega)
  have i_i : w.heap.size + 1 < N0 := by have e := hN0.out; (try simp only [World.size_alloc, World.size_setCell, World.size_drew, World.heap_drewN] at e); first | omega | (have h := oi.lt; omega)
  have i_r : w.heap.size + 1 + 1 < N0 := by have e := hN0.out; (try simp only [World.size_alloc, World.size_setCell, World.size_drew, World.heap_drewN] at e); first | omega | (have h := or.lt; omega)
  have i_q : w.heap.size + 1 + 1 + 1 < N0 := by have e := hN0.out; (try simp only [World.size_alloc, World.size_setCell, World.size_drew, World.heap_drewN] at e); first | omega | (have h := oq.lt; omega)
  have iw : w.heap.size ≤ N0 := by have e := hN0.out; (try simp only [World.size_alloc, World.size_setCell, World.size_drew, World.heap_drewN] at e); first | omega | (have h := B.size; omega)
  clear hN0
  apply Reg.RC_pure (hc := rfl) (hst := rfl) (hw := rfl) (t := 10) (hd := rfl) (ht := Nat.le_of_ble_eq_true rfl)
  · intro D v' W' hc hj hf K hK
    go_step
    exact hK.out
  · rfl
  apply Reg.RC_pure (hc := rfl) (hst := rfl) (hw := rfl) (t := 11) (hd := rfl) (ht := Nat.le_of_ble_eq_true rfl)
  · intro D v' W' hc hj hf K hK
    go_step
    exact hK.out
  · rfl
  apply Reg.RC_pure (hc := rfl) (hst := rfl) (hw := rfl) (t := 12) (hd := rfl) (ht := Nat.le_of_ble_eq_true rfl)
  · intro D v' W' hc hj hf K hK
    obtain ⟨j0, jk, jn, b_t, b_i, b_r, b_q, a_8, a_9, q_8_9⟩ := hj
    have c0 : W'.cell? ⟨w.heap.size + 1, 0, none⟩ = some (.int .i64 px) := b_i.c 0 rfl
    go_step
    exact hK.out
  · rfl
  refine Reg.RC_call rfl (by intro t ht; cases ht; exact Nat.le_of_ble_eq_true rfl) rfl (fun D v' W' hc hj hf K hK => ?_) ?_
  · obtain ⟨j0, jk, jn, b_t, b_i, b_r, b_q, a_8, a_9, q_8_9⟩ := hj
    clear hf
    go_step
    refine (ofx W' j0).mono ?_
    rintro e W2 ⟨u, rfl, hu, hs⟩
    obtain ⟨xa1, xa2, xa3, xa4, xa5, xa6, xa7, xa8, rfl⟩ := hu.shape
    exact hK.out _ W2 (Keeps.steps hs) ⟨below_steps j0 (Nat.le_refl _) hs, jk.then_ hs, Nat.le_trans jn hs.size, b_t.steps hs, b_i.steps hs, b_r.steps hs, b_q.steps hs, fun h => by obtain ⟨g, e1, e2, e3, e4, e5⟩ := a_8 h; exact ⟨g, e1, e2, Nat.lt_of_lt_of_le e3 (hs).size, fun h => (e4 h).steps hs, fun h => Bool.noConfusion ((hc.2 10 (by decide)).symm.trans h)⟩, fun h => by obtain ⟨g, e1, e2, e3, e4, e5⟩ := a_9 h; exact ⟨g, e1, e2, Nat.lt_of_lt_of_le e3 (hs).size, fun h => (e4 h).steps hs, fun h => by obtain ⟨d, cs, e, hb⟩ := e5 h; exact ⟨d, cs, e, hb.steps hs⟩⟩, q_8_9⟩ hu ⟨_, _, _, _, _, _, _, _, rfl⟩
  rintro _ ⟨xa1, xa2, xa3, xa4, xa5, xa6, xa7, xa8, rfl⟩
  refine Reg.RC_at (b := ⟨#[_,_,_,_,_,_,_,_,_,_,_,_,_,_,_,_,_,_,_,_,_,_,_,_,_,_,_,_,_,_,_,_,_,_,_,_,_,_,_,_,_,_,_,_,_,_,_,_,_,_,_,_], _⟩) rfl ?_
  apply Reg.RC_pure (hc := rfl) (hst := rfl) (hw := rfl) (t := 14) (hd := rfl) (ht := Nat.le_of_ble_eq_true rfl)
  · intro D v' W' hc hj hf K hK
    go_step
    exact hK.out
  · rfl
  apply Reg.RC_pure (hc := rfl) (hst := rfl) (hw := rfl) (t := 15) (hd := rfl) (ht := Nat.le_of_ble_eq_true rfl)
  · intro D v' W' hc hj hf K hK
    go_step
    exact hK.out
  · rfl
  apply Reg.RC_pure (hc := rfl) (hst := rfl) (hw := rfl) (t := 16) (hd := rfl) (ht := Nat.le_of_ble_eq_true rfl)
  · intro D v' W' hc hj hf K hK
    obtain ⟨j0, jk, jn, b_t, b_i, b_r, b_q, a_8, a_9, q_8_9⟩ := hj
    have c1 : W'.cell? ⟨w.heap.size + 1, 1, none⟩ = some (.int .i64 py) := b_i.c 1 rfl
    go_step
    exact hK.out
  · rfl
  refine Reg.RC_call rfl (by intro t ht; cases ht; exact Nat.le_of_ble_eq_true rfl) rfl (fun D v' W' hc hj hf K hK => ?_) ?_
  · obtain ⟨j0, jk, jn, b_t, b_i, b_r, b_q, a_8, a_9, q_8_9⟩ := hj
    clear hf
    go_step
    refine (ofy W' j0).mono ?_
    rintro e W2 ⟨u, rfl, hu, hs⟩
    obtain ⟨xb1, xb2, xb3, xb4, xb5, xb6, xb7, xb8, rfl⟩ := hu.shape
    exact hK.out _ W2 (Keeps.steps hs) ⟨below_steps j0 (Nat.le_refl _) hs, jk.then_ hs, Nat.le_trans jn hs.size, b_t.steps hs, b_i.steps hs, b_r.steps hs, b_q.steps hs, fun h => by obtain ⟨g, e1, e2, e3, e4, e5⟩ := a_8 h; exact ⟨g, e1, e2, Nat.lt_of_lt_of_le e3 (hs).size, fun h => (e4 h).steps hs, fun h => by obtain ⟨d, cs, e, hb⟩ := e5 h; exact ⟨d, cs, e, hb.steps hs⟩⟩, fun h => by obtain ⟨g, e1, e2, e3, e4, e5⟩ := a_9 h; exact ⟨g, e1, e2, Nat.lt_of_lt_of_le e3 (hs).size, fun h => (e4 h).steps hs, fun h => Bool.noConfusion ((hc.2 11 (by decide)).symm.trans h)⟩, q_8_9⟩ hu ⟨_, _, _, _, _, _, _, _, rfl⟩
  rintro _ ⟨xb1, xb2, xb3, xb4, xb5, xb6, xb7, xb8, rfl⟩
  refine Reg.RC_at (b := ⟨#[_,_,_,_,_,_,_,_,_,_,_,_,_,_,_,_,_,_,_,_,_,_,_,_,_,_,_,_,_,_,_,_,_,_,_,_,_,_,_,_,_,_,_,_,_,_,_,_,_,_,_,_], _⟩) rfl ?_
  refine Reg.RC_call rfl (by intro t ht; cases ht; exact Nat.le_of_ble_eq_true rfl) rfl (fun D v' W' hc hj hf K hK => ?_) ?_
  · obtain ⟨j0, jk, jn, b_t, b_i, b_r, b_q, a_8, a_9, q_8_9⟩ := hj
    go_step
    have hs : ∀ o : Obj, Steps W' (W'.alloc o) := fun o => (Below.refl _ _).alloc (Nat.le_refl _) o
    exact hK.out _ _ (Keeps.steps (hs _)) ⟨below_steps j0 (Nat.le_refl _) (hs _), jk.then_ (hs _), Nat.le_trans jn (hs _).size, b_t.steps (hs _), b_i.steps (hs _), b_r.steps (hs _), b_q.steps (hs _), fun _ => ⟨W'.heap.size, rfl, jn, by rw [World.size_alloc]; omega, fun _ => Blk.new _ _ _, fun h => Bool.noConfusion ((hc.2 10 (by decide)).symm.trans h)⟩, fun h => by obtain ⟨g, e1, e2, e3, e4, e5⟩ := a_9 h; exact ⟨g, e1, e2, Nat.lt_of_lt_of_le e3 ((hs _)).size, fun h => (e4 h).steps (hs _), fun h => by obtain ⟨d, cs, e, hb⟩ := e5 h; exact ⟨d, cs, e, hb.steps (hs _)⟩⟩, fun _ h' => by obtain ⟨g, e1, e2, e3, e4, e5⟩ := a_9 h'; exact fun e => Reg.ptr_ne e3 (e.trans e1)⟩ trivial ⟨_, rfl⟩
  rintro _ ⟨p8, rfl⟩
  refine Reg.RC_at (b := ⟨#[_,_,_,_,_,_,_,_,_,_,_,_,_,_,_,_,_,_,_,_,_,_,_,_,_,_,_,_,_,_,_,_,_,_,_,_,_,_,_,_,_,_,_,_,_,_,_,_,_,_,_,_], _⟩) rfl ?_
  refine Reg.RC_call rfl (by intro t ht; cases ht; exact Nat.le_of_ble_eq_true rfl) rfl (fun D v' W' hc hj hf K hK => ?_) ?_
  · obtain ⟨j0, jk, jn, b_t, b_i, b_r, b_q, a_8, a_9, q_8_9⟩ := hj
    go_step
    have hs : ∀ o : Obj, Steps W' (W'.alloc o) := fun o => (Below.refl _ _).alloc (Nat.le_refl _) o
    exact hK.out _ _ (Keeps.steps (hs _)) ⟨below_steps j0 (Nat.le_refl _) (hs _), jk.then_ (hs _), Nat.le_trans jn (hs _).size, b_t.steps (hs _), b_i.steps (hs _), b_r.steps (hs _), b_q.steps (hs _), fun h => by obtain ⟨g, e1, e2, e3, e4, e5⟩ := a_8 h; exact ⟨g, e1, e2, Nat.lt_of_lt_of_le e3 ((hs _)).size, fun h => (e4 h).steps (hs _), fun h => by obtain ⟨d, cs, e, hb⟩ := e5 h; exact ⟨d, cs, e, hb.steps (hs _)⟩⟩, fun _ => ⟨W'.heap.size, rfl, jn, by rw [World.size_alloc]; omega, fun _ => Blk.new _ _ _, fun h => Bool.noConfusion ((hc.2 11 (by decide)).symm.trans h)⟩, fun h _ => by obtain ⟨g, e1, e2, e3, e4, e5⟩ := a_8 h; exact fun e => Reg.ptr_ne e3 (e.symm.trans e1)⟩ trivial ⟨_, rfl⟩
  rintro _ ⟨p9, rfl⟩
  refine Reg.RC_at (b := ⟨#[_,_,_,_,_,_,_,_,_,_,_,_,_,_,_,_,_,_,_,_,_,_,_,_,_,_,_,_,_,_,_,_,_,_,_,_,_,_,_,_,_,_,_,_,_,_,_,_,_,_,_,_], _⟩) rfl ?_
  refine Reg.RC_call rfl (by intro t ht; cases ht) rfl (fun D v' W' hc hj hf K hK => ?_) (fun _ _ => Reg.RC_at (b := ⟨_, _⟩) rfl ?_)
  · obtain ⟨j0, jk, jn, b_t, b_i, b_r, b_q, a_8, a_9, q_8_9⟩ := hj
    have f := hf (8, some 8) (.tail _ (.head _)) rfl
    have e6 : v' 8 = .pointer (some ⟨p8, 0, none⟩) := f.2.1
    obtain ⟨g, e1, e2, e3, e4, e5⟩ := a_8 f.1
    obtain rfl : p8 = g := Reg.ptr_eq (e6.symm.trans e1)
    have hb := e4 hc.1
    clear e4 e5
    have fc := hf (3, some 13) (.head _) rfl
    have ec : v' 3 = .agg #[.bool xa1, .slice xa2 xa3 xa4, .bool xa5, .slice xa6 xa7 xa8] := fc.2.1
    have ff := hb.fr
    have cc0 : W'.cell? ⟨p8, 0, none⟩ = some (.bool false) := hb.c 0 rfl
    have cc1 : W'.cell? ⟨p8, 1, none⟩ = some (.slice none 0 0) := hb.c 1 rfl
    have cc2 : W'.cell? ⟨p8, 2, none⟩ = some (.bool false) := hb.c 2 rfl
    have cc3 : W'.cell? ⟨p8, 3, none⟩ = some (.slice none 0 0) := hb.c 3 rfl
    go_step
    exact hK.out undef _ (keeps4 hb rfl) ⟨(below4 j0 (by show w.heap.size ≤ p8; omega)), jk.trans (keeps4 hb rfl), by simpa using jn, (b_t).far4 (show w.heap.size ≠ p8 by omega), (b_i).far4 (show w.heap.size + 1 ≠ p8 by omega), (b_r).far4 (show w.heap.size + 1 + 1 ≠ p8 by omega), (b_q).far4 (show w.heap.size + 1 + 1 + 1 ≠ p8 by omega), fun _ => ⟨p8, e1, e2, by simpa using e3, fun h => Bool.noConfusion h, fun _ => ⟨fc.1, _, ec, (Blk.set2 (cs' := #[.bool xa1, .slice xa2 xa3 xa4, .bool xa5, .slice xa6 xa7 xa8]) (Blk.set2 (cs' := #[.bool xa1, .slice xa2 xa3 xa4, .bool xa5, .slice none 0 0]) (Blk.set2 (cs' := #[.bool xa1, .slice xa2 xa3 xa4, .bool false, .slice none 0 0]) (Blk.set2 (cs' := #[.bool xa1, .slice none 0 0, .bool false, .slice none 0 0]) hb (i := 0) rfl) (i := 1) rfl) (i := 2) rfl) (i := 3) rfl)⟩⟩, fun h => by obtain ⟨g, k1, k2, k3, k4, k5⟩ := a_9 h; have hne : g ≠ p8 := fun e => (q_8_9 f.1 h) (by rw [e6, k1, e]); exact ⟨g, k1, k2, by simpa using k3, fun h => (k4 h).far4 hne, fun h => by obtain ⟨d, cs, e, hb2⟩ := k5 h; exact ⟨d, cs, e, (hb2).far4 hne⟩⟩, q_8_9⟩ trivial trivial
  refine Reg.RC_call rfl (by intro t ht; cases ht) rfl (fun D v' W' hc hj hf K hK => ?_) (fun _ _ => Reg.RC_at (b := ⟨_, _⟩) rfl ?_)
  · obtain ⟨j0, jk, jn, b_t, b_i, b_r, b_q, a_8, a_9, q_8_9⟩ := hj
    have f := hf (9, some 9) (.tail _ (.head _)) rfl
    have e6 : v' 9 = .pointer (some ⟨p9, 0, none⟩) := f.2.1
    obtain ⟨g, e1, e2, e3, e4, e5⟩ := a_9 f.1
    obtain rfl : p9 = g := Reg.ptr_eq (e6.symm.trans e1)
    have hb := e4 hc.1
    clear e4 e5
    have fc := hf (7, some 17) (.head _) rfl
    have ec : v' 7 = .agg #[.bool xb1, .slice xb2 xb3 xb4, .bool xb5, .slice xb6 xb7 xb8] := fc.2.1
    have ff := hb.fr
    have cc0 : W'.cell? ⟨p9, 0, none⟩ = some (.bool false) := hb.c 0 rfl
    have cc1 : W'.cell? ⟨p9, 1, none⟩ = some (.slice none 0 0) := hb.c 1 rfl
    have cc2 : W'.cell? ⟨p9, 2, none⟩ = some (.bool false) := hb.c 2 rfl
    have cc3 : W'.cell? ⟨p9, 3, none⟩ = some (.slice none 0 0) := hb.c 3 rfl
    go_step
    exact hK.out undef _ (keeps4 hb rfl) ⟨(below4 j0 (by show w.heap.size ≤ p9; omega)), jk.trans (keeps4 hb rfl), by simpa using jn, (b_t).far4 (show w.heap.size ≠ p9 by omega), (b_i).far4 (show w.heap.size + 1 ≠ p9 by omega), (b_r).far4 (show w.heap.size + 1 + 1 ≠ p9 by omega), (b_q).far4 (show w.heap.size + 1 + 1 + 1 ≠ p9 by omega), fun h => by obtain ⟨g, k1, k2, k3, k4, k5⟩ := a_8 h; have hne : g ≠ p9 := fun e => (q_8_9 h f.1) (by rw [e6, k1, e]); exact ⟨g, k1, k2, by simpa using k3, fun h => (k4 h).far4 hne, fun h => by obtain ⟨d, cs, e, hb2⟩ := k5 h; exact ⟨d, cs, e, (hb2).far4 hne⟩⟩, fun _ => ⟨p9, e1, e2, by simpa using e3, fun h => Bool.noConfusion h, fun _ => ⟨fc.1, _, ec, (Blk.set2 (cs' := #[.bool xb1, .slice xb2 xb3 xb4, .bool xb5, .slice xb6 xb7 xb8]) (Blk.set2 (cs' := #[.bool xb1, .slice xb2 xb3 xb4, .bool xb5, .slice none 0 0]) (Blk.set2 (cs' := #[.bool xb1, .slice xb2 xb3 xb4, .bool false, .slice none 0 0]) (Blk.set2 (cs' := #[.bool xb1, .slice none 0 0, .bool false, .slice none 0 0]) hb (i := 0) rfl) (i := 1) rfl) (i := 2) rfl) (i := 3) rfl)⟩⟩, q_8_9⟩ trivial trivial
  refine Reg.RC_end (fun Dn v' w1 hd hj hf => ?_)
  obtain ⟨j0, jk, jn, b_t, b_i, b_r, b_q, a_8, a_9, q_8_9⟩ := hj
  have B := j0
  have ot := b_t
  clear b_t
  have oi := b_i
  clear b_i
  have or := b_r
  clear b_r
  have oq := b_q
  clear b_q
  have f := hf (8, some 8) (.tail _ (.tail _ (.head _))) rfl
  have e6_ : v' 8 = .pointer (some ⟨p8, 0, none⟩) := f.2.1
  obtain ⟨g, e1_, zv8, -, -, e5_⟩ := a_8 f.1
  obtain rfl : p8 = g := Reg.ptr_eq (e6_.symm.trans e1_)
  obtain ⟨-, cs_, ee, ov8⟩ := e5_ (hd 10 (Nat.le_of_ble_eq_true rfl))
  have ef : v' 3 = .agg #[.bool xa1, .slice xa2 xa3 xa4, .bool xa5, .slice xa6 xa7 xa8] := (hf (3, some 13) (.head _) rfl).2.1
  obtain rfl : #[.bool xa1, .slice xa2 xa3 xa4, .bool xa5, .slice xa6 xa7 xa8] = cs_ := by have := ef.symm.trans ee; simpa only [Value.tuple.injEq, Value.agg.injEq, Array.mk.injEq, List.cons.injEq, and_true, true_and] using this
  clear ee ef f e5_ e1_ e6_
  have f := hf (9, some 9) (.tail _ (.tail _ (.tail _ (.head _)))) rfl
  have e6_ : v' 9 = .pointer (some ⟨p9, 0, none⟩) := f.2.1
  obtain ⟨g, e1_, zv9, -, -, e5_⟩ := a_9 f.1
  obtain rfl : p9 = g := Reg.ptr_eq (e6_.symm.trans e1_)
  obtain ⟨-, cs_, ee, ov9⟩ := e5_ (hd 11 (Nat.le_of_ble_eq_true rfl))
  have ef : v' 7 = .agg #[.bool xb1, .slice xb2 xb3 xb4, .bool xb5, .slice xb6 xb7 xb8] := (hf (7, some 17) (.tail _ (.head _)) rfl).2.1
  obtain rfl : #[.bool xb1, .slice xb2 xb3 xb4, .bool xb5, .slice xb6 xb7 xb8] = cs_ := by have := ef.symm.trans ee; simpa only [Value.tuple.injEq, Value.agg.injEq, Array.mk.injEq, List.cons.injEq, and_true, true_and] using this
  clear ee ef f e5_ e1_ e6_
  have y_8_9 : p8 ≠ p9 := fun e => q_8_9 (hf (8, some 8) (.tail _ (.tail _ (.head _))) rfl).1 (hf (9, some 9) (.tail _ (.tail _ (.tail _ (.head _)))) rfl).1 (by have h1 := (hf (8, some 8) (.tail _ (.tail _ (.head _))) rfl).2.1; have h2 := (hf (9, some 9) (.tail _ (.tail _ (.tail _ (.head _)))) rfl).2.1; rw [h1, h2]; show Value.pointer _ = .pointer _; rw [e])
  have Fxa : Hid (FR w1 (.agg #[.bool xa1, .slice xa2 xa3 xa4, .bool xa5, .slice xa6 xa7 xa8]) (x)) := (hf (3, some 13) (.head _) rfl).2.2
  have Fxb : Hid (FR w1 (.agg #[.bool xb1, .slice xb2 xb3 xb4, .bool xb5, .slice xb6 xb7 xb8]) (y)) := (hf (7, some 17) (.tail _ (.head _)) rfl).2.2
  replace F0 := Hid.mk_ (F0.out.keeps jk)
  replace F1 := Hid.mk_ (F1.out.keeps jk)
  replace F2 := Hid.mk_ (F2.out.keeps jk)
  replace F3 := Hid.mk_ (F3.out.keeps jk)
  clear hd hf jk j0 q_8_9
  refine hQ _ _ ?_
  clear hQ hops Q' ops'
  have ct0 := ot.q0
  have ct1 := ot.q1
  have ct2 := ot.q2
  have ct3 := ot.q3
  have ct4 := ot.q4
  have ct5 := ot.q5
  have ct6 := ot.q6
  have ct7 := ot.q7
  have ct8 := ot.q8
  have ct9 := ot.q9
  have ct10 := ot.q10
  have ct11 := ot.q11
  have ct12 := ot.q12
  have ct13 := ot.q13
  have ct14 := ot.q14
  have ct15 := ot.q15
  have lt := ot.lt
  have li := oi.lt
  have lr := or.lt
  have lq := oq.lt
  have cv80 := ov8.q0
  have cv81 := ov8.q1
  have cv82 := ov8.q2
  have cv83 := ov8.q3
  have lv8 := ov8.lt
  have cv90 := ov9.q0
  have cv91 := ov9.q1
  have cv92 := ov9.q2
  have cv93 := ov9.q3
  have lv9 := ov9.lt
  have zv9_1 : p9 < w1.heap.size := ov9.lt
  have zv8_1 : p8 < w1.heap.size := ov8.lt
  have zz1 := B.size
  go_upto_region 2 with fail
  refine Reg.wp_chain_n (fun N0 D v W => Below w.heap.size w W ∧ Keeps w1 W ∧ N0 ≤ W.heap.size ∧ Blk W (w.heap.size) 30 #[.bool ka1, .slice ka2 ka3 ka4, .bool ka5, .slice ka6 ka7 ka8, .bool kb1, .slice kb2 kb3 kb4, .bool kb5, .slice kb6 kb7 kb8, .bool kc1, .slice kc2 kc3 kc4, .bool kc5, .slice kc6 kc7 kc8, .bool kd1, .slice kd2 kd3 kd4, .bool kd5, .slice kd6 kd7 kd8] ∧ Blk W (w.heap.size + 1) 23 #[.int .i64 px, .int .i64 py] ∧ ((D 16 = false → Blk W (w.heap.size + 1 + 1) 28 #[.bool false, .slice none 0 0, .bool false, .slice none 0 0]) ∧ (D 16 = true → D 15 = true ∧ ∃ cs, v 15 = .agg cs ∧ Blk W (w.heap.size + 1 + 1) 28 cs)) ∧ Blk W (w.heap.size + 1 + 1 + 1) 28 #[.bool false, .slice none 0 0, .bool false, .slice none 0 0] ∧ Blk W (p8) 28 #[.bool xa1, .slice xa2 xa3 xa4, .bool xa5, .slice xa6 xa7 xa8] ∧ Blk W (p9) 28 #[.bool xb1, .slice xb2 xb3 xb4, .bool xb5, .slice xb6 xb7 xb8])
    (Reg.inl [6, 11, 12, 15, 16]) (Reg.gv [(6, IsFr), (11, IsFr), (12, IsFr), (15, IsFr)]) (gw [(6, GFr ((p * x))), (11, GFr ((q * y))), (12, GFr (((p * x) - (q * y)))), (15, GFr ((((p * x) - (q * y)) + r)))]) (fun _ => Keeps) (fun _ _ => False) (Reg.pl [(12, [(6, some 24), (11, some 29)]), (15, [(12, some 30)]), (16, [(15, some 33)]), (17, [(6, some 24), (11, some 29), (12, some 30), (15, some 33)])]) (Reg.pl [(15, [16])])
    (by kernel_rfl) (by kernel_rfl) (by kernel_rfl) (Reg.gv_some _ (by intro p hp; simp only [List.mem_cons, List.not_mem_nil, or_false] at hp; rcases hp with rfl | rfl | rfl | rfl <;> first | exact ⟨_, rfl⟩ | exact ⟨_, 0, rfl⟩ | exact ⟨_, none, 0, 0, rfl⟩ | exact ⟨_, false, none, 0, 0, rfl⟩ | exact ⟨_, false, none, 0, 0, false, none, 0, 0, rfl⟩)) (fun N0 hN0 => ⟨fun v => ?_, fun D v v' W hv hj => ?_, fun D v k j W W' x _ _ _ _ hk hg => gw_keeps _ (by intro p hp; simp only [List.mem_cons, List.not_mem_nil, or_false] at hp; rcases hp with rfl | rfl | rfl | rfl <;> first | exact GFr.keeps | exact GFrE.keeps | exact GNu.keeps | exact GNuE.keeps | exact GLi.keeps) hk hg, fun _ _ _ _ h => h.elim, fun ops' Q' hops hQ => ?_⟩)
  · exact ⟨belowB, keepsB, by first | with_reducible exact Nat.le_of_eq hN0.out | (simp only [World.size_drew]; with_reducible exact Nat.le_of_eq hN0.out), ownK, ownK, ⟨fun _ => ownK, (fun h => Bool.noConfusion h)⟩, ownK, ownK, ownK⟩
  · obtain ⟨j0, jk, jn, b_t, b_i, b_r, b_q, b_v8, b_v9⟩ := hj
    exact ⟨j0, jk, jn, b_t, b_i, ⟨b_r.1, fun h => by obtain ⟨d, cs, e, hb⟩ := b_r.2 h; exact ⟨d, cs, (hv 15 d) ▸ e, hb⟩⟩, b_q, b_v8, b_v9⟩
  have i_t : w.heap.size < N0 := by have e := hN0.out; (try simp only [World.size_alloc, World.size_setCell, World.size_drew, World.heap_drewN] at e); first | omega | (have h := ot.lt; omega)
  have i_i : w.heap.size + 1 < N0 := by have e := hN0.out; (try simp only [World.size_alloc, World.size_setCell, World.size_drew, World.heap_drewN] at e); first | omega | (have h := oi.lt; omega)
  have i_r : w.heap.size + 1 + 1 < N0 := by have e := hN0.out; (try simp only [World.size_alloc, World.size_setCell, World.size_drew, World.heap_drewN] at e); first | omega | (have h := or.lt; omega)
  have i_q : w.heap.size + 1 + 1 + 1 < N0 := by have e := hN0.out; (try simp only [World.size_alloc, World.size_setCell, World.size_drew, World.heap_drewN] at e); first | omega | (have h := oq.lt; omega)
  have i_v8 : p8 < N0 := by have e := hN0.out; (try simp only [World.size_alloc, World.size_setCell, World.size_drew, World.heap_drewN] at e); first | omega | (have h := ov8.lt; omega)
  have i_v9 : p9 < N0 := by have e := hN0.out; (try simp only [World.size_alloc, World.size_setCell, World.size_drew, World.heap_drewN] at e); first | omega | (have h := ov9.lt; omega)
  have iw : w.heap.size ≤ N0 := by have e := hN0.out; (try simp only [World.size_alloc, World.size_setCell, World.size_drew, World.heap_drewN] at e); first | omega | (have h := B.size; omega)
  clear ct0 ct1 ct2 ct3 ct4 ct5 ct6 ct7 ct8 ct9 ct10 ct11 ct12 ct13 ct14 ct15 lt li lr lq cv80 cv81 cv82 cv83 lv8 cv90 cv91 cv92 cv93 lv9
  clear hN0
  apply Reg.RC_pure (hc := rfl) (hst := rfl) (hw := rfl) (t := 18) (hd := rfl) (ht := Nat.le_of_ble_eq_true rfl)
  · intro D v' W' hc hj hf K hK
    go_step
    exact hK.out
  · rfl
  apply Reg.RC_pure (hc := rfl) (hst := rfl) (hw := rfl) (t := 19) (hd := rfl) (ht := Nat.le_of_ble_eq_true rfl)
  · intro D v' W' hc hj hf K hK
    go_step
    exact hK.out
  · rfl
  apply Reg.RC_pure (hc := rfl) (hst := rfl) (hw := rfl) (t := 20) (hd := rfl) (ht := Nat.le_of_ble_eq_true rfl)
  · intro D v' W' hc hj hf K hK
    go_step
    exact hK.out
  · rfl
  apply Reg.RC_pure (hc := rfl) (hst := rfl) (hw := rfl) (t := 21) (hd := rfl) (ht := Nat.le_of_ble_eq_true rfl)
  · intro D v' W' hc hj hf K hK
    go_step
    exact hK.out
  · rfl
  apply Reg.RC_pure (hc := rfl) (hst := rfl) (hw := rfl) (t := 22) (hd := rfl) (ht := Nat.le_of_ble_eq_true rfl)
  · intro D v' W' hc hj hf K hK
    obtain ⟨j0, jk, jn, b_t, b_i, b_r, b_q, b_v8, b_v9⟩ := hj
    have c0 : W'.cell? ⟨w.heap.size, 0, none⟩ = some (.bool ka1) := b_t.c 0 rfl
    have c1 : W'.cell? ⟨w.heap.size, 1, none⟩ = some (.slice ka2 ka3 ka4) := b_t.c 1 rfl
    have c2 : W'.cell? ⟨w.heap.size, 2, none⟩ = some (.bool ka5) := b_t.c 2 rfl
    have c3 : W'.cell? ⟨w.heap.size, 3, none⟩ = some (.slice ka6 ka7 ka8) := b_t.c 3 rfl
    go_step
    exact hK.out
  · rfl
  apply Reg.RC_pure (hc := rfl) (hst := rfl) (hw := rfl) (t := 23) (hd := rfl) (ht := Nat.le_of_ble_eq_true rfl)
  · intro D v' W' hc hj hf K hK
    obtain ⟨j0, jk, jn, b_t, b_i, b_r, b_q, b_v8, b_v9⟩ := hj
    have c0 : W'.cell? ⟨p8, 0, none⟩ = some (.bool xa1) := b_v8.c 0 rfl
    have c1 : W'.cell? ⟨p8, 1, none⟩ = some (.slice xa2 xa3 xa4) := b_v8.c 1 rfl
    have c2 : W'.cell? ⟨p8, 2, none⟩ = some (.bool xa5) := b_v8.c 2 rfl
    have c3 : W'.cell? ⟨p8, 3, none⟩ = some (.slice xa6 xa7 xa8) := b_v8.c 3 rfl
    go_step
    exact hK.out
  · rfl
  refine Reg.RC_call rfl (by intro t ht; cases ht; exact Nat.le_of_ble_eq_true rfl) rfl (fun D v' W' hc hj hf K hK => ?_) ?_
  · obtain ⟨j0, jk, jn, b_t, b_i, b_r, b_q, b_v8, b_v9⟩ := hj
    clear hf
    go_step
    refine (mmul W' (KC _ j0) (F0.out.keeps jk) (Fxa.out.keeps jk) s0 sx (by omega)).mono ?_
    rintro e W2 ⟨u, rfl, hu, hs⟩
    obtain ⟨xc1, xc2, xc3, xc4, xc5, xc6, xc7, xc8, rfl⟩ := hu.shape
    exact hK.out _ W2 (Keeps.steps hs) ⟨below_steps j0 (Nat.le_refl _) hs, jk.then_ hs, Nat.le_trans jn hs.size, b_t.steps hs, b_i.steps hs, ⟨fun h => (b_r.1 h).steps hs, fun h => by obtain ⟨d, cs, e, hb⟩ := b_r.2 h; exact ⟨d, cs, e, hb.steps hs⟩⟩, b_q.steps hs, b_v8.steps hs, b_v9.steps hs⟩ hu ⟨_, _, _, _, _, _, _, _, rfl⟩
  rintro _ ⟨xc1, xc2, xc3, xc4, xc5, xc6, xc7, xc8, rfl⟩
  refine Reg.RC_at (b := ⟨#[_,_,_,_,_,_,_,_,_,_,_,_,_,_,_,_,_,_,_,_,_,_,_,_,_,_,_,_,_,_,_,_,_,_,_,_,_,_,_,_,_,_,_,_,_,_,_,_,_,_,_,_], _⟩) rfl ?_
  apply Reg.RC_pure (hc := rfl) (hst := rfl) (hw := rfl) (t := 25) (hd := rfl) (ht := Nat.le_of_ble_eq_true rfl)
  · intro D v' W' hc hj hf K hK
    go_step
    exact hK.out
  · rfl
  apply Reg.RC_pure (hc := rfl) (hst := rfl) (hw := rfl) (t := 26) (hd := rfl) (ht := Nat.le_of_ble_eq_true rfl)
  · intro D v' W' hc hj hf K hK
    go_step
    exact hK.out
  · rfl
  apply Reg.RC_pure (hc := rfl) (hst := rfl) (hw := rfl) (t := 27) (hd := rfl) (ht := Nat.le_of_ble_eq_true rfl)
  · intro D v' W' hc hj hf K hK
    obtain ⟨j0, jk, jn, b_t, b_i, b_r, b_q, b_v8, b_v9⟩ := hj
    have c4 : W'.cell? ⟨w.heap.size, 4, none⟩ = some (.bool kb1) := b_t.c 4 rfl
    have c5 : W'.cell? ⟨w.heap.size, 5, none⟩ = some (.slice kb2 kb3 kb4) := b_t.c 5 rfl
    have c6 : W'.cell? ⟨w.heap.size, 6, none⟩ = some (.bool kb5) := b_t.c 6 rfl
    have c7 : W'.cell? ⟨w.heap.size, 7, none⟩ = some (.slice kb6 kb7 kb8) := b_t.c 7 rfl
    go_step
    exact hK.out
  · rfl
  apply Reg.RC_pure (hc := rfl) (hst := rfl) (hw := rfl) (t := 28) (hd := rfl) (ht := Nat.le_of_ble_eq_true rfl)
  · intro D v' W' hc hj hf K hK
    obtain ⟨j0, jk, jn, b_t, b_i, b_r, b_q, b_v8, b_v9⟩ := hj
    have c0 : W'.cell? ⟨p9, 0, none⟩ = some (.bool xb1) := b_v9.c 0 rfl
    have c1 : W'.cell? ⟨p9, 1, none⟩ = some (.slice xb2 xb3 xb4) := b_v9.c 1 rfl
    have c2 : W'.cell? ⟨p9, 2, none⟩ = some (.bool xb5) := b_v9.c 2 rfl
    have c3 : W'.cell? ⟨p9, 3, none⟩ = some (.slice xb6 xb7 xb8) := b_v9.c 3 rfl
    go_step
    exact hK.out
  · rfl
  refine Reg.RC_call rfl (by intro t ht; cases ht; exact Nat.le_of_ble_eq_true rfl) rfl (fun D v' W' hc hj hf K hK => ?_) ?_
  · obtain ⟨j0, jk, jn, b_t, b_i, b_r, b_q, b_v8, b_v9⟩ := hj
    clear hf
    go_step
    refine (mmul W' (KC _ j0) (F1.out.keeps jk) (Fxb.out.keeps jk) s1 sy (by omega)).mono ?_
    rintro e W2 ⟨u, rfl, hu, hs⟩
    obtain ⟨xd1, xd2, xd3, xd4, xd5, xd6, xd7, xd8, rfl⟩ := hu.shape
    exact hK.out _ W2 (Keeps.steps hs) ⟨below_steps j0 (Nat.le_refl _) hs, jk.then_ hs, Nat.le_trans jn hs.size, b_t.steps hs, b_i.steps hs, ⟨fun h => (b_r.1 h).steps hs, fun h => by obtain ⟨d, cs, e, hb⟩ := b_r.2 h; exact ⟨d, cs, e, hb.steps hs⟩⟩, b_q.steps hs, b_v8.steps hs, b_v9.steps hs⟩ hu ⟨_, _, _, _, _, _, _, _, rfl⟩
  rintro _ ⟨xd1, xd2, xd3, xd4, xd5, xd6, xd7, xd8, rfl⟩
  refine Reg.RC_at (b := ⟨#[_,_,_,_,_,_,_,_,_,_,_,_,_,_,_,_,_,_,_,_,_,_,_,_,_,_,_,_,_,_,_,_,_,_,_,_,_,_,_,_,_,_,_,_,_,_,_,_,_,_,_,_], _⟩) rfl ?_
  refine Reg.RC_call rfl (by intro t ht; cases ht; exact Nat.le_of_ble_eq_true rfl) rfl (fun D v' W' hc hj hf K hK => ?_) ?_
  · obtain ⟨j0, jk, jn, b_t, b_i, b_r, b_q, b_v8, b_v9⟩ := hj
    have g6 : GFr ((p * x)) _ W' := (hf (6, some 24) (.head _) rfl).2.2
    have g6 : FR W' _ ((p * x)) := g6
    have g11 : GFr ((q * y)) _ W' := (hf (11, some 29) (.tail _ (.head _)) rfl).2.2
    have g11 : FR W' _ ((q * y)) := g11
    clear hf
    go_step
    refine (msub W' (KC _ j0) g6 g11 (s0.mul sx) (s1.mul sy) (by omega)).mono ?_
    rintro e W2 ⟨u, rfl, hu, hs⟩
    obtain ⟨xe1, xe2, xe3, xe4, xe5, xe6, xe7, xe8, rfl⟩ := hu.shape
    exact hK.out _ W2 (Keeps.steps hs) ⟨below_steps j0 (Nat.le_refl _) hs, jk.then_ hs, Nat.le_trans jn hs.size, b_t.steps hs, b_i.steps hs, ⟨fun h => (b_r.1 h).steps hs, fun h => by obtain ⟨d, cs, e, hb⟩ := b_r.2 h; exact ⟨d, cs, e, hb.steps hs⟩⟩, b_q.steps hs, b_v8.steps hs, b_v9.steps hs⟩ hu ⟨_, _, _, _, _, _, _, _, rfl⟩
  rintro _ ⟨xe1, xe2, xe3, xe4, xe5, xe6, xe7, xe8, rfl⟩
  refine Reg.RC_at (b := ⟨#[_,_,_,_,_,_,_,_,_,_,_,_,_,_,_,_,_,_,_,_,_,_,_,_,_,_,_,_,_,_,_,_,_,_,_,_,_,_,_,_,_,_,_,_,_,_,_,_,_,_,_,_], _⟩) rfl ?_
  apply Reg.RC_pure (hc := rfl) (hst := rfl) (hw := rfl) (t := 31) (hd := rfl) (ht := Nat.le_of_ble_eq_true rfl)
  · intro D v' W' hc hj hf K hK
    go_step
    exact hK.out
  · rfl
  apply Reg.RC_pure (hc := rfl) (hst := rfl) (hw := rfl) (t := 32) (hd := rfl) (ht := Nat.le_of_ble_eq_true rfl)
  · intro D v' W' hc hj hf K hK
    obtain ⟨j0, jk, jn, b_t, b_i, b_r, b_q, b_v8, b_v9⟩ := hj
    have c8 : W'.cell? ⟨w.heap.size, 8, none⟩ = some (.bool kc1) := b_t.c 8 rfl
    have c9 : W'.cell? ⟨w.heap.size, 9, none⟩ = some (.slice kc2 kc3 kc4) := b_t.c 9 rfl
    have c10 : W'.cell? ⟨w.heap.size, 10, none⟩ = some (.bool kc5) := b_t.c 10 rfl
    have c11 : W'.cell? ⟨w.heap.size, 11, none⟩ = some (.slice kc6 kc7 kc8) := b_t.c 11 rfl
    go_step
    exact hK.out
  · rfl
  refine Reg.RC_call rfl (by intro t ht; cases ht; exact Nat.le_of_ble_eq_true rfl) rfl (fun D v' W' hc hj hf K hK => ?_) ?_
  · obtain ⟨j0, jk, jn, b_t, b_i, b_r, b_q, b_v8, b_v9⟩ := hj
    have g12 : GFr (((p * x) - (q * y))) _ W' := (hf (12, some 30) (.head _) rfl).2.2
    have g12 : FR W' _ (((p * x) - (q * y))) := g12
    clear hf
    go_step
    refine (madd W' (KC _ j0) g12 (F2.out.keeps jk) ((s0.mul sx).sub (s1.mul sy)) s2 (by omega)).mono ?_
    rintro e W2 ⟨u, rfl, hu, hs⟩
    obtain ⟨xf1, xf2, xf3, xf4, xf5, xf6, xf7, xf8, rfl⟩ := hu.shape
    exact hK.out _ W2 (Keeps.steps hs) ⟨below_steps j0 (Nat.le_refl _) hs, jk.then_ hs, Nat.le_trans jn hs.size, b_t.steps hs, b_i.steps hs, ⟨fun h => (b_r.1 h).steps hs, fun h => Bool.noConfusion ((hc.2 16 (by decide)).symm.trans h)⟩, b_q.steps hs, b_v8.steps hs, b_v9.steps hs⟩ hu ⟨_, _, _, _, _, _, _, _, rfl⟩
  rintro _ ⟨xf1, xf2, xf3, xf4, xf5, xf6, xf7, xf8, rfl⟩
  refine Reg.RC_at (b := ⟨#[_,_,_,_,_,_,_,_,_,_,_,_,_,_,_,_,_,_,_,_,_,_,_,_,_,_,_,_,_,_,_,_,_,_,_,_,_,_,_,_,_,_,_,_,_,_,_,_,_,_,_,_], _⟩) rfl ?_
  refine Reg.RC_call rfl (by intro t ht; cases ht) rfl (fun D v' W' hc hj hf K hK => ?_) (fun _ _ => Reg.RC_at (b := ⟨_, _⟩) rfl ?_)
  · obtain ⟨j0, jk, jn, b_t, b_i, b_r, b_q, b_v8, b_v9⟩ := hj
    have hb := b_r.1 hc.1
    have e2 : w.heap.size ≤ w.heap.size + 1 + 1 := by omega
    have fc := hf (15, some 33) (.head _) rfl
    have ec : v' 15 = .agg #[.bool xf1, .slice xf2 xf3 xf4, .bool xf5, .slice xf6 xf7 xf8] := fc.2.1
    have ff := hb.fr
    have cc0 : W'.cell? ⟨w.heap.size + 1 + 1, 0, none⟩ = some (.bool false) := hb.c 0 rfl
    have cc1 : W'.cell? ⟨w.heap.size + 1 + 1, 1, none⟩ = some (.slice none 0 0) := hb.c 1 rfl
    have cc2 : W'.cell? ⟨w.heap.size + 1 + 1, 2, none⟩ = some (.bool false) := hb.c 2 rfl
    have cc3 : W'.cell? ⟨w.heap.size + 1 + 1, 3, none⟩ = some (.slice none 0 0) := hb.c 3 rfl
    go_step
    exact hK.out undef _ (keeps4 hb rfl) ⟨(below4 j0 (by show w.heap.size ≤ w.heap.size + 1 + 1; omega)), jk.trans (keeps4 hb rfl), by simpa using jn, (b_t).far4 (show w.heap.size ≠ w.heap.size + 1 + 1 by omega), (b_i).far4 (show w.heap.size + 1 ≠ w.heap.size + 1 + 1 by omega), ⟨fun h => Bool.noConfusion h, fun _ => ⟨fc.1, _, ec, (Blk.set2 (cs' := #[.bool xf1, .slice xf2 xf3 xf4, .bool xf5, .slice xf6 xf7 xf8]) (Blk.set2 (cs' := #[.bool xf1, .slice xf2 xf3 xf4, .bool xf5, .slice none 0 0]) (Blk.set2 (cs' := #[.bool xf1, .slice xf2 xf3 xf4, .bool false, .slice none 0 0]) (Blk.set2 (cs' := #[.bool xf1, .slice none 0 0, .bool false, .slice none 0 0]) hb (i := 0) rfl) (i := 1) rfl) (i := 2) rfl) (i := 3) rfl)⟩⟩, (b_q).far4 (show w.heap.size + 1 + 1 + 1 ≠ w.heap.size + 1 + 1 by omega), (b_v8).far4 (show p8 ≠ w.heap.size + 1 + 1 by omega), (b_v9).far4 (show p9 ≠ w.heap.size + 1 + 1 by omega)⟩ trivial trivial
  refine Reg.RC_end (fun Dn v' w2 hd hj hf => ?_)
  obtain ⟨j0, jk, jn, b_t, b_i, b_r, b_q, b_v8, b_v9⟩ := hj
  have B := j0
  have ot := b_t
  clear b_t
  have oi := b_i
  clear b_i
  obtain ⟨-, cs_, ee, or⟩ := b_r.2 (hd 16 (Nat.le_of_ble_eq_true rfl))
  have ef : v' 15 = .agg #[.bool xf1, .slice xf2 xf3 xf4, .bool xf5, .slice xf6 xf7 xf8] := (hf (15, some 33) (.tail _ (.tail _ (.tail _ (.head _)))) rfl).2.1
  obtain rfl : #[.bool xf1, .slice xf2 xf3 xf4, .bool xf5, .slice xf6 xf7 xf8] = cs_ := by have := ef.symm.trans ee; simpa only [Value.tuple.injEq, Value.agg.injEq, Array.mk.injEq, List.cons.injEq, and_true, true_and] using this
  clear b_r ee ef
  have oq := b_q
  clear b_q
  have ov8 := b_v8
  clear b_v8
  have ov9 := b_v9
  clear b_v9
  have Fxf : Hid (FR w2 (.agg #[.bool xf1, .slice xf2 xf3 xf4, .bool xf5, .slice xf6 xf7 xf8]) ((((p * x) - (q * y)) + r))) := (hf (15, some 33) (.tail _ (.tail _ (.tail _ (.head _)))) rfl).2.2
  replace F0 := Hid.mk_ (F0.out.keeps jk)
  replace F1 := Hid.mk_ (F1.out.keeps jk)
  replace F2 := Hid.mk_ (F2.out.keeps jk)
  replace F3 := Hid.mk_ (F3.out.keeps jk)
  replace Fxa := Hid.mk_ (Fxa.out.keeps jk)
  replace Fxb := Hid.mk_ (Fxb.out.keeps jk)
  clear hd hf jk j0
  refine hQ _ _ ?_
  clear hQ hops Q' ops'
  have ct0 := ot.q0
  have ct1 := ot.q1
  have ct2 := ot.q2
  have ct3 := ot.q3
  have ct4 := ot.q4
  have ct5 := ot.q5
  have ct6 := ot.q6
  have ct7 := ot.q7
  have ct8 := ot.q8
  have ct9 := ot.q9
  have ct10 := ot.q10
  have ct11 := ot.q11
  have ct12 := ot.q12
  have ct13 := ot.q13
  have ct14 := ot.q14
  have ct15 := ot.q15
  have lt := ot.lt
  have li := oi.lt
  have lr := or.lt
  have lq := oq.lt
  have cv80 := ov8.q0
  have cv81 := ov8.q1
  have cv82 := ov8.q2
  have cv83 := ov8.q3
  have lv8 := ov8.lt
  have cv90 := ov9.q0
  have cv91 := ov9.q1
  have cv92 := ov9.q2
  have cv93 := ov9.q3
  have lv9 := ov9.lt
  have zv9_2 : p9 < w2.heap.size := ov9.lt
  have zv8_2 : p8 < w2.heap.size := ov8.lt
  have zz2 := B.size
  go_upto_region 3 with fail
  refine Reg.wp_chain_n (fun N0 D v W => Below w.heap.size w W ∧ Keeps w2 W ∧ N0 ≤ W.heap.size ∧ Blk W (w.heap.size) 30 #[.bool ka1, .slice ka2 ka3 ka4, .bool ka5, .slice ka6 ka7 ka8, .bool kb1, .slice kb2 kb3 kb4, .bool kb5, .slice kb6 kb7 kb8, .bool kc1, .slice kc2 kc3 kc4, .bool kc5, .slice kc6 kc7 kc8, .bool kd1, .slice kd2 kd3 kd4, .bool kd5, .slice kd6 kd7 kd8] ∧ Blk W (w.heap.size + 1) 23 #[.int .i64 px, .int .i64 py] ∧ Blk W (w.heap.size + 1 + 1) 28 #[.bool xf1, .slice xf2 xf3 xf4, .bool xf5, .slice xf6 xf7 xf8] ∧ ((D 16 = false → Blk W (w.heap.size + 1 + 1 + 1) 28 #[.bool false, .slice none 0 0, .bool false, .slice none 0 0]) ∧ (D 16 = true → D 15 = true ∧ ∃ cs, v 15 = .agg cs ∧ Blk W (w.heap.size + 1 + 1 + 1) 28 cs)) ∧ Blk W (p8) 28 #[.bool xa1, .slice xa2 xa3 xa4, .bool xa5, .slice xa6 xa7 xa8] ∧ Blk W (p9) 28 #[.bool xb1, .slice xb2 xb3 xb4, .bool xb5, .slice xb6 xb7 xb8])
    (Reg.inl [6, 11, 12, 15, 16]) (Reg.gv [(6, IsFr), (11, IsFr), (12, IsFr), (15, IsFr)]) (gw [(6, GFr ((q * x))), (11, GFr ((p * y))), (12, GFr (((q * x) + (p * y)))), (15, GFr ((((q * x) + (p * y)) + s)))]) (fun _ => Keeps) (fun _ _ => False) (Reg.pl [(12, [(6, some 40), (11, some 45)]), (15, [(12, some 46)]), (16, [(15, some 49)]), (17, [(6, some 40), (11, some 45), (12, some 46), (15, some 49)])]) (Reg.pl [(15, [16])])
    (by kernel_rfl) (by kernel_rfl) (by kernel_rfl) (Reg.gv_some _ (by intro p hp; simp only [List.mem_cons, List.not_mem_nil, or_false] at hp; rcases hp with rfl | rfl | rfl | rfl <;> first | exact ⟨_, rfl⟩ | exact ⟨_, 0, rfl⟩ | exact ⟨_, none, 0, 0, rfl⟩ | exact ⟨_, false, none, 0, 0, rfl⟩ | exact ⟨_, false, none, 0, 0, false, none, 0, 0, rfl⟩)) (fun N0 hN0 => ⟨fun v => ?_, fun D v v' W hv hj => ?_, fun D v k j W W' x _ _ _ _ hk hg => gw_keeps _ (by intro p hp; simp only [List.mem_cons, List.not_mem_nil, or_false] at hp; rcases hp with rfl | rfl | rfl | rfl <;> first | exact GFr.keeps | exact GFrE.keeps | exact GNu.keeps | exact GNuE.keeps | exact GLi.keeps) hk hg, fun _ _ _ _ h => h.elim, fun ops' Q' hops hQ => ?_⟩)
  · exact ⟨belowB, keepsB, by first | with_reducible exact Nat.le_of_eq hN0.out | (simp only [World.size_drew]; with_reducible exact Nat.le_of_eq hN0.out), ownK, ownK, ownK, ⟨fun _ => ownK, (fun h => Bool.noConfusion h)⟩, ownK, ownK⟩
  · obtain ⟨j0, jk, jn, b_t, b_i, b_r, b_q, b_v8, b_v9⟩ := hj
    exact ⟨j0, jk, jn, b_t, b_i, b_r, ⟨b_q.1, fun h => by obtain ⟨d, cs, e, hb⟩ := b_q.2 h; exact ⟨d, cs, (hv 15 d) ▸ e, hb⟩⟩, b_v8, b_v9⟩
  have i_t : w.heap.size < N0 := by have e := hN0.out; (try simp only [World.size_alloc, World.size_setCell, World.size_drew, World.heap_drewN] at e); first | omega | (have h := ot.lt; omega)
  have i_i : w.heap.size + 1 < N0 := by have e := hN0.out; (try simp only [World.size_alloc, World.size_setCell, World.size_drew, World.heap_drewN] at e); first | omega | (have h := oi.lt; omega)
  have i_r : w.heap.size + 1 + 1 < N0 := by have e := hN0.out; (try simp only [World.size_alloc, World.size_setCell, World.size_drew, World.heap_drewN] at e); first | omega | (have h := or.lt; omega)
  have i_q : w.heap.size + 1 + 1 + 1 < N0 := by have e := hN0.out; (try simp only [World.size_alloc, World.size_setCell, World.size_drew, World.heap_drewN] at e); first | omega | (have h := oq.lt; omega)
  have i_v8 : p8 < N0 := by have e := hN0.out; (try simp only [World.size_alloc, World.size_setCell, World.size_drew, World.heap_drewN] at e); first | omega | (have h := ov8.lt; omega)
  have i_v9 : p9 < N0 := by have e := hN0.out; (try simp only [World.size_alloc, World.size_setCell, World.size_drew, World.heap_drewN] at e); first | omega | (have h := ov9.lt; omega)
  have iw : w.heap.size ≤ N0 := by have e := hN0.out; (try simp only [World.size_alloc, World.size_setCell, World.size_drew, World.heap_drewN] at e); first | omega | (have h := B.size; omega)
  clear ct0 ct1 ct2 ct3 ct4 ct5 ct6 ct7 ct8 ct9 ct10 ct11 ct12 ct13 ct14 ct15 lt li lr lq cv80 cv81 cv82 cv83 lv8 cv90 cv91 cv92 cv93 lv9
  clear hN0
  apply Reg.RC_pure (hc := rfl) (hst := rfl) (hw := rfl) (t := 34) (hd := rfl) (ht := Nat.le_of_ble_eq_true rfl)
  · intro D v' W' hc hj hf K hK
    go_step
    exact hK.out
  · rfl
  apply Reg.RC_pure (hc := rfl) (hst := rfl) (hw := rfl) (t := 35) (hd := rfl) (ht := Nat.le_of_ble_eq_true rfl)
  · intro D v' W' hc hj hf K hK
    go_step
    exact hK.out
  · rfl
  apply Reg.RC_pure (hc := rfl) (hst := rfl) (hw := rfl) (t := 36) (hd := rfl) (ht := Nat.le_of_ble_eq_true rfl)
  · intro D v' W' hc hj hf K hK
    go_step
    exact hK.out
  · rfl
  apply Reg.RC_pure (hc := rfl) (hst := rfl) (hw := rfl) (t := 37) (hd := rfl) (ht := Nat.le_of_ble_eq_true rfl)
  · intro D v' W' hc hj hf K hK
    go_step
    exact hK.out
  · rfl
  apply Reg.RC_pure (hc := rfl) (hst := rfl) (hw := rfl) (t := 38) (hd := rfl) (ht := Nat.le_of_ble_eq_true rfl)
  · intro D v' W' hc hj hf K hK
    obtain ⟨j0, jk, jn, b_t, b_i, b_r, b_q, b_v8, b_v9⟩ := hj
    have c4 : W'.cell? ⟨w.heap.size, 4, none⟩ = some (.bool kb1) := b_t.c 4 rfl
    have c5 : W'.cell? ⟨w.heap.size, 5, none⟩ = some (.slice kb2 kb3 kb4) := b_t.c 5 rfl
    have c6 : W'.cell? ⟨w.heap.size, 6, none⟩ = some (.bool kb5) := b_t.c 6 rfl
    have c7 : W'.cell? ⟨w.heap.size, 7, none⟩ = some (.slice kb6 kb7 kb8) := b_t.c 7 rfl
    go_step
    exact hK.out
  · rfl
  apply Reg.RC_pure (hc := rfl) (hst := rfl) (hw := rfl) (t := 39) (hd := rfl) (ht := Nat.le_of_ble_eq_true rfl)
  · intro D v' W' hc hj hf K hK
    obtain ⟨j0, jk, jn, b_t, b_i, b_r, b_q, b_v8, b_v9⟩ := hj
    have c0 : W'.cell? ⟨p8, 0, none⟩ = some (.bool xa1) := b_v8.c 0 rfl
    have c1 : W'.cell? ⟨p8, 1, none⟩ = some (.slice xa2 xa3 xa4) := b_v8.c 1 rfl
    have c2 : W'.cell? ⟨p8, 2, none⟩ = some (.bool xa5) := b_v8.c 2 rfl
    have c3 : W'.cell? ⟨p8, 3, none⟩ = some (.slice xa6 xa7 xa8) := b_v8.c 3 rfl
    go_step
    exact hK.out
  · rfl
  refine Reg.RC_call rfl (by intro t ht; cases ht; exact Nat.le_of_ble_eq_true rfl) rfl (fun D v' W' hc hj hf K hK => ?_) ?_
  · obtain ⟨j0, jk, jn, b_t, b_i, b_r, b_q, b_v8, b_v9⟩ := hj
    clear hf
    go_step
    refine (mmul W' (KC _ j0) (F1.out.keeps jk) (Fxa.out.keeps jk) s1 sx (by omega)).mono ?_
    rintro e W2 ⟨u, rfl, hu, hs⟩
    obtain ⟨xg1, xg2, xg3, xg4, xg5, xg6, xg7, xg8, rfl⟩ := hu.shape
    exact hK.out _ W2 (Keeps.steps hs) ⟨below_steps j0 (Nat.le_refl _) hs, jk.then_ hs, Nat.le_trans jn hs.size, b_t.steps hs, b_i.steps hs, b_r.steps hs, ⟨fun h => (b_q.1 h).steps hs, fun h => by obtain ⟨d, cs, e, hb⟩ := b_q.2 h; exact ⟨d, cs, e, hb.steps hs⟩⟩, b_v8.steps hs, b_v9.steps hs⟩ hu ⟨_, _, _, _, _, _, _, _, rfl⟩
  rintro _ ⟨xg1, xg2, xg3, xg4, xg5, xg6, xg7, xg8, rfl⟩
  refine Reg.RC_at (b := ⟨#[_,_,_,_,_,_,_,_,_,_,_,_,_,_,_,_,_,_,_,_,_,_,_,_,_,_,_,_,_,_,_,_,_,_,_,_,_,_,_,_,_,_,_,_,_,_,_,_,_,_,_,_], _⟩) rfl ?_
  apply Reg.RC_pure (hc := rfl) (hst := rfl) (hw := rfl) (t := 41) (hd := rfl) (ht := Nat.le_of_ble_eq_true rfl)
  · intro D v' W' hc hj hf K hK
    go_step
    exact hK.out
  · rfl
  apply Reg.RC_pure (hc := rfl) (hst := rfl) (hw := rfl) (t := 42) (hd := rfl) (ht := Nat.le_of_ble_eq_true rfl)
  · intro D v' W' hc hj hf K hK
    go_step
    exact hK.out
  · rfl
  apply Reg.RC_pure (hc := rfl) (hst := rfl) (hw := rfl) (t := 43) (hd := rfl) (ht := Nat.le_of_ble_eq_true rfl)
  · intro D v' W' hc hj hf K hK
    obtain ⟨j0, jk, jn, b_t, b_i, b_r, b_q, b_v8, b_v9⟩ := hj
    have c0 : W'.cell? ⟨w.heap.size, 0, none⟩ = some (.bool ka1) := b_t.c 0 rfl
    have c1 : W'.cell? ⟨w.heap.size, 1, none⟩ = some (.slice ka2 ka3 ka4) := b_t.c 1 rfl
    have c2 : W'.cell? ⟨w.heap.size, 2, none⟩ = some (.bool ka5) := b_t.c 2 rfl
    have c3 : W'.cell? ⟨w.heap.size, 3, none⟩ = some (.slice ka6 ka7 ka8) := b_t.c 3 rfl
    go_step
    exact hK.out
  · rfl
  apply Reg.RC_pure (hc := rfl) (hst := rfl) (hw := rfl) (t := 44) (hd := rfl) (ht := Nat.le_of_ble_eq_true rfl)
  · intro D v' W' hc hj hf K hK
    obtain ⟨j0, jk, jn, b_t, b_i, b_r, b_q, b_v8, b_v9⟩ := hj
    have c0 : W'.cell? ⟨p9, 0, none⟩ = some (.bool xb1) := b_v9.c 0 rfl
    have c1 : W'.cell? ⟨p9, 1, none⟩ = some (.slice xb2 xb3 xb4) := b_v9.c 1 rfl
    have c2 : W'.cell? ⟨p9, 2, none⟩ = some (.bool xb5) := b_v9.c 2 rfl
    have c3 : W'.cell? ⟨p9, 3, none⟩ = some (.slice xb6 xb7 xb8) := b_v9.c 3 rfl
    go_step
    exact hK.out
  · rfl
  refine Reg.RC_call rfl (by intro t ht; cases ht; exact Nat.le_of_ble_eq_true rfl) rfl (fun D v' W' hc hj hf K hK => ?_) ?_
  · obtain ⟨j0, jk, jn, b_t, b_i, b_r, b_q, b_v8, b_v9⟩ := hj
    clear hf
    go_step
    refine (mmul W' (KC _ j0) (F0.out.keeps jk) (Fxb.out.keeps jk) s0 sy (by omega)).mono ?_
    rintro e W2 ⟨u, rfl, hu, hs⟩
    obtain ⟨xh1, xh2, xh3, xh4, xh5, xh6, xh7, xh8, rfl⟩ := hu.shape
    exact hK.out _ W2 (Keeps.steps hs) ⟨below_steps j0 (Nat.le_refl _) hs, jk.then_ hs, Nat.le_trans jn hs.size, b_t.steps hs, b_i.steps hs, b_r.steps hs, ⟨fun h => (b_q.1 h).steps hs, fun h => by obtain ⟨d, cs, e, hb⟩ := b_q.2 h; exact ⟨d, cs, e, hb.steps hs⟩⟩, b_v8.steps hs, b_v9.steps hs⟩ hu ⟨_, _, _, _, _, _, _, _, rfl⟩
  rintro _ ⟨xh1, xh2, xh3, xh4, xh5, xh6, xh7, xh8, rfl⟩
  refine Reg.RC_at (b := ⟨#[_,_,_,_,_,_,_,_,_,_,_,_,_,_,_,_,_,_,_,_,_,_,_,_,_,_,_,_,_,_,_,_,_,_,_,_,_,_,_,_,_,_,_,_,_,_,_,_,_,_,_,_], _⟩) rfl ?_
  refine Reg.RC_call rfl (by intro t ht; cases ht; exact Nat.le_of_ble_eq_true rfl) rfl (fun D v' W' hc hj hf K hK => ?_) ?_
  · obtain ⟨j0, jk, jn, b_t, b_i, b_r, b_q, b_v8, b_v9⟩ := hj
    have g6 : GFr ((q * x)) _ W' := (hf (6, some 40) (.head _) rfl).2.2
    have g6 : FR W' _ ((q * x)) := g6
    have g11 : GFr ((p * y)) _ W' := (hf (11, some 45) (.tail _ (.head _)) rfl).2.2
    have g11 : FR W' _ ((p * y)) := g11
    clear hf
    go_step
    refine (madd W' (KC _ j0) g6 g11 (s1.mul sx) (s0.mul sy) (by omega)).mono ?_
    rintro e W2 ⟨u, rfl, hu, hs⟩
    obtain ⟨xi1, xi2, xi3, xi4, xi5, xi6, xi7, xi8, rfl⟩ := hu.shape
    exact hK.out _ W2 (Keeps.steps hs) ⟨below_steps j0 (Nat.le_refl _) hs, jk.then_ hs, Nat.le_trans jn hs.size, b_t.steps hs, b_i.steps hs, b_r.steps hs, ⟨fun h => (b_q.1 h).steps hs, fun h => by obtain ⟨d, cs, e, hb⟩ := b_q.2 h; exact ⟨d, cs, e, hb.steps hs⟩⟩, b_v8.steps hs, b_v9.steps hs⟩ hu ⟨_, _, _, _, _, _, _, _, rfl⟩
  rintro _ ⟨xi1, xi2, xi3, xi4, xi5, xi6, xi7, xi8, rfl⟩
  refine Reg.RC_at (b := ⟨#[_,_,_,_,_,_,_,_,_,_,_,_,_,_,_,_,_,_,_,_,_,_,_,_,_,_,_,_,_,_,_,_,_,_,_,_,_,_,_,_,_,_,_,_,_,_,_,_,_,_,_,_], _⟩) rfl ?_
  apply Reg.RC_pure (hc := rfl) (hst := rfl) (hw := rfl) (t := 47) (hd := rfl) (ht := Nat.le_of_ble_eq_true rfl)
  · intro D v' W' hc hj hf K hK
    go_step
    exact hK.out
  · rfl
  apply Reg.RC_pure (hc := rfl) (hst := rfl) (hw := rfl) (t := 48) (hd := rfl) (ht := Nat.le_of_ble_eq_true rfl)
  · intro D v' W' hc hj hf K hK
    obtain ⟨j0, jk, jn, b_t, b_i, b_r, b_q, b_v8, b_v9⟩ := hj
    have c12 : W'.cell? ⟨w.heap.size, 12, none⟩ = some (.bool kd1) := b_t.c 12 rfl
    have c13 : W'.cell? ⟨w.heap.size, 13, none⟩ = some (.slice kd2 kd3 kd4) := b_t.c 13 rfl
    have c14 : W'.cell? ⟨w.heap.size, 14, none⟩ = some (.bool kd5) := b_t.c 14 rfl
    have c15 : W'.cell? ⟨w.heap.size, 15, none⟩ = some (.slice kd6 kd7 kd8) := b_t.c 15 rfl
    go_step
    exact hK.out
  · rfl
  refine Reg.RC_call rfl (by intro t ht; cases ht; exact Nat.le_of_ble_eq_true rfl) rfl (fun D v' W' hc hj hf K hK => ?_) ?_
  · obtain ⟨j0, jk, jn, b_t, b_i, b_r, b_q, b_v8, b_v9⟩ := hj
    have g12 : GFr (((q * x) + (p * y))) _ W' := (hf (12, some 46) (.head _) rfl).2.2
    have g12 : FR W' _ (((q * x) + (p * y))) := g12
    clear hf
    go_step
    refine (madd W' (KC _ j0) g12 (F3.out.keeps jk) ((s1.mul sx).add (s0.mul sy)) s3 (by omega)).mono ?_
    rintro e W2 ⟨u, rfl, hu, hs⟩
    obtain ⟨xj1, xj2, xj3, xj4, xj5, xj6, xj7, xj8, rfl⟩ := hu.shape
    exact hK.out _ W2 (Keeps.steps hs) ⟨below_steps j0 (Nat.le_refl _) hs, jk.then_ hs, Nat.le_trans jn hs.size, b_t.steps hs, b_i.steps hs, b_r.steps hs, ⟨fun h => (b_q.1 h).steps hs, fun h => Bool.noConfusion ((hc.2 16 (by decide)).symm.trans h)⟩, b_v8.steps hs, b_v9.steps hs⟩ hu ⟨_, _, _, _, _, _, _, _, rfl⟩
  rintro _ ⟨xj1, xj2, xj3, xj4, xj5, xj6, xj7, xj8, rfl⟩
  refine Reg.RC_at (b := ⟨#[_,_,_,_,_,_,_,_,_,_,_,_,_,_,_,_,_,_,_,_,_,_,_,_,_,_,_,_,_,_,_,_,_,_,_,_,_,_,_,_,_,_,_,_,_,_,_,_,_,_,_,_], _⟩) rfl ?_
  refine Reg.RC_call rfl (by intro t ht; cases ht) rfl (fun D v' W' hc hj hf K hK => ?_) (fun _ _ => Reg.RC_at (b := ⟨_, _⟩) rfl ?_)
  · obtain ⟨j0, jk, jn, b_t, b_i, b_r, b_q, b_v8, b_v9⟩ := hj
    have hb := b_q.1 hc.1
    have e2 : w.heap.size ≤ w.heap.size + 1 + 1 + 1 := by omega
    have fc := hf (15, some 49) (.head _) rfl
    have ec : v' 15 = .agg #[.bool xj1, .slice xj2 xj3 xj4, .bool xj5, .slice xj6 xj7 xj8] := fc.2.1
    have ff := hb.fr
    have cc0 : W'.cell? ⟨w.heap.size + 1 + 1 + 1, 0, none⟩ = some (.bool false) := hb.c 0 rfl
    have cc1 : W'.cell? ⟨w.heap.size + 1 + 1 + 1, 1, none⟩ = some (.slice none 0 0) := hb.c 1 rfl
    have cc2 : W'.cell? ⟨w.heap.size + 1 + 1 + 1, 2, none⟩ = some (.bool false) := hb.c 2 rfl
    have cc3 : W'.cell? ⟨w.heap.size + 1 + 1 + 1, 3, none⟩ = some (.slice none 0 0) := hb.c 3 rfl
    go_step
    exact hK.out undef _ (keeps4 hb rfl) ⟨(below4 j0 (by show w.heap.size ≤ w.heap.size + 1 + 1 + 1; omega)), jk.trans (keeps4 hb rfl), by simpa using jn, (b_t).far4 (show w.heap.size ≠ w.heap.size + 1 + 1 + 1 by omega), (b_i).far4 (show w.heap.size + 1 ≠ w.heap.size + 1 + 1 + 1 by omega), (b_r).far4 (show w.heap.size + 1 + 1 ≠ w.heap.size + 1 + 1 + 1 by omega), ⟨fun h => Bool.noConfusion h, fun _ => ⟨fc.1, _, ec, (Blk.set2 (cs' := #[.bool xj1, .slice xj2 xj3 xj4, .bool xj5, .slice xj6 xj7 xj8]) (Blk.set2 (cs' := #[.bool xj1, .slice xj2 xj3 xj4, .bool xj5, .slice none 0 0]) (Blk.set2 (cs' := #[.bool xj1, .slice xj2 xj3 xj4, .bool false, .slice none 0 0]) (Blk.set2 (cs' := #[.bool xj1, .slice none 0 0, .bool false, .slice none 0 0]) hb (i := 0) rfl) (i := 1) rfl) (i := 2) rfl) (i := 3) rfl)⟩⟩, (b_v8).far4 (show p8 ≠ w.heap.size + 1 + 1 + 1 by omega), (b_v9).far4 (show p9 ≠ w.heap.size + 1 + 1 + 1 by omega)⟩ trivial trivial
  refine Reg.RC_end (fun Dn v' w3 hd hj hf => ?_)
  obtain ⟨j0, jk, jn, b_t, b_i, b_r, b_q, b_v8, b_v9⟩ := hj
  have B := j0
  have ot := b_t
  clear b_t
  have oi := b_i
  clear b_i
  have or := b_r
  clear b_r
  obtain ⟨-, cs_, ee, oq⟩ := b_q.2 (hd 16 (Nat.le_of_ble_eq_true rfl))
  have ef : v' 15 = .agg #[.bool xj1, .slice xj2 xj3 xj4, .bool xj5, .slice xj6 xj7 xj8] := (hf (15, some 49) (.tail _ (.tail _ (.tail _ (.head _)))) rfl).2.1
  obtain rfl : #[.bool xj1, .slice xj2 xj3 xj4, .bool xj5, .slice xj6 xj7 xj8] = cs_ := by have := ef.symm.trans ee; simpa only [Value.tuple.injEq, Value.agg.injEq, Array.mk.injEq, List.cons.injEq, and_true, true_and] using this
  clear b_q ee ef
  have ov8 := b_v8
  clear b_v8
  have ov9 := b_v9
  clear b_v9
  have Fxj : Hid (FR w3 (.agg #[.bool xj1, .slice xj2 xj3 xj4, .bool xj5, .slice xj6 xj7 xj8]) ((((q * x) + (p * y)) + s))) := (hf (15, some 49) (.tail _ (.tail _ (.tail _ (.head _)))) rfl).2.2
  replace F0 := Hid.mk_ (F0.out.keeps jk)
  replace F1 := Hid.mk_ (F1.out.keeps jk)
  replace F2 := Hid.mk_ (F2.out.keeps jk)
  replace F3 := Hid.mk_ (F3.out.keeps jk)
  replace Fxa := Hid.mk_ (Fxa.out.keeps jk)
  replace Fxb := Hid.mk_ (Fxb.out.keeps jk)
  replace Fxf := Hid.mk_ (Fxf.out.keeps jk)
  clear hd hf jk j0
  refine hQ _ _ ?_
  clear hQ hops Q' ops'
  have lt := ot.lt
  have li := oi.lt
  have cr0 := or.q0
  have cr1 := or.q1
  have cr2 := or.q2
  have cr3 := or.q3
  have lr := or.lt
  have cq0 := oq.q0
  have cq1 := oq.q1
  have cq2 := oq.q2
  have cq3 := oq.q3
  have lq := oq.lt
  have zv9_3 : p9 < w3.heap.size := ov9.lt
  have zv8_3 : p8 < w3.heap.size := ov8.lt
  have zz3 := B.size
  go_upto_region 4 with fail
  refine Reg.wp_chain_n (fun N0 D v W => Below w.heap.size w W ∧ Keeps w3 W ∧ N0 ≤ W.heap.size ∧ Blk W (w.heap.size) 30 #[.bool ka1, .slice ka2 ka3 ka4, .bool ka5, .slice ka6 ka7 ka8, .bool kb1, .slice kb2 kb3 kb4, .bool kb5, .slice kb6 kb7 kb8, .bool kc1, .slice kc2 kc3 kc4, .bool kc5, .slice kc6 kc7 kc8, .bool kd1, .slice kd2 kd3 kd4, .bool kd5, .slice kd6 kd7 kd8] ∧ Blk W (w.heap.size + 1) 23 #[.int .i64 px, .int .i64 py] ∧ ((D 2 = false → Blk W (w.heap.size + 1 + 1) 28 #[.bool xf1, .slice xf2 xf3 xf4, .bool xf5, .slice xf6 xf7 xf8]) ∧ (D 2 = true → Blk W (w.heap.size + 1 + 1) 28 #[.bool xf1, .slice xf2 xf3 xf4, .bool xf5, .slice xf6 xf7 xf8])) ∧ ((D 3 = false → Blk W (w.heap.size + 1 + 1 + 1) 28 #[.bool xj1, .slice xj2 xj3 xj4, .bool xj5, .slice xj6 xj7 xj8]) ∧ (D 3 = true → Blk W (w.heap.size + 1 + 1 + 1) 28 #[.bool xj1, .slice xj2 xj3 xj4, .bool xj5, .slice xj6 xj7 xj8])) ∧ Blk W (p8) 28 #[.bool xa1, .slice xa2 xa3 xa4, .bool xa5, .slice xa6 xa7 xa8] ∧ Blk W (p9) 28 #[.bool xb1, .slice xb2 xb3 xb4, .bool xb5, .slice xb6 xb7 xb8])
    (Reg.inl [2, 3]) (Reg.gv []) (gw []) (fun _ => Keeps) (fun _ _ => False) (Reg.pl [(4, [])]) (Reg.pl [(0, [2]), (1, [3])])
    (by kernel_rfl) (by kernel_rfl) (by kernel_rfl) (Reg.gv_some _ (by intro p hp; cases hp)) (fun N0 hN0 => ⟨fun v => ?_, fun D v v' W hv hj => ?_, fun D v k j W W' x _ _ _ _ hk hg => gw_keeps _ (by intro p hp; cases hp) hk hg, fun _ _ _ _ h => h.elim, fun ops' Q' hops hQ => ?_⟩)
  · exact ⟨belowB, keepsB, by first | with_reducible exact Nat.le_of_eq hN0.out | (simp only [World.size_drew]; with_reducible exact Nat.le_of_eq hN0.out), ownK, ownK, ⟨fun _ => ownK, (fun h => Bool.noConfusion h)⟩, ⟨fun _ => ownK, (fun h => Bool.noConfusion h)⟩, ownK, ownK⟩
  · obtain ⟨j0, jk, jn, b_t, b_i, b_r, b_q, b_v8, b_v9⟩ := hj
    exact ⟨j0, jk, jn, b_t, b_i, b_r, b_q, b_v8, b_v9⟩
  have i_t : w.heap.size < N0 := by have e := hN0.out; (try simp only [World.size_alloc, World.size_setCell, World.size_drew, World.heap_drewN] at e); first | omega | (have h := ot.lt; omega)
  have i_i : w.heap.size + 1 < N0 := by have e := hN0.out; (try simp only [World.size_alloc, World.size_setCell, World.size_drew, World.heap_drewN] at e); first | omega | (have h := oi.lt; omega)
  have i_r : w.heap.size + 1 + 1 < N0 := by have e := hN0.out; (try simp only [World.size_alloc, World.size_setCell, World.size_drew, World.heap_drewN] at e); first | omega | (have h := or.lt; omega)
  have i_q : w.heap.size + 1 + 1 + 1 < N0 := by have e := hN0.out; (try simp only [World.size_alloc, World.size_setCell, World.size_drew, World.heap_drewN] at e); first | omega | (have h := oq.lt; omega)
  have i_v8 : p8 < N0 := by have e := hN0.out; (try simp only [World.size_alloc, World.size_setCell, World.size_drew, World.heap_drewN] at e); first | omega | (have h := ov8.lt; omega)
  have i_v9 : p9 < N0 := by have e := hN0.out; (try simp only [World.size_alloc, World.size_setCell, World.size_drew, World.heap_drewN] at e); first | omega | (have h := ov9.lt; omega)
  have iw : w.heap.size ≤ N0 := by have e := hN0.out; (try simp only [World.size_alloc, World.size_setCell, World.size_drew, World.heap_drewN] at e); first | omega | (have h := B.size; omega)
  clear lt li cr0 cr1 cr2 cr3 lr cq0 cq1 cq2 cq3 lq
  clear hN0
  apply Reg.RC_pure (hc := rfl) (hst := rfl) (hw := rfl) (t := 50) (hd := rfl) (ht := Nat.le_of_ble_eq_true rfl)
  · intro D v' W' hc hj hf K hK
    obtain ⟨j0, jk, jn, b_t, b_i, b_r, b_q, b_v8, b_v9⟩ := hj
    have b_r := b_r.1 (hc.2 2 (by decide))
    have c0 : W'.cell? ⟨w.heap.size + 1 + 1, 0, none⟩ = some (.bool xf1) := b_r.c 0 rfl
    have c1 : W'.cell? ⟨w.heap.size + 1 + 1, 1, none⟩ = some (.slice xf2 xf3 xf4) := b_r.c 1 rfl
    have c2 : W'.cell? ⟨w.heap.size + 1 + 1, 2, none⟩ = some (.bool xf5) := b_r.c 2 rfl
    have c3 : W'.cell? ⟨w.heap.size + 1 + 1, 3, none⟩ = some (.slice xf6 xf7 xf8) := b_r.c 3 rfl
    go_step
    exact hK.out
  · rfl
  apply Reg.RC_pure (hc := rfl) (hst := rfl) (hw := rfl) (t := 51) (hd := rfl) (ht := Nat.le_of_ble_eq_true rfl)
  · intro D v' W' hc hj hf K hK
    obtain ⟨j0, jk, jn, b_t, b_i, b_r, b_q, b_v8, b_v9⟩ := hj
    have b_q := b_q.1 (hc.2 3 (by decide))
    have c0 : W'.cell? ⟨w.heap.size + 1 + 1 + 1, 0, none⟩ = some (.bool xj1) := b_q.c 0 rfl
    have c1 : W'.cell? ⟨w.heap.size + 1 + 1 + 1, 1, none⟩ = some (.slice xj2 xj3 xj4) := b_q.c 1 rfl
    have c2 : W'.cell? ⟨w.heap.size + 1 + 1 + 1, 2, none⟩ = some (.bool xj5) := b_q.c 2 rfl
    have c3 : W'.cell? ⟨w.heap.size + 1 + 1 + 1, 3, none⟩ = some (.slice xj6 xj7 xj8) := b_q.c 3 rfl
    go_step
    exact hK.out
  · rfl
  refine Reg.RC_call rfl (by intro t ht; cases ht) rfl (fun D v' W' hc hj hf K hK => ?_) (fun _ _ => Reg.RC_at (b := ⟨_, _⟩) rfl ?_)
  · obtain ⟨j0, jk, jn, b_t, b_i, b_r, b_q, b_v8, b_v9⟩ := hj
    have hb := b_r.1 hc.1
    have e2 : w.heap.size ≤ w.heap.size + 1 + 1 := by omega
    have ff := hb.fr
    have cc0 : W'.cell? ⟨w.heap.size + 1 + 1, 0, none⟩ = some (.bool xf1) := hb.c 0 rfl
    have cc1 : W'.cell? ⟨w.heap.size + 1 + 1, 1, none⟩ = some (.slice xf2 xf3 xf4) := hb.c 1 rfl
    have cc2 : W'.cell? ⟨w.heap.size + 1 + 1, 2, none⟩ = some (.bool xf5) := hb.c 2 rfl
    have cc3 : W'.cell? ⟨w.heap.size + 1 + 1, 3, none⟩ = some (.slice xf6 xf7 xf8) := hb.c 3 rfl
    go_step
    exact hK.out undef _ (keeps4 hb rfl) ⟨(below4 j0 (by show w.heap.size ≤ w.heap.size + 1 + 1; omega)), jk.trans (keeps4 hb rfl), by simpa using jn, (b_t).far4 (show w.heap.size ≠ w.heap.size + 1 + 1 by omega), (b_i).far4 (show w.heap.size + 1 ≠ w.heap.size + 1 + 1 by omega), ⟨fun h => Bool.noConfusion h, fun _ => (Blk.set2 (cs' := #[.bool xf1, .slice xf2 xf3 xf4, .bool xf5, .slice xf6 xf7 xf8]) (Blk.set2 (cs' := #[.bool xf1, .slice xf2 xf3 xf4, .bool xf5, .slice xf6 xf7 xf8]) (Blk.set2 (cs' := #[.bool xf1, .slice xf2 xf3 xf4, .bool xf5, .slice xf6 xf7 xf8]) (Blk.set2 (cs' := #[.bool xf1, .slice xf2 xf3 xf4, .bool xf5, .slice xf6 xf7 xf8]) hb (i := 0) rfl) (i := 1) rfl) (i := 2) rfl) (i := 3) rfl)⟩, ⟨fun h => (b_q.1 h).far4 (show w.heap.size + 1 + 1 + 1 ≠ w.heap.size + 1 + 1 by omega), fun h => (b_q.2 h).far4 (show w.heap.size + 1 + 1 + 1 ≠ w.heap.size + 1 + 1 by omega)⟩, (b_v8).far4 (show p8 ≠ w.heap.size + 1 + 1 by omega), (b_v9).far4 (show p9 ≠ w.heap.size + 1 + 1 by omega)⟩ trivial trivial
  refine Reg.RC_call rfl (by intro t ht; cases ht) rfl (fun D v' W' hc hj hf K hK => ?_) (fun _ _ => Reg.RC_at (b := ⟨_, _⟩) rfl ?_)
  · obtain ⟨j0, jk, jn, b_t, b_i, b_r, b_q, b_v8, b_v9⟩ := hj
    have hb := b_q.1 hc.1
    have e2 : w.heap.size ≤ w.heap.size + 1 + 1 + 1 := by omega
    have ff := hb.fr
    have cc0 : W'.cell? ⟨w.heap.size + 1 + 1 + 1, 0, none⟩ = some (.bool xj1) := hb.c 0 rfl
    have cc1 : W'.cell? ⟨w.heap.size + 1 + 1 + 1, 1, none⟩ = some (.slice xj2 xj3 xj4) := hb.c 1 rfl
    have cc2 : W'.cell? ⟨w.heap.size + 1 + 1 + 1, 2, none⟩ = some (.bool xj5) := hb.c 2 rfl
    have cc3 : W'.cell? ⟨w.heap.size + 1 + 1 + 1, 3, none⟩ = some (.slice xj6 xj7 xj8) := hb.c 3 rfl
    go_step
    exact hK.out undef _ (keeps4 hb rfl) ⟨(below4 j0 (by show w.heap.size ≤ w.heap.size + 1 + 1 + 1; omega)), jk.trans (keeps4 hb rfl), by simpa using jn, (b_t).far4 (show w.heap.size ≠ w.heap.size + 1 + 1 + 1 by omega), (b_i).far4 (show w.heap.size + 1 ≠ w.heap.size + 1 + 1 + 1 by omega), ⟨fun h => (b_r.1 h).far4 (show w.heap.size + 1 + 1 ≠ w.heap.size + 1 + 1 + 1 by omega), fun h => (b_r.2 h).far4 (show w.heap.size + 1 + 1 ≠ w.heap.size + 1 + 1 + 1 by omega)⟩, ⟨fun h => Bool.noConfusion h, fun _ => (Blk.set2 (cs' := #[.bool xj1, .slice xj2 xj3 xj4, .bool xj5, .slice xj6 xj7 xj8]) (Blk.set2 (cs' := #[.bool xj1, .slice xj2 xj3 xj4, .bool xj5, .slice xj6 xj7 xj8]) (Blk.set2 (cs' := #[.bool xj1, .slice xj2 xj3 xj4, .bool xj5, .slice xj6 xj7 xj8]) (Blk.set2 (cs' := #[.bool xj1, .slice xj2 xj3 xj4, .bool xj5, .slice xj6 xj7 xj8]) hb (i := 0) rfl) (i := 1) rfl) (i := 2) rfl) (i := 3) rfl)⟩, (b_v8).far4 (show p8 ≠ w.heap.size + 1 + 1 + 1 by omega), (b_v9).far4 (show p9 ≠ w.heap.size + 1 + 1 + 1 by omega)⟩ trivial trivial
  refine Reg.RC_end (fun Dn v' w4 hd hj hf => ?_)
  obtain ⟨j0, jk, jn, b_t, b_i, b_r, b_q, b_v8, b_v9⟩ := hj
  have B := j0
  have ot := b_t
  clear b_t
  have oi := b_i
  clear b_i
  have or := b_r.2 (hd 2 (Nat.le_of_ble_eq_true rfl))
  clear b_r
  have oq := b_q.2 (hd 3 (Nat.le_of_ble_eq_true rfl))
  clear b_q
  have ov8 := b_v8
  clear b_v8
  have ov9 := b_v9
  clear b_v9
  replace F0 := Hid.mk_ (F0.out.keeps jk)
  replace F1 := Hid.mk_ (F1.out.keeps jk)
  replace F2 := Hid.mk_ (F2.out.keeps jk)
  replace F3 := Hid.mk_ (F3.out.keeps jk)
  replace Fxa := Hid.mk_ (Fxa.out.keeps jk)
  replace Fxb := Hid.mk_ (Fxb.out.keeps jk)
  replace Fxf := Hid.mk_ (Fxf.out.keeps jk)
  replace Fxj := Hid.mk_ (Fxj.out.keeps jk)
  clear hd hf jk j0
  refine hQ _ _ ?_
  clear hQ hops Q' ops'
  have lt := ot.lt
  have li := oi.lt
  have cr0 := or.q0
  have cr1 := or.q1
  have cr2 := or.q2
  have cr3 := or.q3
  have lr := or.lt
  have cq0 := oq.q0
  have cq1 := oq.q1
  have cq2 := oq.q2
  have cq3 := oq.q3
  have lq := oq.lt
  go_wp2_with fail
  refine bodyPost_ret (by simp [results, Tryz.results42, go_sem, lt, li, cr0, cr1, cr2, cr3, lr, cq0, cq1, cq2, cq3, lq]; rfl) rfl ?_
  exact ⟨_, _, rfl, Fxf.out.keeps keepsB, Fxj.out.keeps keepsB, belowB⟩
set_option maxHeartbeats 6400000 in
set_option maxRecDepth 1000000 in
theorem rapply {ka1 ka5 kb1 kb5 kc1 kc5 kd1 kd5 : Bool} {ka2 ka6 kb2 kb6 kc2 kc6 kd2 kd6 : Option Addr} {ka3 ka4 ka7 ka8 kb3 kb4 kb7 kb8 kc3 kc4 kc7 kc8 kd3 kd4 kd7 kd8 : Nat} {t : Nat → Rat} (px py : Int) (w : World) (h0 : FR w (.agg #[.bool ka1, .slice ka2 ka3 ka4, .bool ka5, .slice ka6 ka7 ka8]) (t 0)) (h1 : FR w (.agg #[.bool kb1, .slice kb2 kb3 kb4, .bool kb5, .slice kb6 kb7 kb8]) (t 1)) (h2 : FR w (.agg #[.bool kc1, .slice kc2 kc3 kc4, .bool kc5, .slice kc6 kc7 kc8]) (t 2)) (h3 : FR w (.agg #[.bool kd1, .slice kd2 kd3 kd4, .bool kd5, .slice kd6 kd7 kd8]) (t 3)) (s0 : sz (t 0) 64) (s1 : sz (t 1) 64) (s2 : sz (t 2) 64) (s3 : sz (t 3) 64) (hp : -1048576 ≤ px ∧ px ≤ 1048576) (hq : -1048576 ≤ py ∧ py ≤ 1048576) :
    Calls Tryz.prog 43 #[.agg #[.bool ka1, .slice ka2 ka3 ka4, .bool ka5, .slice ka6 ka7 ka8, .bool kb1, .slice kb2 kb3 kb4, .bool kb5, .slice kb6 kb7 kb8, .bool kc1, .slice kc2 kc3 kc4, .bool kc5, .slice kc6 kc7 kc8, .bool kd1, .slice kd2 kd3 kd4, .bool kd5, .slice kd6 kd7 kd8], .agg #[.int .i64 px, .int .i64 py]] w fun e w' => ∃ u v, e = .returned (.tuple #[u, v]) ∧ FR w' u (apX t (px, py)) ∧ FR w' v (apY t (px, py)) ∧ Steps w w' := by
  have sx : sz (px : Rat) 2 := sz_coord hp
  have sy : sz (py : Rat) 2 := sz_coord hq
  have ofx : ∀ w', Calls Tryz.prog 47 #[.int .i64 px] w' fun e w2 => ∃ v, e = .returned v ∧ FR w2 v (px : Rat) ∧ Steps w' w2 := fun w' => rwhole px w' (by omega) (by omega)
  have ofy : ∀ w', Calls Tryz.prog 47 #[.int .i64 py] w' fun e w2 => ∃ v, e = .returned v ∧ FR w2 v (py : Rat) ∧ Steps w' w2 := fun w' => rwhole py w' (by omega) (by omega)
  have e1 : apX t (px, py) = t 0 * (px : Rat) - t 1 * (py : Rat) + t 2 := rfl
  have e2 : apY t (px, py) = t 1 * (px : Rat) + t 0 * (py : Rat) + t 3 := rfl
  rw [e1, e2]
  clear e1 e2 hp hq
  generalize (px : Rat) = x at *
  generalize (py : Rat) = y at *
  have F0 := Hid.mk_ h0
  have F1 := Hid.mk_ h1
  have F2 := Hid.mk_ h2
  have F3 := Hid.mk_ h3
  clear h0 h1 h2 h3
  generalize t 0 = p at *
  generalize t 1 = q at *
  generalize t 2 = r at *
  generalize t 3 = s at *
  go_enter Tryz.func43, Tryz.ntmps43
  go_upto_region 1 with fail
  refine Reg.wp_chain_n (fun N0 D v W => Below w.heap.size w W ∧ Keeps w W ∧ N0 ≤ W.heap.size ∧ Blk W (w.heap.size) 30 #[.bool ka1, .slice ka2 ka3 ka4, .bool ka5, .slice ka6 ka7 ka8, .bool kb1, .slice kb2 kb3 kb4, .bool kb5, .slice kb6 kb7 kb8, .bool kc1, .slice kc2 kc3 kc4, .bool kc5, .slice kc6 kc7 kc8, .bool kd1, .slice kd2 kd3 kd4, .bool kd5, .slice kd6 kd7 kd8] ∧ Blk W (w.heap.size + 1) 23 #[.int .i64 px, .int .i64 py] ∧ Blk W (w.heap.size + 1 + 1) 28 #[.bool false, .slice none 0 0, .bool false, .slice none 0 0] ∧ Blk W (w.heap.size + 1 + 1 + 1) 28 #[.bool false, .slice none 0 0, .bool false, .slice none 0 0] ∧ (D 6 = true → ∃ g : Nat, v 6 = .pointer (some ⟨g, 0, none⟩) ∧ N0 ≤ g ∧ g < W.heap.size ∧ (D 8 = false → Blk W g 28 #[.bool false, .slice none 0 0, .bool false, .slice none 0 0]) ∧ (D 8 = true → D 2 = true ∧ ∃ cs, v 2 = .agg cs ∧ Blk W g 28 cs)) ∧ (D 7 = true → ∃ g : Nat, v 7 = .pointer (some ⟨g, 0, none⟩) ∧ N0 ≤ g ∧ g < W.heap.size ∧ (D 9 = false → Blk W g 28 #[.bool false, .slice none 0 0, .bool false, .slice none 0 0]) ∧ (D 9 = true → D 5 = true ∧ ∃ cs, v 5 = .agg cs ∧ Blk W g 28 cs)) ∧ (D 6 = true → D 7 = true → v 6 ≠ v 7))
    (Reg.inl [2, 5, 6, 7, 8, 9]) (Reg.gv [(2, IsFr), (5, IsFr), (6, IsPtr), (7, IsPtr)]) (gw [(2, GFr (x)), (5, GFr (y))]) (fun _ => Keeps) (fun _ _ => False) (Reg.pl [(8, [(2, some 10), (6, some 6)]), (9, [(5, some 13), (7, some 7)]), (10, [(2, some 10), (5, some 13), (6, some 6), (7, some 7)])]) (Reg.pl [(6, [8]), (2, [8]), (7, [9]), (5, [9])])
    (by kernel_rfl) (by kernel_rfl) (by kernel_rfl) (Reg.gv_some _ (by intro p hp; simp only [List.mem_cons, List.not_mem_nil, or_false] at hp; rcases hp with rfl | rfl | rfl | rfl <;> first | exact ⟨_, rfl⟩ | exact ⟨_, 0, rfl⟩ | exact ⟨_, none, 0, 0, rfl⟩ | exact ⟨_, false, none, 0, 0, rfl⟩ | exact ⟨_, false, none, 0, 0, false, none, 0, 0, rfl⟩)) (fun N0 hN0 => ⟨fun v => ?_, fun D v v' W hv hj => ?_, fun D v k j W W' x _ _ _ _ hk hg => gw_keeps _ (by intro p hp; simp only [List.mem_cons, List.not_mem_nil, or_false] at hp; rcases hp with rfl | rfl <;> first | exact GFr.keeps | exact GFrE.keeps | exact GNu.keeps | exact GNuE.keeps | exact GLi.keeps) hk hg, fun _ _ _ _ h => h.elim, fun ops' Q' hops hQ => ?_⟩)
  · exact ⟨belowB, keepsB, by first | with_reducible exact Nat.le_of_eq hN0.out | (simp only [World.size_drew]; with_reducible exact Nat.le_of_eq hN0.out), ownK, ownK, ownK, ownK, (fun h => Bool.noConfusion h), (fun h => Bool.noConfusion h), (fun h => Bool.noConfusion h)⟩
  · obtain ⟨j0, jk, jn, b_t, b_i, b_r, b_q, a_6, a_7, q_6_7⟩ := hj
    exact ⟨j0, jk, jn, b_t, b_i, b_r, b_q, fun h => by obtain ⟨g, e1, e2, e3, e4, e5⟩ := a_6 h; exact ⟨g, (hv 6 h) ▸ e1, e2, e3, e4, fun h => by obtain ⟨d, cs, e, hb⟩ := e5 h; exact ⟨d, cs, (hv 2 d) ▸ e, hb⟩⟩, fun h => by obtain ⟨g, e1, e2, e3, e4, e5⟩ := a_7 h; exact ⟨g, (hv 7 h) ▸ e1, e2, e3, e4, fun h => by obtain ⟨d, cs, e, hb⟩ := e5 h; exact ⟨d, cs, (hv 5 d) ▸ e, hb⟩⟩, fun h h' => (hv 6 h) ▸ (hv 7 h') ▸ q_6_7 h h'⟩
  have i_t : w.heap.size < N0 := by have e := hN0.out; (try simp only [World.size_alloc, World.size_setCell, World.size_drew, World.heap_drewN] at e); first | omega | (have h := ot.lt; omega)
  have i_i : w.heap.size + 1 < N0 := by have e := hN0.out; (try simp only [World.size_alloc, World.size_setCell, World.size_drew, World.heap_drewN] at e); first | omega | (have h := oi.lt; omega)
  have i_r : w.heap.size + 1 + 1 < N0 := by have e := hN0.out; (try simp only [World.size_alloc, World.size_setCell, World.size_drew, World.heap_drewN] at e); first | omega | (have h := or.lt; omega)
  have i_q : w.heap.size + 1 + 1 + 1 < N0 := by have e := hN0.out; (try simp only [World.size_alloc, World.size_setCell, World.size_drew, World.heap_drewN] at e); first | omega | (have h := oq.lt; omega)
  have iw : w.heap.size ≤ N0 := by have e := hN0.out; (try simp only [World.size_alloc, World.size_setCell, World.size_drew, World.heap_drewN] at e); first | omega | (have h := B.size; omega)
  clear hN0
  apply Reg.RC_pure (hc := rfl) (hst := rfl) (hw := rfl) (t := 8) (hd := rfl) (ht := Nat.le_of_ble_eq_true rfl)
  · intro D v' W' hc hj hf K hK
    go_step
    exact hK.out
  · rfl
  apply Reg.RC_pure (hc := rfl) (hst := rfl) (hw := rfl) (t := 9) (hd := rfl) (ht := Nat.le_of_ble_eq_true rfl)
  · intro D v' W' hc hj hf K hK
    obtain ⟨j0, jk, jn, b_t, b_i, b_r, b_q, a_6, a_7, q_6_7⟩ := hj
    have c0 : W'.cell? ⟨w.heap.size + 1, 0, none⟩ = some (.int .i64 px) := b_i.c 0 rfl
    go_step
    exact hK.out
  · rfl
  refine Reg.RC_call rfl (by intro t ht; cases ht; exact Nat.le_of_ble_eq_true rfl) rfl (fun D v' W' hc hj hf K hK => ?_) ?_
  · obtain ⟨j0, jk, jn, b_t, b_i, b_r, b_q, a_6, a_7, q_6_7⟩ := hj
    clear hf
    go_step
    refine (ofx W').mono ?_
    rintro e W2 ⟨u, rfl, hu, hs⟩
    obtain ⟨xa1, xa2, xa3, xa4, xa5, xa6, xa7, xa8, rfl⟩ := hu.shape
    exact hK.out _ W2 (Keeps.steps hs) ⟨below_steps j0 (Nat.le_refl _) hs, jk.then_ hs, Nat.le_trans jn hs.size, b_t.steps hs, b_i.steps hs, b_r.steps hs, b_q.steps hs, fun h => by obtain ⟨g, e1, e2, e3, e4, e5⟩ := a_6 h; exact ⟨g, e1, e2, Nat.lt_of_lt_of_le e3 (hs).size, fun h => (e4 h).steps hs, fun h => Bool.noConfusion ((hc.2 8 (by decide)).symm.trans h)⟩, fun h => by obtain ⟨g, e1, e2, e3, e4, e5⟩ := a_7 h; exact ⟨g, e1, e2, Nat.lt_of_lt_of_le e3 (hs).size, fun h => (e4 h).steps hs, fun h => by obtain ⟨d, cs, e, hb⟩ := e5 h; exact ⟨d, cs, e, hb.steps hs⟩⟩, q_6_7⟩ hu ⟨_, _, _, _, _, _, _, _, rfl⟩
  rintro _ ⟨xa1, xa2, xa3, xa4, xa5, xa6, xa7, xa8, rfl⟩
  refine Reg.RC_at (b := ⟨#[_,_,_,_,_,_,_,_,_,_,_,_,_,_,_,_,_,_,_,_,_,_,_,_,_,_,_,_,_,_,_,_,_,_,_,_,_,_], _⟩) rfl ?_
  apply Reg.RC_pure (hc := rfl) (hst := rfl) (hw := rfl) (t := 11) (hd := rfl) (ht := Nat.le_of_ble_eq_true rfl)
  · intro D v' W' hc hj hf K hK
    go_step
    exact hK.out
  · rfl
  apply Reg.RC_pure (hc := rfl) (hst := rfl) (hw := rfl) (t := 12) (hd := rfl) (ht := Nat.le_of_ble_eq_true rfl)
  · intro D v' W' hc hj hf K hK
    obtain ⟨j0, jk, jn, b_t, b_i, b_r, b_q, a_6, a_7, q_6_7⟩ := hj
    have c1 : W'.cell? ⟨w.heap.size + 1, 1, none⟩ = some (.int .i64 py) := b_i.c 1 rfl
    go_step
    exact hK.out
  · rfl
  refine Reg.RC_call rfl (by intro t ht; cases ht; exact Nat.le_of_ble_eq_true rfl) rfl (fun D v' W' hc hj hf K hK => ?_) ?_
  · obtain ⟨j0, jk, jn, b_t, b_i, b_r, b_q, a_6, a_7, q_6_7⟩ := hj
    clear hf
    go_step
    refine (ofy W').mono ?_
    rintro e W2 ⟨u, rfl, hu, hs⟩
    obtain ⟨xb1, xb2, xb3, xb4, xb5, xb6, xb7, xb8, rfl⟩ := hu.shape
    exact hK.out _ W2 (Keeps.steps hs) ⟨below_steps j0 (Nat.le_refl _) hs, jk.then_ hs, Nat.le_trans jn hs.size, b_t.steps hs, b_i.steps hs, b_r.steps hs, b_q.steps hs, fun h => by obtain ⟨g, e1, e2, e3, e4, e5⟩ := a_6 h; exact ⟨g, e1, e2, Nat.lt_of_lt_of_le e3 (hs).size, fun h => (e4 h).steps hs, fun h => by obtain ⟨d, cs, e, hb⟩ := e5 h; exact ⟨d, cs, e, hb.steps hs⟩⟩, fun h => by obtain ⟨g, e1, e2, e3, e4, e5⟩ := a_7 h; exact ⟨g, e1, e2, Nat.lt_of_lt_of_le e3 (hs).size, fun h => (e4 h).steps hs, fun h => Bool.noConfusion ((hc.2 9 (by decide)).symm.trans h)⟩, q_6_7⟩ hu ⟨_, _, _, _, _, _, _, _, rfl⟩
  rintro _ ⟨xb1, xb2, xb3, xb4, xb5, xb6, xb7, xb8, rfl⟩
  refine Reg.RC_at (b := ⟨#[_,_,_,_,_,_,_,_,_,_,_,_,_,_,_,_,_,_,_,_,_,_,_,_,_,_,_,_,_,_,_,_,_,_,_,_,_,_], _⟩) rfl ?_
  refine Reg.RC_call rfl (by intro t ht; cases ht; exact Nat.le_of_ble_eq_true rfl) rfl (fun D v' W' hc hj hf K hK => ?_) ?_
  · obtain ⟨j0, jk, jn, b_t, b_i, b_r, b_q, a_6, a_7, q_6_7⟩ := hj
    go_step
    have hs : ∀ o : Obj, Steps W' (W'.alloc o) := fun o => (Below.refl _ _).alloc (Nat.le_refl _) o
    exact hK.out _ _ (Keeps.steps (hs _)) ⟨below_steps j0 (Nat.le_refl _) (hs _), jk.then_ (hs _), Nat.le_trans jn (hs _).size, b_t.steps (hs _), b_i.steps (hs _), b_r.steps (hs _), b_q.steps (hs _), fun _ => ⟨W'.heap.size, rfl, jn, by rw [World.size_alloc]; omega, fun _ => Blk.new _ _ _, fun h => Bool.noConfusion ((hc.2 8 (by decide)).symm.trans h)⟩, fun h => by obtain ⟨g, e1, e2, e3, e4, e5⟩ := a_7 h; exact ⟨g, e1, e2, Nat.lt_of_lt_of_le e3 ((hs _)).size, fun h => (e4 h).steps (hs _), fun h => by obtain ⟨d, cs, e, hb⟩ := e5 h; exact ⟨d, cs, e, hb.steps (hs _)⟩⟩, fun _ h' => by obtain ⟨g, e1, e2, e3, e4, e5⟩ := a_7 h'; exact fun e => Reg.ptr_ne e3 (e.trans e1)⟩ trivial ⟨_, rfl⟩
  rintro _ ⟨p6, rfl⟩
  refine Reg.RC_at (b := ⟨#[_,_,_,_,_,_,_,_,_,_,_,_,_,_,_,_,_,_,_,_,_,_,_,_,_,_,_,_,_,_,_,_,_,_,_,_,_,_], _⟩) rfl ?_
  refine Reg.RC_call rfl (by intro t ht; cases ht; exact Nat.le_of_ble_eq_true rfl) rfl (fun D v' W' hc hj hf K hK => ?_) ?_
  · obtain ⟨j0, jk, jn, b_t, b_i, b_r, b_q, a_6, a_7, q_6_7⟩ := hj
    go_step
    have hs : ∀ o : Obj, Steps W' (W'.alloc o) := fun o => (Below.refl _ _).alloc (Nat.le_refl _) o
    exact hK.out _ _ (Keeps.steps (hs _)) ⟨below_steps j0 (Nat.le_refl _) (hs _), jk.then_ (hs _), Nat.le_trans jn (hs _).size, b_t.steps (hs _), b_i.steps (hs _), b_r.steps (hs _), b_q.steps (hs _), fun h => by obtain ⟨g, e1, e2, e3, e4, e5⟩ := a_6 h; exact ⟨g, e1, e2, Nat.lt_of_lt_of_le e3 ((hs _)).size, fun h => (e4 h).steps (hs _), fun h => by obtain ⟨d, cs, e, hb⟩ := e5 h; exact ⟨d, cs, e, hb.steps (hs _)⟩⟩, fun _ => ⟨W'.heap.size, rfl, jn, by rw [World.size_alloc]; omega, fun _ => Blk.new _ _ _, fun h => Bool.noConfusion ((hc.2 9 (by decide)).symm.trans h)⟩, fun h _ => by obtain ⟨g, e1, e2, e3, e4, e5⟩ := a_6 h; exact fun e => Reg.ptr_ne e3 (e.symm.trans e1)⟩ trivial ⟨_, rfl⟩
  rintro _ ⟨p7, rfl⟩
  refine Reg.RC_at (b := ⟨#[_,_,_,_,_,_,_,_,_,_,_,_,_,_,_,_,_,_,_,_,_,_,_,_,_,_,_,_,_,_,_,_,_,_,_,_,_,_], _⟩) rfl ?_
  refine Reg.RC_call rfl (by intro t ht; cases ht) rfl (fun D v' W' hc hj hf K hK => ?_) (fun _ _ => Reg.RC_at (b := ⟨_, _⟩) rfl ?_)
  · obtain ⟨j0, jk, jn, b_t, b_i, b_r, b_q, a_6, a_7, q_6_7⟩ := hj
    have f := hf (6, some 6) (.tail _ (.head _)) rfl
    have e6 : v' 6 = .pointer (some ⟨p6, 0, none⟩) := f.2.1
    obtain ⟨g, e1, e2, e3, e4, e5⟩ := a_6 f.1
    obtain rfl : p6 = g := Reg.ptr_eq (e6.symm.trans e1)
    have hb := e4 hc.1
    clear e4 e5
    have fc := hf (2, some 10) (.head _) rfl
    have ec : v' 2 = .agg #[.bool xa1, .slice xa2 xa3 xa4, .bool xa5, .slice xa6 xa7 xa8] := fc.2.1
    have ff := hb.fr
    have cc0 : W'.cell? ⟨p6, 0, none⟩ = some (.bool false) := hb.c 0 rfl
    have cc1 : W'.cell? ⟨p6, 1, none⟩ = some (.slice none 0 0) := hb.c 1 rfl
    have cc2 : W'.cell? ⟨p6, 2, none⟩ = some (.bool false) := hb.c 2 rfl
    have cc3 : W'.cell? ⟨p6, 3, none⟩ = some (.slice none 0 0) := hb.c 3 rfl
    go_step
    exact hK.out undef _ (keeps4 hb rfl) ⟨(below4 j0 (by show w.heap.size ≤ p6; omega)), jk.trans (keeps4 hb rfl), by simpa using jn, (b_t).far4 (show w.heap.size ≠ p6 by omega), (b_i).far4 (show w.heap.size + 1 ≠ p6 by omega), (b_r).far4 (show w.heap.size + 1 + 1 ≠ p6 by omega), (b_q).far4 (show w.heap.size + 1 + 1 + 1 ≠ p6 by omega), fun _ => ⟨p6, e1, e2, by simpa using e3, fun h => Bool.noConfusion h, fun _ => ⟨fc.1, _, ec, (Blk.set2 (cs' := #[.bool xa1, .slice xa2 xa3 xa4, .bool xa5, .slice xa6 xa7 xa8]) (Blk.set2 (cs' := #[.bool xa1, .slice xa2 xa3 xa4, .bool xa5, .slice none 0 0]) (Blk.set2 (cs' := #[.bool xa1, .slice xa2 xa3 xa4, .bool false, .slice none 0 0]) (Blk.set2 (cs' := #[.bool xa1, .slice none 0 0, .bool false, .slice none 0 0]) hb (i := 0) rfl) (i := 1) rfl) (i := 2) rfl) (i := 3) rfl)⟩⟩, fun h => by obtain ⟨g, k1, k2, k3, k4, k5⟩ := a_7 h; have hne : g ≠ p6 := fun e => (q_6_7 f.1 h) (by rw [e6, k1, e]); exact ⟨g, k1, k2, by simpa using k3, fun h => (k4 h).far4 hne, fun h => by obtain ⟨d, cs, e, hb2⟩ := k5 h; exact ⟨d, cs, e, (hb2).far4 hne⟩⟩, q_6_7⟩ trivial trivial
  refine Reg.RC_call rfl (by intro t ht; cases ht) rfl (fun D v' W' hc hj hf K hK => ?_) (fun _ _ => Reg.RC_at (b := ⟨_, _⟩) rfl ?_)
  · obtain ⟨j0, jk, jn, b_t, b_i, b_r, b_q, a_6, a_7, q_6_7⟩ := hj
    have f := hf (7, some 7) (.tail _ (.head _)) rfl
    have e6 : v' 7 = .pointer (some ⟨p7, 0, none⟩) := f.2.1
    obtain ⟨g, e1, e2, e3, e4, e5⟩ := a_7 f.1
    obtain rfl : p7 = g := Reg.ptr_eq (e6.symm.trans e1)
    have hb := e4 hc.1
    clear e4 e5
    have fc := hf (5, some 13) (.head _) rfl
    have ec : v' 5 = .agg #[.bool xb1, .slice xb2 xb3 xb4, .bool xb5, .slice xb6 xb7 xb8] := fc.2.1
    have ff := hb.fr
    have cc0 : W'.cell? ⟨p7, 0, none⟩ = some (.bool false) := hb.c 0 rfl
    have cc1 : W'.cell? ⟨p7, 1, none⟩ = some (.slice none 0 0) := hb.c 1 rfl
    have cc2 : W'.cell? ⟨p7, 2, none⟩ = some (.bool false) := hb.c 2 rfl
    have cc3 : W'.cell? ⟨p7, 3, none⟩ = some (.slice none 0 0) := hb.c 3 rfl
    go_step
    exact hK.out undef _ (keeps4 hb rfl) ⟨(below4 j0 (by show w.heap.size ≤ p7; omega)), jk.trans (keeps4 hb rfl), by simpa using jn, (b_t).far4 (show w.heap.size ≠ p7 by omega), (b_i).far4 (show w.heap.size + 1 ≠ p7 by omega), (b_r).far4 (show w.heap.size + 1 + 1 ≠ p7 by omega), (b_q).far4 (show w.heap.size + 1 + 1 + 1 ≠ p7 by omega), fun h => by obtain ⟨g, k1, k2, k3, k4, k5⟩ := a_6 h; have hne : g ≠ p7 := fun e => (q_6_7 h f.1) (by rw [e6, k1, e]); exact ⟨g, k1, k2, by simpa using k3, fun h => (k4 h).far4 hne, fun h => by obtain ⟨d, cs, e, hb2⟩ := k5 h; exact ⟨d, cs, e, (hb2).far4 hne⟩⟩, fun _ => ⟨p7, e1, e2, by simpa using e3, fun h => Bool.noConfusion h, fun _ => ⟨fc.1, _, ec, (Blk.set2 (cs' := #[.bool xb1, .slice xb2 xb3 xb4, .bool xb5, .slice xb6 xb7 xb8]) (Blk.set2 (cs' := #[.bool xb1, .slice xb2 xb3 xb4, .bool xb5, .slice none 0 0]) (Blk.set2 (cs' := #[.bool xb1, .slice xb2 xb3 xb4, .bool false, .slice none 0 0]) (Blk.set2 (cs' := #[.bool xb1, .slice none 0 0, .bool false, .slice none 0 0]) hb (i := 0) rfl) (i := 1) rfl) (i := 2) rfl) (i := 3) rfl)⟩⟩, q_6_7⟩ trivial trivial
  refine Reg.RC_end (fun Dn v' w1 hd hj hf => ?_)
  obtain ⟨j0, jk, jn, b_t, b_i, b_r, b_q, a_6, a_7, q_6_7⟩ := hj
  have B := j0
  have ot := b_t
  clear b_t
  have oi := b_i
  clear b_i
  have or := b_r
  clear b_r
  have oq := b_q
  clear b_q
  have f := hf (6, some 6) (.tail _ (.tail _ (.head _))) rfl
  have e6_ : v' 6 = .pointer (some ⟨p6, 0, none⟩) := f.2.1
  obtain ⟨g, e1_, zv6, -, -, e5_⟩ := a_6 f.1
  obtain rfl : p6 = g := Reg.ptr_eq (e6_.symm.trans e1_)
  obtain ⟨-, cs_, ee, ov6⟩ := e5_ (hd 8 (Nat.le_of_ble_eq_true rfl))
  have ef : v' 2 = .agg #[.bool xa1, .slice xa2 xa3 xa4, .bool xa5, .slice xa6 xa7 xa8] := (hf (2, some 10) (.head _) rfl).2.1
  obtain rfl : #[.bool xa1, .slice xa2 xa3 xa4, .bool xa5, .slice xa6 xa7 xa8] = cs_ := by have := ef.symm.trans ee; simpa only [Value.tuple.injEq, Value.agg.injEq, Array.mk.injEq, List.cons.injEq, and_true, true_and] using this
  clear ee ef f e5_ e1_ e6_
  have f := hf (7, some 7) (.tail _ (.tail _ (.tail _ (.head _)))) rfl
  have e6_ : v' 7 = .pointer (some ⟨p7, 0, none⟩) := f.2.1
  obtain ⟨g, e1_, zv7, -, -, e5_⟩ := a_7 f.1
  obtain rfl : p7 = g := Reg.ptr_eq (e6_.symm.trans e1_)
  obtain ⟨-, cs_, ee, ov7⟩ := e5_ (hd 9 (Nat.le_of_ble_eq_true rfl))
  have ef : v' 5 = .agg #[.bool xb1, .slice xb2 xb3 xb4, .bool xb5, .slice xb6 xb7 xb8] := (hf (5, some 13) (.tail _ (.head _)) rfl).2.1
  obtain rfl : #[.bool xb1, .slice xb2 xb3 xb4, .bool xb5, .slice xb6 xb7 xb8] = cs_ := by have := ef.symm.trans ee; simpa only [Value.tuple.injEq, Value.agg.injEq, Array.mk.injEq, List.cons.injEq, and_true, true_and] using this
  clear ee ef f e5_ e1_ e6_
  have y_6_7 : p6 ≠ p7 := fun e => q_6_7 (hf (6, some 6) (.tail _ (.tail _ (.head _))) rfl).1 (hf (7, some 7) (.tail _ (.tail _ (.tail _ (.head _)))) rfl).1 (by have h1 := (hf (6, some 6) (.tail _ (.tail _ (.head _))) rfl).2.1; have h2 := (hf (7, some 7) (.tail _ (.tail _ (.tail _ (.head _)))) rfl).2.1; rw [h1, h2]; show Value.pointer _ = .pointer _; rw [e])
  have Fxa : Hid (FR w1 (.agg #[.bool xa1, .slice xa2 xa3 xa4, .bool xa5, .slice xa6 xa7 xa8]) (x)) := (hf (2, some 10) (.head _) rfl).2.2
  have Fxb : Hid (FR w1 (.agg #[.bool xb1, .slice xb2 xb3 xb4, .bool xb5, .slice xb6 xb7 xb8]) (y)) := (hf (5, some 13) (.tail _ (.head _)) rfl).2.2
  replace F0 := Hid.mk_ (F0.out.keeps jk)
  replace F1 := Hid.mk_ (F1.out.keeps jk)
  replace F2 := Hid.mk_ (F2.out.keeps jk)
  replace F3 := Hid.mk_ (F3.out.keeps jk)
  clear hd hf jk j0 q_6_7
  refine hQ _ _ ?_
  clear hQ hops Q' ops'
  have ct0 := ot.q0
  have ct1 := ot.q1
  have ct2 := ot.q2
  have ct3 := ot.q3
  have ct4 := ot.q4
  have ct5 := ot.q5
  have ct6 := ot.q6
  have ct7 := ot.q7
  have ct8 := ot.q8
  have ct9 := ot.q9
  have ct10 := ot.q10
  have ct11 := ot.q11
  have ct12 := ot.q12
  have ct13 := ot.q13
  have ct14 := ot.q14
  have ct15 := ot.q15
  have lt := ot.lt
  have li := oi.lt
  have lr := or.lt
  have lq := oq.lt
  have cv60 := ov6.q0
  have cv61 := ov6.q1
  have cv62 := ov6.q2
  have cv63 := ov6.q3
  have lv6 := ov6.lt
  have cv70 := ov7.q0
  have cv71 := ov7.q1
  have cv72 := ov7.q2
  have cv73 := ov7.q3
  have lv7 := ov7.lt
  have zv7_1 : p7 < w1.heap.size := ov7.lt
  have zv6_1 : p6 < w1.heap.size := ov6.lt
  have zz1 := B.size
  go_upto_region 2 with fail
  refine Reg.wp_chain_n (fun N0 D v W => Below w.heap.size w W ∧ Keeps w1 W ∧ N0 ≤ W.heap.size ∧ Blk W (w.heap.size) 30 #[.bool ka1, .slice ka2 ka3 ka4, .bool ka5, .slice ka6 ka7 ka8, .bool kb1, .slice kb2 kb3 kb4, .bool kb5, .slice kb6 kb7 kb8, .bool kc1, .slice kc2 kc3 kc4, .bool kc5, .slice kc6 kc7 kc8, .bool kd1, .slice kd2 kd3 kd4, .bool kd5, .slice kd6 kd7 kd8] ∧ Blk W (w.heap.size + 1) 23 #[.int .i64 px, .int .i64 py] ∧ ((D 24 = false → Blk W (w.heap.size + 1 + 1) 28 #[.bool false, .slice none 0 0, .bool false, .slice none 0 0]) ∧ (D 24 = true → D 11 = true ∧ ∃ cs, v 11 = .agg cs ∧ Blk W (w.heap.size + 1 + 1) 28 cs)) ∧ ((D 25 = false → Blk W (w.heap.size + 1 + 1 + 1) 28 #[.bool false, .slice none 0 0, .bool false, .slice none 0 0]) ∧ (D 25 = true → D 23 = true ∧ ∃ cs, v 23 = .agg cs ∧ Blk W (w.heap.size + 1 + 1 + 1) 28 cs)) ∧ Blk W (p6) 28 #[.bool xa1, .slice xa2 xa3 xa4, .bool xa5, .slice xa6 xa7 xa8] ∧ Blk W (p7) 28 #[.bool xb1, .slice xb2 xb3 xb4, .bool xb5, .slice xb6 xb7 xb8])
    (Reg.inl [3, 7, 8, 11, 15, 19, 20, 23, 24, 25]) (Reg.gv [(3, IsFr), (7, IsFr), (8, IsFr), (11, IsFr), (15, IsFr), (19, IsFr), (20, IsFr), (23, IsFr)]) (gw [(3, GFr ((p * x))), (7, GFr ((q * y))), (8, GFr (((p * x) - (q * y)))), (11, GFr ((((p * x) - (q * y)) + r))), (15, GFr ((q * x))), (19, GFr ((p * y))), (20, GFr (((q * x) + (p * y)))), (23, GFr ((((q * x) + (p * y)) + s)))]) (fun _ => Keeps) (fun _ _ => False) (Reg.pl [(8, [(3, some 17), (7, some 21)]), (11, [(8, some 22)]), (20, [(15, some 29), (19, some 33)]), (23, [(20, some 34)]), (24, [(11, some 25)]), (25, [(23, some 37)]), (26, [(3, some 17), (7, some 21), (8, some 22), (11, some 25), (15, some 29), (19, some 33), (20, some 34), (23, some 37)])]) (Reg.pl [(11, [24]), (23, [25])])
    (by kernel_rfl) (by kernel_rfl) (by kernel_rfl) (Reg.gv_some _ (by intro p hp; simp only [List.mem_cons, List.not_mem_nil, or_false] at hp; rcases hp with rfl | rfl | rfl | rfl | rfl | rfl | rfl | rfl <;> first | exact ⟨_, rfl⟩ | exact ⟨_, 0, rfl⟩ | exact ⟨_, none, 0, 0, rfl⟩ | exact ⟨_, false, none, 0, 0, rfl⟩ | exact ⟨_, false, none, 0, 0, false, none, 0, 0, rfl⟩)) (fun N0 hN0 => ⟨fun v => ?_, fun D v v' W hv hj => ?_, fun D v k j W W' x _ _ _ _ hk hg => gw_keeps _ (by intro p hp; simp only [List.mem_cons, List.not_mem_nil, or_false] at hp; rcases hp with rfl | rfl | rfl | rfl | rfl | rfl | rfl | rfl <;> first | exact GFr.keeps | exact GFrE.keeps | exact GNu.keeps | exact GNuE.keeps | exact GLi.keeps) hk hg, fun _ _ _ _ h => h.elim, fun ops' Q' hops hQ => ?_⟩)
  · exact ⟨belowB, keepsB, by first | with_reducible exact Nat.le_of_eq hN0.out | (simp only [World.size_drew]; with_reducible exact Nat.le_of_eq hN0.out), ownK, ownK, ⟨fun _ => ownK, (fun h => Bool.noConfusion h)⟩, ⟨fun _ => ownK, (fun h => Bool.noConfusion h)⟩, ownK, ownK⟩
  · obtain ⟨j0, jk, jn, b_t, b_i, b_r, b_q, b_v6, b_v7⟩ := hj
    exact ⟨j0, jk, jn, b_t, b_i, ⟨b_r.1, fun h => by obtain ⟨d, cs, e, hb⟩ := b_r.2 h; exact ⟨d, cs, (hv 11 d) ▸ e, hb⟩⟩, ⟨b_q.1, fun h => by obtain ⟨d, cs, e, hb⟩ := b_q.2 h; exact ⟨d, cs, (hv 23 d) ▸ e, hb⟩⟩, b_v6, b_v7⟩
  have i_t : w.heap.size < N0 := by have e := hN0.out; (try simp only [World.size_alloc, World.size_setCell, World.size_drew, World.heap_drewN] at e); first | omega | (have h := ot.lt; omega)
  have i_i : w.heap.size + 1 < N0 := by have e := hN0.out; (try simp only [World.size_alloc, World.size_setCell, World.size_drew, World.heap_drewN] at e); first | omega | (have h := oi.lt; omega)
  have i_r : w.heap.size + 1 + 1 < N0 := by have e := hN0.out; (try simp only [World.size_alloc, World.size_setCell, World.size_drew, World.heap_drewN] at e); first | omega | (have h := or.lt; omega)
  have i_q : w.heap.size + 1 + 1 + 1 < N0 := by have e := hN0.out; (try simp only [World.size_alloc, World.size_setCell, World.size_drew, World.heap_drewN] at e); first | omega | (have h := oq.lt; omega)
  have i_v6 : p6 < N0 := by have e := hN0.out; (try simp only [World.size_alloc, World.size_setCell, World.size_drew, World.heap_drewN] at e); first | omega | (have h := ov6.lt; omega)
  have i_v7 : p7 < N0 := by have e := hN0.out; (try simp only [World.size_alloc, World.size_setCell, World.size_drew, World.heap_drewN] at e); first | omega | (have h := ov7.lt; omega)
  have iw : w.heap.size ≤ N0 := by have e := hN0.out; (try simp only [World.size_alloc, World.size_setCell, World.size_drew, World.heap_drewN] at e); first | omega | (have h := B.size; omega)
  clear ct0 ct1 ct2 ct3 ct4 ct5 ct6 ct7 ct8 ct9 ct10 ct11 ct12 ct13 ct14 ct15 lt li lr lq cv60 cv61 cv62 cv63 lv6 cv70 cv71 cv72 cv73 lv7
  clear hN0
  apply Reg.RC_pure (hc := rfl) (hst := rfl) (hw := rfl) (t := 14) (hd := rfl) (ht := Nat.le_of_ble_eq_true rfl)
  · intro D v' W' hc hj hf K hK
    go_step
    exact hK.out
  · rfl
  apply Reg.RC_pure (hc := rfl) (hst := rfl) (hw := rfl) (t := 15) (hd := rfl) (ht := Nat.le_of_ble_eq_true rfl)
  · intro D v' W' hc hj hf K hK
    obtain ⟨j0, jk, jn, b_t, b_i, b_r, b_q, b_v6, b_v7⟩ := hj
    have c0 : W'.cell? ⟨w.heap.size, 0, none⟩ = some (.bool ka1) := b_t.c 0 rfl
    have c1 : W'.cell? ⟨w.heap.size, 1, none⟩ = some (.slice ka2 ka3 ka4) := b_t.c 1 rfl
    have c2 : W'.cell? ⟨w.heap.size, 2, none⟩ = some (.bool ka5) := b_t.c 2 rfl
    have c3 : W'.cell? ⟨w.heap.size, 3, none⟩ = some (.slice ka6 ka7 ka8) := b_t.c 3 rfl
    go_step
    exact hK.out
  · rfl
  apply Reg.RC_pure (hc := rfl) (hst := rfl) (hw := rfl) (t := 16) (hd := rfl) (ht := Nat.le_of_ble_eq_true rfl)
  · intro D v' W' hc hj hf K hK
    obtain ⟨j0, jk, jn, b_t, b_i, b_r, b_q, b_v6, b_v7⟩ := hj
    have c0 : W'.cell? ⟨p6, 0, none⟩ = some (.bool xa1) := b_v6.c 0 rfl
    have c1 : W'.cell? ⟨p6, 1, none⟩ = some (.slice xa2 xa3 xa4) := b_v6.c 1 rfl
    have c2 : W'.cell? ⟨p6, 2, none⟩ = some (.bool xa5) := b_v6.c 2 rfl
    have c3 : W'.cell? ⟨p6, 3, none⟩ = some (.slice xa6 xa7 xa8) := b_v6.c 3 rfl
    go_step
    exact hK.out
  · rfl
  refine Reg.RC_call rfl (by intro t ht; cases ht; exact Nat.le_of_ble_eq_true rfl) rfl (fun D v' W' hc hj hf K hK => ?_) ?_
  · obtain ⟨j0, jk, jn, b_t, b_i, b_r, b_q, b_v6, b_v7⟩ := hj
    clear hf
    go_step
    refine (prmul W' (F0.out.keeps jk) (Fxa.out.keeps jk) s0 sx (by omega)).mono ?_
    rintro e W2 ⟨u, rfl, hu, hs⟩
    obtain ⟨xc1, xc2, xc3, xc4, xc5, xc6, xc7, xc8, rfl⟩ := hu.shape
    exact hK.out _ W2 (Keeps.steps hs) ⟨below_steps j0 (Nat.le_refl _) hs, jk.then_ hs, Nat.le_trans jn hs.size, b_t.steps hs, b_i.steps hs, ⟨fun h => (b_r.1 h).steps hs, fun h => by obtain ⟨d, cs, e, hb⟩ := b_r.2 h; exact ⟨d, cs, e, hb.steps hs⟩⟩, ⟨fun h => (b_q.1 h).steps hs, fun h => by obtain ⟨d, cs, e, hb⟩ := b_q.2 h; exact ⟨d, cs, e, hb.steps hs⟩⟩, b_v6.steps hs, b_v7.steps hs⟩ hu ⟨_, _, _, _, _, _, _, _, rfl⟩
  rintro _ ⟨xc1, xc2, xc3, xc4, xc5, xc6, xc7, xc8, rfl⟩
  refine Reg.RC_at (b := ⟨#[_,_,_,_,_,_,_,_,_,_,_,_,_,_,_,_,_,_,_,_,_,_,_,_,_,_,_,_,_,_,_,_,_,_,_,_,_,_], _⟩) rfl ?_
  apply Reg.RC_pure (hc := rfl) (hst := rfl) (hw := rfl) (t := 18) (hd := rfl) (ht := Nat.le_of_ble_eq_true rfl)
  · intro D v' W' hc hj hf K hK
    go_step
    exact hK.out
  · rfl
  apply Reg.RC_pure (hc := rfl) (hst := rfl) (hw := rfl) (t := 19) (hd := rfl) (ht := Nat.le_of_ble_eq_true rfl)
  · intro D v' W' hc hj hf K hK
    obtain ⟨j0, jk, jn, b_t, b_i, b_r, b_q, b_v6, b_v7⟩ := hj
    have c4 : W'.cell? ⟨w.heap.size, 4, none⟩ = some (.bool kb1) := b_t.c 4 rfl
    have c5 : W'.cell? ⟨w.heap.size, 5, none⟩ = some (.slice kb2 kb3 kb4) := b_t.c 5 rfl
    have c6 : W'.cell? ⟨w.heap.size, 6, none⟩ = some (.bool kb5) := b_t.c 6 rfl
    have c7 : W'.cell? ⟨w.heap.size, 7, none⟩ = some (.slice kb6 kb7 kb8) := b_t.c 7 rfl
    go_step
    exact hK.out
  · rfl
  apply Reg.RC_pure (hc := rfl) (hst := rfl) (hw := rfl) (t := 20) (hd := rfl) (ht := Nat.le_of_ble_eq_true rfl)
  · intro D v' W' hc hj hf K hK
    obtain ⟨j0, jk, jn, b_t, b_i, b_r, b_q, b_v6, b_v7⟩ := hj
    have c0 : W'.cell? ⟨p7, 0, none⟩ = some (.bool xb1) := b_v7.c 0 rfl
    have c1 : W'.cell? ⟨p7, 1, none⟩ = some (.slice xb2 xb3 xb4) := b_v7.c 1 rfl
    have c2 : W'.cell? ⟨p7, 2, none⟩ = some (.bool xb5) := b_v7.c 2 rfl
    have c3 : W'.cell? ⟨p7, 3, none⟩ = some (.slice xb6 xb7 xb8) := b_v7.c 3 rfl
    go_step
    exact hK.out
  · rfl
  refine Reg.RC_call rfl (by intro t ht; cases ht; exact Nat.le_of_ble_eq_true rfl) rfl (fun D v' W' hc hj hf K hK => ?_) ?_
  · obtain ⟨j0, jk, jn, b_t, b_i, b_r, b_q, b_v6, b_v7⟩ := hj
    clear hf
    go_step
    refine (prmul W' (F1.out.keeps jk) (Fxb.out.keeps jk) s1 sy (by omega)).mono ?_
    rintro e W2 ⟨u, rfl, hu, hs⟩
    obtain ⟨xd1, xd2, xd3, xd4, xd5, xd6, xd7, xd8, rfl⟩ := hu.shape
    exact hK.out _ W2 (Keeps.steps hs) ⟨below_steps j0 (Nat.le_refl _) hs, jk.then_ hs, Nat.le_trans jn hs.size, b_t.steps hs, b_i.steps hs, ⟨fun h => (b_r.1 h).steps hs, fun h => by obtain ⟨d, cs, e, hb⟩ := b_r.2 h; exact ⟨d, cs, e, hb.steps hs⟩⟩, ⟨fun h => (b_q.1 h).steps hs, fun h => by obtain ⟨d, cs, e, hb⟩ := b_q.2 h; exact ⟨d, cs, e, hb.steps hs⟩⟩, b_v6.steps hs, b_v7.steps hs⟩ hu ⟨_, _, _, _, _, _, _, _, rfl⟩
  rintro _ ⟨xd1, xd2, xd3, xd4, xd5, xd6, xd7, xd8, rfl⟩
  refine Reg.RC_at (b := ⟨#[_,_,_,_,_,_,_,_,_,_,_,_,_,_,_,_,_,_,_,_,_,_,_,_,_,_,_,_,_,_,_,_,_,_,_,_,_,_], _⟩) rfl ?_
  refine Reg.RC_call rfl (by intro t ht; cases ht; exact Nat.le_of_ble_eq_true rfl) rfl (fun D v' W' hc hj hf K hK => ?_) ?_
  · obtain ⟨j0, jk, jn, b_t, b_i, b_r, b_q, b_v6, b_v7⟩ := hj
    have g3 : GFr ((p * x)) _ W' := (hf (3, some 17) (.head _) rfl).2.2
    have g3 : FR W' _ ((p * x)) := g3
    have g7 : GFr ((q * y)) _ W' := (hf (7, some 21) (.tail _ (.head _)) rfl).2.2
    have g7 : FR W' _ ((q * y)) := g7
    clear hf
    go_step
    refine (prsub W' g3 g7 (s0.mul sx) (s1.mul sy) (by omega)).mono ?_
    rintro e W2 ⟨u, rfl, hu, hs⟩
    obtain ⟨xe1, xe2, xe3, xe4, xe5, xe6, xe7, xe8, rfl⟩ := hu.shape
    exact hK.out _ W2 (Keeps.steps hs) ⟨below_steps j0 (Nat.le_refl _) hs, jk.then_ hs, Nat.le_trans jn hs.size, b_t.steps hs, b_i.steps hs, ⟨fun h => (b_r.1 h).steps hs, fun h => by obtain ⟨d, cs, e, hb⟩ := b_r.2 h; exact ⟨d, cs, e, hb.steps hs⟩⟩, ⟨fun h => (b_q.1 h).steps hs, fun h => by obtain ⟨d, cs, e, hb⟩ := b_q.2 h; exact ⟨d, cs, e, hb.steps hs⟩⟩, b_v6.steps hs, b_v7.steps hs⟩ hu ⟨_, _, _, _, _, _, _, _, rfl⟩
  rintro _ ⟨xe1, xe2, xe3, xe4, xe5, xe6, xe7, xe8, rfl⟩
  refine Reg.RC_at (b := ⟨#[_,_,_,_,_,_,_,_,_,_,_,_,_,_,_,_,_,_,_,_,_,_,_,_,_,_,_,_,_,_,_,_,_,_,_,_,_,_], _⟩) rfl ?_
  apply Reg.RC_pure (hc := rfl) (hst := rfl) (hw := rfl) (t := 23) (hd := rfl) (ht := Nat.le_of_ble_eq_true rfl)
  · intro D v' W' hc hj hf K hK
    go_step
    exact hK.out
  · rfl
  apply Reg.RC_pure (hc := rfl) (hst := rfl) (hw := rfl) (t := 24) (hd := rfl) (ht := Nat.le_of_ble_eq_true rfl)
  · intro D v' W' hc hj hf K hK
    obtain ⟨j0, jk, jn, b_t, b_i, b_r, b_q, b_v6, b_v7⟩ := hj
    have c8 : W'.cell? ⟨w.heap.size, 8, none⟩ = some (.bool kc1) := b_t.c 8 rfl
    have c9 : W'.cell? ⟨w.heap.size, 9, none⟩ = some (.slice kc2 kc3 kc4) := b_t.c 9 rfl
    have c10 : W'.cell? ⟨w.heap.size, 10, none⟩ = some (.bool kc5) := b_t.c 10 rfl
    have c11 : W'.cell? ⟨w.heap.size, 11, none⟩ = some (.slice kc6 kc7 kc8) := b_t.c 11 rfl
    go_step
    exact hK.out
  · rfl
  refine Reg.RC_call rfl (by intro t ht; cases ht; exact Nat.le_of_ble_eq_true rfl) rfl (fun D v' W' hc hj hf K hK => ?_) ?_
  · obtain ⟨j0, jk, jn, b_t, b_i, b_r, b_q, b_v6, b_v7⟩ := hj
    have g8 : GFr (((p * x) - (q * y))) _ W' := (hf (8, some 22) (.head _) rfl).2.2
    have g8 : FR W' _ (((p * x) - (q * y))) := g8
    clear hf
    go_step
    refine (pradd W' g8 (F2.out.keeps jk) ((s0.mul sx).sub (s1.mul sy)) s2 (by omega)).mono ?_
    rintro e W2 ⟨u, rfl, hu, hs⟩
    obtain ⟨xf1, xf2, xf3, xf4, xf5, xf6, xf7, xf8, rfl⟩ := hu.shape
    exact hK.out _ W2 (Keeps.steps hs) ⟨below_steps j0 (Nat.le_refl _) hs, jk.then_ hs, Nat.le_trans jn hs.size, b_t.steps hs, b_i.steps hs, ⟨fun h => (b_r.1 h).steps hs, fun h => Bool.noConfusion ((hc.2 24 (by decide)).symm.trans h)⟩, ⟨fun h => (b_q.1 h).steps hs, fun h => by obtain ⟨d, cs, e, hb⟩ := b_q.2 h; exact ⟨d, cs, e, hb.steps hs⟩⟩, b_v6.steps hs, b_v7.steps hs⟩ hu ⟨_, _, _, _, _, _, _, _, rfl⟩
  rintro _ ⟨xf1, xf2, xf3, xf4, xf5, xf6, xf7, xf8, rfl⟩
  refine Reg.RC_at (b := ⟨#[_,_,_,_,_,_,_,_,_,_,_,_,_,_,_,_,_,_,_,_,_,_,_,_,_,_,_,_,_,_,_,_,_,_,_,_,_,_], _⟩) rfl ?_
  apply Reg.RC_pure (hc := rfl) (hst := rfl) (hw := rfl) (t := 26) (hd := rfl) (ht := Nat.le_of_ble_eq_true rfl)
  · intro D v' W' hc hj hf K hK
    go_step
    exact hK.out
  · rfl
  apply Reg.RC_pure (hc := rfl) (hst := rfl) (hw := rfl) (t := 27) (hd := rfl) (ht := Nat.le_of_ble_eq_true rfl)
  · intro D v' W' hc hj hf K hK
    obtain ⟨j0, jk, jn, b_t, b_i, b_r, b_q, b_v6, b_v7⟩ := hj
    have c4 : W'.cell? ⟨w.heap.size, 4, none⟩ = some (.bool kb1) := b_t.c 4 rfl
    have c5 : W'.cell? ⟨w.heap.size, 5, none⟩ = some (.slice kb2 kb3 kb4) := b_t.c 5 rfl
    have c6 : W'.cell? ⟨w.heap.size, 6, none⟩ = some (.bool kb5) := b_t.c 6 rfl
    have c7 : W'.cell? ⟨w.heap.size, 7, none⟩ = some (.slice kb6 kb7 kb8) := b_t.c 7 rfl
    go_step
    exact hK.out
  · rfl
  apply Reg.RC_pure (hc := rfl) (hst := rfl) (hw := rfl) (t := 28) (hd := rfl) (ht := Nat.le_of_ble_eq_true rfl)
  · intro D v' W' hc hj hf K hK
    obtain ⟨j0, jk, jn, b_t, b_i, b_r, b_q, b_v6, b_v7⟩ := hj
    have c0 : W'.cell? ⟨p6, 0, none⟩ = some (.bool xa1) := b_v6.c 0 rfl
    have c1 : W'.cell? ⟨p6, 1, none⟩ = some (.slice xa2 xa3 xa4) := b_v6.c 1 rfl
    have c2 : W'.cell? ⟨p6, 2, none⟩ = some (.bool xa5) := b_v6.c 2 rfl
    have c3 : W'.cell? ⟨p6, 3, none⟩ = some (.slice xa6 xa7 xa8) := b_v6.c 3 rfl
    go_step
    exact hK.out
  · rfl
  refine Reg.RC_call rfl (by intro t ht; cases ht; exact Nat.le_of_ble_eq_true rfl) rfl (fun D v' W' hc hj hf K hK => ?_) ?_
  · obtain ⟨j0, jk, jn, b_t, b_i, b_r, b_q, b_v6, b_v7⟩ := hj
    clear hf
    go_step
    refine (prmul W' (F1.out.keeps jk) (Fxa.out.keeps jk) s1 sx (by omega)).mono ?_
    rintro e W2 ⟨u, rfl, hu, hs⟩
    obtain ⟨xg1, xg2, xg3, xg4, xg5, xg6, xg7, xg8, rfl⟩ := hu.shape
    exact hK.out _ W2 (Keeps.steps hs) ⟨below_steps j0 (Nat.le_refl _) hs, jk.then_ hs, Nat.le_trans jn hs.size, b_t.steps hs, b_i.steps hs, ⟨fun h => (b_r.1 h).steps hs, fun h => by obtain ⟨d, cs, e, hb⟩ := b_r.2 h; exact ⟨d, cs, e, hb.steps hs⟩⟩, ⟨fun h => (b_q.1 h).steps hs, fun h => by obtain ⟨d, cs, e, hb⟩ := b_q.2 h; exact ⟨d, cs, e, hb.steps hs⟩⟩, b_v6.steps hs, b_v7.steps hs⟩ hu ⟨_, _, _, _, _, _, _, _, rfl⟩
  rintro _ ⟨xg1, xg2, xg3, xg4, xg5, xg6, xg7, xg8, rfl⟩
  refine Reg.RC_at (b := ⟨#[_,_,_,_,_,_,_,_,_,_,_,_,_,_,_,_,_,_,_,_,_,_,_,_,_,_,_,_,_,_,_,_,_,_,_,_,_,_], _⟩) rfl ?_
  apply Reg.RC_pure (hc := rfl) (hst := rfl) (hw := rfl) (t := 30) (hd := rfl) (ht := Nat.le_of_ble_eq_true rfl)
  · intro D v' W' hc hj hf K hK
    go_step
    exact hK.out
  · rfl
  apply Reg.RC_pure (hc := rfl) (hst := rfl) (hw := rfl) (t := 31) (hd := rfl) (ht := Nat.le_of_ble_eq_true rfl)
  · intro D v' W' hc hj hf K hK
    obtain ⟨j0, jk, jn, b_t, b_i, b_r, b_q, b_v6, b_v7⟩ := hj
    have c0 : W'.cell? ⟨w.heap.size, 0, none⟩ = some (.bool ka1) := b_t.c 0 rfl
    have c1 : W'.cell? ⟨w.heap.size, 1, none⟩ = some (.slice ka2 ka3 ka4) := b_t.c 1 rfl
    have c2 : W'.cell? ⟨w.heap.size, 2, none⟩ = some (.bool ka5) := b_t.c 2 rfl
    have c3 : W'.cell? ⟨w.heap.size, 3, none⟩ = some (.slice ka6 ka7 ka8) := b_t.c 3 rfl
    go_step
    exact hK.out
  · rfl
  apply Reg.RC_pure (hc := rfl) (hst := rfl) (hw := rfl) (t := 32) (hd := rfl) (ht := Nat.le_of_ble_eq_true rfl)
  · intro D v' W' hc hj hf K hK
    obtain ⟨j0, jk, jn, b_t, b_i, b_r, b_q, b_v6, b_v7⟩ := hj
    have c0 : W'.cell? ⟨p7, 0, none⟩ = some (.bool xb1) := b_v7.c 0 rfl
    have c1 : W'.cell? ⟨p7, 1, none⟩ = some (.slice xb2 xb3 xb4) := b_v7.c 1 rfl
    have c2 : W'.cell? ⟨p7, 2, none⟩ = some (.bool xb5) := b_v7.c 2 rfl
    have c3 : W'.cell? ⟨p7, 3, none⟩ = some (.slice xb6 xb7 xb8) := b_v7.c 3 rfl
    go_step
    exact hK.out
  · rfl
  refine Reg.RC_call rfl (by intro t ht; cases ht; exact Nat.le_of_ble_eq_true rfl) rfl (fun D v' W' hc hj hf K hK => ?_) ?_
  · obtain ⟨j0, jk, jn, b_t, b_i, b_r, b_q, b_v6, b_v7⟩ := hj
    clear hf
    go_step
    refine (prmul W' (F0.out.keeps jk) (Fxb.out.keeps jk) s0 sy (by omega)).mono ?_
    rintro e W2 ⟨u, rfl, hu, hs⟩
    obtain ⟨xh1, xh2, xh3, xh4, xh5, xh6, xh7, xh8, rfl⟩ := hu.shape
    exact hK.out _ W2 (Keeps.steps hs) ⟨below_steps j0 (Nat.le_refl _) hs, jk.then_ hs, Nat.le_trans jn hs.size, b_t.steps hs, b_i.steps hs, ⟨fun h => (b_r.1 h).steps hs, fun h => by obtain ⟨d, cs, e, hb⟩ := b_r.2 h; exact ⟨d, cs, e, hb.steps hs⟩⟩, ⟨fun h => (b_q.1 h).steps hs, fun h => by obtain ⟨d, cs, e, hb⟩ := b_q.2 h; exact ⟨d, cs, e, hb.steps hs⟩⟩, b_v6.steps hs, b_v7.steps hs⟩ hu ⟨_, _, _, _, _, _, _, _, rfl⟩
  rintro _ ⟨xh1, xh2, xh3, xh4, xh5, xh6, xh7, xh8, rfl⟩
  refine Reg.RC_at (b := ⟨#[_,_,_,_,_,_,_,_,_,_,_,_,_,_,_,_,_,_,_,_,_,_,_,_,_,_,_,_,_,_,_,_,_,_,_,_,_,_], _⟩) rfl ?_
  refine Reg.RC_call rfl (by intro t ht; cases ht; exact Nat.le_of_ble_eq_true rfl) rfl (fun D v' W' hc hj hf K hK => ?_) ?_
  · obtain ⟨j0, jk, jn, b_t, b_i, b_r, b_q, b_v6, b_v7⟩ := hj
    have g15 : GFr ((q * x)) _ W' := (hf (15, some 29) (.head _) rfl).2.2
    have g15 : FR W' _ ((q * x)) := g15
    have g19 : GFr ((p * y)) _ W' := (hf (19, some 33) (.tail _ (.head _)) rfl).2.2
    have g19 : FR W' _ ((p * y)) := g19
    clear hf
    go_step
    refine (pradd W' g15 g19 (s1.mul sx) (s0.mul sy) (by omega)).mono ?_
    rintro e W2 ⟨u, rfl, hu, hs⟩
    obtain ⟨xi1, xi2, xi3, xi4, xi5, xi6, xi7, xi8, rfl⟩ := hu.shape
    exact hK.out _ W2 (Keeps.steps hs) ⟨below_steps j0 (Nat.le_refl _) hs, jk.then_ hs, Nat.le_trans jn hs.size, b_t.steps hs, b_i.steps hs, ⟨fun h => (b_r.1 h).steps hs, fun h => by obtain ⟨d, cs, e, hb⟩ := b_r.2 h; exact ⟨d, cs, e, hb.steps hs⟩⟩, ⟨fun h => (b_q.1 h).steps hs, fun h => by obtain ⟨d, cs, e, hb⟩ := b_q.2 h; exact ⟨d, cs, e, hb.steps hs⟩⟩, b_v6.steps hs, b_v7.steps hs⟩ hu ⟨_, _, _, _, _, _, _, _, rfl⟩
  rintro _ ⟨xi1, xi2, xi3, xi4, xi5, xi6, xi7, xi8, rfl⟩
  refine Reg.RC_at (b := ⟨#[_,_,_,_,_,_,_,_,_,_,_,_,_,_,_,_,_,_,_,_,_,_,_,_,_,_,_,_,_,_,_,_,_,_,_,_,_,_], _⟩) rfl ?_
  apply Reg.RC_pure (hc := rfl) (hst := rfl) (hw := rfl) (t := 35) (hd := rfl) (ht := Nat.le_of_ble_eq_true rfl)
  · intro D v' W' hc hj hf K hK
    go_step
    exact hK.out
  · rfl
  apply Reg.RC_pure (hc := rfl) (hst := rfl) (hw := rfl) (t := 36) (hd := rfl) (ht := Nat.le_of_ble_eq_true rfl)
  · intro D v' W' hc hj hf K hK
    obtain ⟨j0, jk, jn, b_t, b_i, b_r, b_q, b_v6, b_v7⟩ := hj
    have c12 : W'.cell? ⟨w.heap.size, 12, none⟩ = some (.bool kd1) := b_t.c 12 rfl
    have c13 : W'.cell? ⟨w.heap.size, 13, none⟩ = some (.slice kd2 kd3 kd4) := b_t.c 13 rfl
    have c14 : W'.cell? ⟨w.heap.size, 14, none⟩ = some (.bool kd5) := b_t.c 14 rfl
    have c15 : W'.cell? ⟨w.heap.size, 15, none⟩ = some (.slice kd6 kd7 kd8) := b_t.c 15 rfl
    go_step
    exact hK.out
  · rfl
  refine Reg.RC_call rfl (by intro t ht; cases ht; exact Nat.le_of_ble_eq_true rfl) rfl (fun D v' W' hc hj hf K hK => ?_) ?_
  · obtain ⟨j0, jk, jn, b_t, b_i, b_r, b_q, b_v6, b_v7⟩ := hj
    have g20 : GFr (((q * x) + (p * y))) _ W' := (hf (20, some 34) (.head _) rfl).2.2
    have g20 : FR W' _ (((q * x) + (p * y))) := g20
    clear hf
    go_step
    refine (pradd W' g20 (F3.out.keeps jk) ((s1.mul sx).add (s0.mul sy)) s3 (by omega)).mono ?_
    rintro e W2 ⟨u, rfl, hu, hs⟩
    obtain ⟨xj1, xj2, xj3, xj4, xj5, xj6, xj7, xj8, rfl⟩ := hu.shape
    exact hK.out _ W2 (Keeps.steps hs) ⟨below_steps j0 (Nat.le_refl _) hs, jk.then_ hs, Nat.le_trans jn hs.size, b_t.steps hs, b_i.steps hs, ⟨fun h => (b_r.1 h).steps hs, fun h => by obtain ⟨d, cs, e, hb⟩ := b_r.2 h; exact ⟨d, cs, e, hb.steps hs⟩⟩, ⟨fun h => (b_q.1 h).steps hs, fun h => Bool.noConfusion ((hc.2 25 (by decide)).symm.trans h)⟩, b_v6.steps hs, b_v7.steps hs⟩ hu ⟨_, _, _, _, _, _, _, _, rfl⟩
  rintro _ ⟨xj1, xj2, xj3, xj4, xj5, xj6, xj7, xj8, rfl⟩
  refine Reg.RC_at (b := ⟨#[_,_,_,_,_,_,_,_,_,_,_,_,_,_,_,_,_,_,_,_,_,_,_,_,_,_,_,_,_,_,_,_,_,_,_,_,_,_], _⟩) rfl ?_
  refine Reg.RC_call rfl (by intro t ht; cases ht) rfl (fun D v' W' hc hj hf K hK => ?_) (fun _ _ => Reg.RC_at (b := ⟨_, _⟩) rfl ?_)
  · obtain ⟨j0, jk, jn, b_t, b_i, b_r, b_q, b_v6, b_v7⟩ := hj
    have hb := b_r.1 hc.1
    have e2 : w.heap.size ≤ w.heap.size + 1 + 1 := by omega
    have fc := hf (11, some 25) (.head _) rfl
    have ec : v' 11 = .agg #[.bool xf1, .slice xf2 xf3 xf4, .bool xf5, .slice xf6 xf7 xf8] := fc.2.1
    have ff := hb.fr
    have cc0 : W'.cell? ⟨w.heap.size + 1 + 1, 0, none⟩ = some (.bool false) := hb.c 0 rfl
    have cc1 : W'.cell? ⟨w.heap.size + 1 + 1, 1, none⟩ = some (.slice none 0 0) := hb.c 1 rfl
    have cc2 : W'.cell? ⟨w.heap.size + 1 + 1, 2, none⟩ = some (.bool false) := hb.c 2 rfl
    have cc3 : W'.cell? ⟨w.heap.size + 1 + 1, 3, none⟩ = some (.slice none 0 0) := hb.c 3 rfl
    go_step
    exact hK.out undef _ (keeps4 hb rfl) ⟨(below4 j0 (by show w.heap.size ≤ w.heap.size + 1 + 1; omega)), jk.trans (keeps4 hb rfl), by simpa using jn, (b_t).far4 (show w.heap.size ≠ w.heap.size + 1 + 1 by omega), (b_i).far4 (show w.heap.size + 1 ≠ w.heap.size + 1 + 1 by omega), ⟨fun h => Bool.noConfusion h, fun _ => ⟨fc.1, _, ec, (Blk.set2 (cs' := #[.bool xf1, .slice xf2 xf3 xf4, .bool xf5, .slice xf6 xf7 xf8]) (Blk.set2 (cs' := #[.bool xf1, .slice xf2 xf3 xf4, .bool xf5, .slice none 0 0]) (Blk.set2 (cs' := #[.bool xf1, .slice xf2 xf3 xf4, .bool false, .slice none 0 0]) (Blk.set2 (cs' := #[.bool xf1, .slice none 0 0, .bool false, .slice none 0 0]) hb (i := 0) rfl) (i := 1) rfl) (i := 2) rfl) (i := 3) rfl)⟩⟩, ⟨fun h => (b_q.1 h).far4 (show w.heap.size + 1 + 1 + 1 ≠ w.heap.size + 1 + 1 by omega), fun h => by obtain ⟨d, cs, e, hb2⟩ := b_q.2 h; exact ⟨d, cs, e, (hb2).far4 (show w.heap.size + 1 + 1 + 1 ≠ w.heap.size + 1 + 1 by omega)⟩⟩, (b_v6).far4 (show p6 ≠ w.heap.size + 1 + 1 by omega), (b_v7).far4 (show p7 ≠ w.heap.size + 1 + 1 by omega)⟩ trivial trivial
  refine Reg.RC_call rfl (by intro t ht; cases ht) rfl (fun D v' W' hc hj hf K hK => ?_) (fun _ _ => Reg.RC_at (b := ⟨_, _⟩) rfl ?_)
  · obtain ⟨j0, jk, jn, b_t, b_i, b_r, b_q, b_v6, b_v7⟩ := hj
    have hb := b_q.1 hc.1
    have e2 : w.heap.size ≤ w.heap.size + 1 + 1 + 1 := by omega
    have fc := hf (23, some 37) (.head _) rfl
    have ec : v' 23 = .agg #[.bool xj1, .slice xj2 xj3 xj4, .bool xj5, .slice xj6 xj7 xj8] := fc.2.1
    have ff := hb.fr
    have cc0 : W'.cell? ⟨w.heap.size + 1 + 1 + 1, 0, none⟩ = some (.bool false) := hb.c 0 rfl
    have cc1 : W'.cell? ⟨w.heap.size + 1 + 1 + 1, 1, none⟩ = some (.slice none 0 0) := hb.c 1 rfl
    have cc2 : W'.cell? ⟨w.heap.size + 1 + 1 + 1, 2, none⟩ = some (.bool false) := hb.c 2 rfl
    have cc3 : W'.cell? ⟨w.heap.size + 1 + 1 + 1, 3, none⟩ = some (.slice none 0 0) := hb.c 3 rfl
    go_step
    exact hK.out undef _ (keeps4 hb rfl) ⟨(below4 j0 (by show w.heap.size ≤ w.heap.size + 1 + 1 + 1; omega)), jk.trans (keeps4 hb rfl), by simpa using jn, (b_t).far4 (show w.heap.size ≠ w.heap.size + 1 + 1 + 1 by omega), (b_i).far4 (show w.heap.size + 1 ≠ w.heap.size + 1 + 1 + 1 by omega), ⟨fun h => (b_r.1 h).far4 (show w.heap.size + 1 + 1 ≠ w.heap.size + 1 + 1 + 1 by omega), fun h => by obtain ⟨d, cs, e, hb2⟩ := b_r.2 h; exact ⟨d, cs, e, (hb2).far4 (show w.heap.size + 1 + 1 ≠ w.heap.size + 1 + 1 + 1 by omega)⟩⟩, ⟨fun h => Bool.noConfusion h, fun _ => ⟨fc.1, _, ec, (Blk.set2 (cs' := #[.bool xj1, .slice xj2 xj3 xj4, .bool xj5, .slice xj6 xj7 xj8]) (Blk.set2 (cs' := #[.bool xj1, .slice xj2 xj3 xj4, .bool xj5, .slice none 0 0]) (Blk.set2 (cs' := #[.bool xj1, .slice xj2 xj3 xj4, .bool false, .slice none 0 0]) (Blk.set2 (cs' := #[.bool xj1, .slice none 0 0, .bool false, .slice none 0 0]) hb (i := 0) rfl) (i := 1) rfl) (i := 2) rfl) (i := 3) rfl)⟩⟩, (b_v6).far4 (show p6 ≠ w.heap.size + 1 + 1 + 1 by omega), (b_v7).far4 (show p7 ≠ w.heap.size + 1 + 1 + 1 by omega)⟩ trivial trivial
  refine Reg.RC_end (fun Dn v' w2 hd hj hf => ?_)
  obtain ⟨j0, jk, jn, b_t, b_i, b_r, b_q, b_v6, b_v7⟩ := hj
  have B := j0
  have ot := b_t
  clear b_t
  have oi := b_i
  clear b_i
  obtain ⟨-, cs_, ee, or⟩ := b_r.2 (hd 24 (Nat.le_of_ble_eq_true rfl))
  have ef : v' 11 = .agg #[.bool xf1, .slice xf2 xf3 xf4, .bool xf5, .slice xf6 xf7 xf8] := (hf (11, some 25) (.tail _ (.tail _ (.tail _ (.head _)))) rfl).2.1
  obtain rfl : #[.bool xf1, .slice xf2 xf3 xf4, .bool xf5, .slice xf6 xf7 xf8] = cs_ := by have := ef.symm.trans ee; simpa only [Value.tuple.injEq, Value.agg.injEq, Array.mk.injEq, List.cons.injEq, and_true, true_and] using this
  clear b_r ee ef
  obtain ⟨-, cs_, ee, oq⟩ := b_q.2 (hd 25 (Nat.le_of_ble_eq_true rfl))
  have ef : v' 23 = .agg #[.bool xj1, .slice xj2 xj3 xj4, .bool xj5, .slice xj6 xj7 xj8] := (hf (23, some 37) (.tail _ (.tail _ (.tail _ (.tail _ (.tail _ (.tail _ (.tail _ (.head _)))))))) rfl).2.1
  obtain rfl : #[.bool xj1, .slice xj2 xj3 xj4, .bool xj5, .slice xj6 xj7 xj8] = cs_ := by have := ef.symm.trans ee; simpa only [Value.tuple.injEq, Value.agg.injEq, Array.mk.injEq, List.cons.injEq, and_true, true_and] using this
  clear b_q ee ef
  have ov6 := b_v6
  clear b_v6
  have ov7 := b_v7
  clear b_v7
  have Fxf : Hid (FR w2 (.agg #[.bool xf1, .slice xf2 xf3 xf4, .bool xf5, .slice xf6 xf7 xf8]) ((((p * x) - (q * y)) + r))) := (hf (11, some 25) (.tail _ (.tail _ (.tail _ (.head _)))) rfl).2.2
  have Fxj : Hid (FR w2 (.agg #[.bool xj1, .slice xj2 xj3 xj4, .bool xj5, .slice xj6 xj7 xj8]) ((((q * x) + (p * y)) + s))) := (hf (23, some 37) (.tail _ (.tail _ (.tail _ (.tail _ (.tail _ (.tail _ (.tail _ (.head _)))))))) rfl).2.2
  replace F0 := Hid.mk_ (F0.out.keeps jk)
  replace F1 := Hid.mk_ (F1.out.keeps jk)
  replace F2 := Hid.mk_ (F2.out.keeps jk)
  replace F3 := Hid.mk_ (F3.out.keeps jk)
  replace Fxa := Hid.mk_ (Fxa.out.keeps jk)
  replace Fxb := Hid.mk_ (Fxb.out.keeps jk)
  clear hd hf jk j0
  refine hQ _ _ ?_
  clear hQ hops Q' ops'
  have lt := ot.lt
  have li := oi.lt
  have cr0 := or.q0
  have cr1 := or.q1
  have cr2 := or.q2
  have cr3 := or.q3
  have lr := or.lt
  have cq0 := oq.q0
  have cq1 := oq.q1
  have cq2 := oq.q2
  have cq3 := oq.q3
  have lq := oq.lt
  go_wp2_with fail
  refine bodyPost_ret (by simp [results, Tryz.results43, go_sem, lt, li, cr0, cr1, cr2, cr3, lr, cq0, cq1, cq2, cq3, lq]; rfl) rfl ?_
  exact ⟨_, _, rfl, Fxf.out.keeps keepsB, Fxj.out.keeps keepsB, belowB⟩
end Go.Proofs.YtffmbepfbienaaaGreat
