import Derived.Test.YtffmbepfbienaaaGreatCMc
import Derived.Test.YtffmbepfbienaaaGreatCQx
set_option linter.unusedVariables false
set_option linter.unusedSimpArgs false
set_option maxHeartbeats 6400000
set_option maxRecDepth 1000000
namespace Go.Proofs.YtffmbepfbienaaaGreat
open Go.RowKit
theorem rwhole02 (x : Int) (w : World) (x0 : -9223372036854775808 ≤ x) (x1 : x ≤ 9223372036854775807) :
  Calls Tryz.prog 88 #[.int .i64 x] w fun e w' => ∃ v, e = .returned v ∧ FR w' v (x : Rat) ∧ Steps w w' := by
 have f1 := fun w' => rfrom x w' x0 x1
 have f2 := fun w' => rfrom 1 w' (by decide) (by decide)
 have mk : ∀ w' a b c d, Num w' (.agg #[.bool a, b]) x → Num w' (.agg #[.bool c, d]) 1 → FR w' (.agg #[.bool a, b, .bool c, d]) (x : Rat) := fun w' a b c d h1 h2 => by
  have e1 : (x : Rat).num = x := Rat.num_intCast x
  have e2 : ((x : Rat).den : Int) = 1 := by rw [Rat.den_intCast]; rfl
  unfold FR
  rw [e1, e2]
  exact Frc.mk' h1 h2 (by decide) (by unfold gcdI; simp) (fits_small64 x0 x1) (fits_small64 (by decide) (by decide))
 clear x0 x1
 go_enter Tryz.func88, Tryz.ntmps88
 go_wp2_with fail
 refine (f1 _).mono ?_
 rintro e w1 ⟨vx, rfl, hvx, hb1⟩
 have st : Steps _ w1 := hb1
 have B : Below w.heap.size w w1 := belowA st
 have or : Blk w1 (w.heap.size) 28 #[.bool false, .slice none 0 0, .bool false, .slice none 0 0] := Blk.stepsK st
 clear st
 obtain ⟨x1, x2, x3, x4, rfl⟩ := hvx.shape
 have Fx := Hid.mk_ hvx
 clear hvx
 go_wp2_with fail
 refine (f2 _).mono ?_
 rintro e w2 ⟨vy, rfl, hvy, hb2⟩
 have st : Steps _ w2 := hb2
 have sk : Below w1.heap.size w1 w2 := belowA st
 replace B := below_steps B (Nat.le_refl _) sk
 replace or := or.steps sk
 replace Fx := Hid.mk_ (Fx.out.steps sk)
 clear st sk
 obtain ⟨cr0, cr1, cr2, cr3, fr, lr⟩ := or.s3
 obtain ⟨y1, y2, y3, y4, rfl⟩ := hvy.shape
 have Fy := Hid.mk_ hvy
 clear hvy
 go_wp2_with fail
 refine bodyPost_ret (by simp [results, Tryz.results88, go_sem, cr0, cr1, cr2, cr3, fr, lr]; rfl) rfl ?_
 exact ⟨_, rfl, mk _ _ _ _ _ (Fx.out.keeps keepsB) (Fy.out.keeps keepsB), belowB⟩
theorem rwhole (x : Int) (w : World) (x0 : -9223372036854775808 ≤ x) (x1 : x ≤ 9223372036854775807) :
  Calls Tryz.prog 47 #[.int .i64 x] w fun e w' => ∃ v, e = .returned v ∧ FR w' v (x : Rat) ∧ Steps w w' := by
 have CL := fun w' => rwhole02 x w' x0 x1
 clear x0 x1
 generalize (x : Rat) = q at *
 go_enter Tryz.func47, Tryz.ntmps47
 go_wp2_with fail
 refine (CL _).mono ?_
 rintro e w1 ⟨vq, rfl, hvq, hb1⟩
 have st : Steps _ w1 := hb1
 have B : Below w.heap.size w w1 := belowA st
 have or : Blk w1 (w.heap.size) 28 #[.bool false, .slice none 0 0, .bool false, .slice none 0 0] := Blk.stepsK st
 clear st
 obtain ⟨cr0, cr1, cr2, cr3, fr, lr⟩ := or.s3
 obtain ⟨q1, q2, q3, q4, q5, q6, q7, q8, rfl⟩ := hvq.shape
 have Fq := Hid.mk_ hvq
 clear hvq
 go_wp2_with fail
 refine bodyPost_ret (by simp [results, Tryz.results47, go_sem, cr0, cr1, cr2, cr3, fr, lr]; rfl) rfl ?_
 exact ⟨_, rfl, Fq.out.keeps keepsB, belowB⟩
theorem prsub {va vb : Value} {r s : Rat} {i j : Nat} (w : World) (ha : FR w va r) (hb : FR w vb s) (hr : sz r i) (hs : sz s j) (hk : i + j ≤ 4094) :
  Calls Tryz.prog 70 #[va, vb] w fun e w' => ∃ v, e = .returned v ∧ FR w' v (r - s) ∧ Steps w w' := by
 have CL : ∀ w', Steps w w' → Calls Tryz.prog 105 #[va, vb] w' fun e w2 => ∃ v, e = .returned (.tuple #[v, .int .i64 0]) ∧ FR w2 v (r - s) ∧ Steps w' w2 := fun w' st => rSubQ w' (ha.steps st) (hb.steps st) hr hs hk
 obtain ⟨a1, a2, a3, a4, a5, a6, a7, a8, rfl⟩ := ha.shape
 obtain ⟨b1, b2, b3, b4, b5, b6, b7, b8, rfl⟩ := hb.shape
 clear ha hb hr hs hk
 generalize r - s = t at *
 go_enter Tryz.func70, Tryz.ntmps70
 go_wp2_with fail
 refine (CL _ belowB).mono ?_
 rintro e w1 ⟨vq, rfl, hvq, hb1⟩
 have st : Steps _ w1 := hb1
 have B : Below w.heap.size w w1 := belowA st
 have oa : Blk w1 (w.heap.size) 28 #[.bool a1, .slice a2 a3 a4, .bool a5, .slice a6 a7 a8] := Blk.stepsK st
 have ob : Blk w1 (w.heap.size + 1) 28 #[.bool b1, .slice b2 b3 b4, .bool b5, .slice b6 b7 b8] := Blk.stepsK st
 have or : Blk w1 (w.heap.size + 1 + 1) 28 #[.bool false, .slice none 0 0, .bool false, .slice none 0 0] := Blk.stepsK st
 clear st
 have la := oa.lt
 have lb := ob.lt
 obtain ⟨cr0, cr1, cr2, cr3, fr, lr⟩ := or.s3
 obtain ⟨q1, q2, q3, q4, q5, q6, q7, q8, rfl⟩ := hvq.shape
 have Fq := Hid.mk_ hvq
 clear hvq
 have zr_1 : w.heap.size + 1 + 1 < w1.heap.size := or.lt
 have zz1 := B.size
 go_wp2_with fail
 refine bodyPost_ret (by simp [results, Tryz.results70, go_sem, la, lb, cr0, cr1, cr2, cr3, fr, lr]; rfl) rfl ?_
 exact ⟨_, rfl, Fq.out.keeps keepsB, belowB⟩
theorem prcmp {va vb : Value} {r s : Rat} {i j : Nat} (w : World) (ha : FR w va r) (hb : FR w vb s) (hr : sz r i) (hs : sz s j) (hk : i + j ≤ 4095) :
  Calls Tryz.prog 46 #[va, vb] w fun e w' => e = .returned (.int .i64 (cmpQ r s)) ∧ Steps w w' := by
 have CL : ∀ w', Steps w w' → Calls Tryz.prog 87 #[va, vb] w' fun e w2 => e = .returned (.tuple #[.int .i64 (cmpQ r s), .int .i64 0]) ∧ Steps w' w2 := fun w' st => rCmpQ w' (ha.steps st) (hb.steps st) hr hs hk
 obtain ⟨a1, a2, a3, a4, a5, a6, a7, a8, rfl⟩ := ha.shape
 obtain ⟨b1, b2, b3, b4, b5, b6, b7, b8, rfl⟩ := hb.shape
 clear ha hb hr hs hk
 generalize cmpQ r s = k at *
 go_enter Tryz.func46, Tryz.ntmps46
 go_wp2_with fail
 refine (CL _ belowB).mono ?_
 rintro e w1 ⟨rfl, hb1⟩
 have st : Steps _ w1 := hb1
 have B : Below w.heap.size w w1 := belowA st
 have oa : Blk w1 (w.heap.size) 28 #[.bool a1, .slice a2 a3 a4, .bool a5, .slice a6 a7 a8] := Blk.stepsK st
 have ob : Blk w1 (w.heap.size + 1) 28 #[.bool b1, .slice b2 b3 b4, .bool b5, .slice b6 b7 b8] := Blk.stepsK st
 clear st
 go_wp2_with fail
 refine bodyPost_ret (by simp [results, Tryz.results46, go_sem, ]; rfl) rfl ?_
 exact ⟨rfl, belowB⟩
theorem psmall {a1 a5 : Bool} {a2 a6 : Option Addr} {p q a4 a8 : Nat} {o : Option Rat} (w : World) (hf : FB w (.agg #[.bool a1, .slice a2 p a4, .bool a5, .slice a6 q a8]) o) :
  Calls Tryz.prog 68 #[.agg #[.bool a1, .slice a2 p a4, .bool a5, .slice a6 q a8]] w fun e w' => e = .returned (.bool (limF 16 o p q)) ∧ Steps w w' := by
 have ck : ∀ w', Keeps w w' → Calls Tryz.prog 86 #[.agg #[.bool a1, .slice a2 p a4, .bool a5, .slice a6 q a8]] w' fun e w2 => e = .returned (.int .i64 (okC o.isSome)) ∧ Steps w' w2 := fun w' k => rfcheck_fb w' (hf.keeps k)
 unfold limF
 obtain ⟨s, hs⟩ : ∃ s, o.isSome = s := ⟨_, rfl⟩
 rw [hs] at ck ⊢
 clear hf hs
 by_cases h1 : p ≤ 16
 ·
  by_cases h2 : q ≤ 16
  ·
   rw [decide_eq_true h1, decide_eq_true h2]
   have g1 : (p : Int) ≤ 16 := by omega
   have g2 : (q : Int) ≤ 16 := by omega
   clear h1 h2
   go_enter Tryz.func68, Tryz.ntmps68
   go_wp2_with fail
   refine (ck _ keepsB).mono ?_
   rintro e w1 ⟨rfl, hs1⟩
   have B1 : Below w.heap.size w w1 := belowA hs1
   clear ck hs1
   cases s with
   | false =>
    have e8 : (okC false == 0) = false := rfl
    rw [show okC false = 8 from rfl]
    go_wp2
    go_returns
    exact ⟨rfl, B1⟩
   | true =>
    rw [show okC true = 0 from rfl]
    go_wp2
    go_returns
    exact ⟨rfl, B1⟩
  ·
   rw [decide_eq_true h1, decide_eq_false h2]
   have g1 : (p : Int) ≤ 16 := by omega
   have g2 : ¬ (q : Int) ≤ 16 := by omega
   clear h1 h2 ck
   go_enter Tryz.func68, Tryz.ntmps68
   go_wp2
   go_returns
   exact ⟨rfl, belowB⟩
 ·
  rw [decide_eq_false h1]
  have g1 : ¬ (p : Int) ≤ 16 := by omega
  clear h1 ck
  go_enter Tryz.func68, Tryz.ntmps68
  go_wp2
  go_returns
  exact ⟨rfl, belowB⟩
instance (p : Int × Int) : Decidable (okP p) := by unfold okP; infer_instance
theorem chk_one (p : Int × Int) : chkP [p] = if okP p then 0 else 8 := by unfold chkP; simp
theorem pts_one {w : World} {g : Nat} {t : TypeId} {x y : Int} (h : Blk w g t #[.int .i64 x, .int .i64 y]) (hx : -9223372036854775808 ≤ x ∧ x ≤ 9223372036854775807) (hy : -9223372036854775808 ≤ y ∧ y ≤ 9223372036854775807) : Pts w (.slice (some ⟨g, 0, none⟩) 1 1) [(x, y)] := by
 refine ⟨fun k => ?_, some ⟨g, 0, none⟩, 1, rfl, Nat.le_refl _, fun _ => ⟨g, 0, rfl, h.lt, fun t ht => ?_⟩⟩
 ·
  match k with
  | 0 => exact ⟨hx.1, hx.2, hy.1, hy.2⟩
  | k + 1 => rw [show ([(x, y)] : List (Int × Int)).getD (k + 1) (0, 0) = (0, 0) by simp [List.getD]]; decide
 ·
  have : t = 0 := by simp at ht; omega
  subst this
  exact ⟨h.c 0 rfl, h.c 1 rfl⟩
theorem sz_coord {x : Int} (h : -1048576 ≤ x ∧ x ≤ 1048576) : sz (x : Rat) 2 := sz_int (by rw [bp_two]; unfold absN; omega)
def SimR (w : World) (v : Value) (t : Nat → Rat) : Prop := ∃ ka1 ka2 ka3 ka4 ka5 ka6 ka7 ka8 kb1 kb2 kb3 kb4 kb5 kb6 kb7 kb8 kc1 kc2 kc3 kc4 kc5 kc6 kc7 kc8 kd1 kd2 kd3 kd4 kd5 kd6 kd7 kd8, v = .agg #[.bool ka1, .slice ka2 ka3 ka4, .bool ka5, .slice ka6 ka7 ka8, .bool kb1, .slice kb2 kb3 kb4, .bool kb5, .slice kb6 kb7 kb8, .bool kc1, .slice kc2 kc3 kc4, .bool kc5, .slice kc6 kc7 kc8, .bool kd1, .slice kd2 kd3 kd4, .bool kd5, .slice kd6 kd7 kd8] ∧ FR w (.agg #[.bool ka1, .slice ka2 ka3 ka4, .bool ka5, .slice ka6 ka7 ka8]) (t 0) ∧ FR w (.agg #[.bool kb1, .slice kb2 kb3 kb4, .bool kb5, .slice kb6 kb7 kb8]) (t 1) ∧ FR w (.agg #[.bool kc1, .slice kc2 kc3 kc4, .bool kc5, .slice kc6 kc7 kc8]) (t 2) ∧ FR w (.agg #[.bool kd1, .slice kd2 kd3 kd4, .bool kd5, .slice kd6 kd7 kd8]) (t 3)
theorem SimR.keeps {w w' : World} {v : Value} {t : Nat → Rat} (h : SimR w v t) (k : Keeps w w') : SimR w' v t := by
 obtain ⟨ka1, ka2, ka3, ka4, ka5, ka6, ka7, ka8, kb1, kb2, kb3, kb4, kb5, kb6, kb7, kb8, kc1, kc2, kc3, kc4, kc5, kc6, kc7, kc8, kd1, kd2, kd3, kd4, kd5, kd6, kd7, kd8, rfl, h0, h1, h2, h3⟩ := h
 exact ⟨_, _, _, _, _, _, _, _, _, _, _, _, _, _, _, _, _, _, _, _, _, _, _, _, _, _, _, _, _, _, _, _, rfl, h0.keeps k, h1.keeps k, h2.keeps k, h3.keeps k⟩
theorem mapply {ka1 ka5 kb1 kb5 kc1 kc5 kd1 kd5 : Bool} {ka2 ka6 kb2 kb6 kc2 kc6 kd2 kd6 : Option Addr} {ka3 ka4 ka7 ka8 kb3 kb4 kb7 kb8 kc3 kc4 kc7 kc8 kd3 kd4 kd7 kd8 : Nat} {t : Nat → Rat} {gc : Nat} {tc : TypeId} (px py : Int) (w : World) (hc : Blk w gc tc #[.int .i64 0]) (h0 : FR w (.agg #[.bool ka1, .slice ka2 ka3 ka4, .bool ka5, .slice ka6 ka7 ka8]) (t 0)) (h1 : FR w (.agg #[.bool kb1, .slice kb2 kb3 kb4, .bool kb5, .slice kb6 kb7 kb8]) (t 1)) (h2 : FR w (.agg #[.bool kc1, .slice kc2 kc3 kc4, .bool kc5, .slice kc6 kc7 kc8]) (t 2)) (h3 : FR w (.agg #[.bool kd1, .slice kd2 kd3 kd4, .bool kd5, .slice kd6 kd7 kd8]) (t 3)) (s0 : sz (t 0) 64) (s1 : sz (t 1) 64) (s2 : sz (t 2) 64) (s3 : sz (t 3) 64) (hp : -1048576 ≤ px ∧ px ≤ 1048576) (hq : -1048576 ≤ py ∧ py ≤ 1048576) :
  Calls Tryz.prog 42 #[.pointer (some ⟨gc, 0, none⟩), .agg #[.bool ka1, .slice ka2 ka3 ka4, .bool ka5, .slice ka6 ka7 ka8, .bool kb1, .slice kb2 kb3 kb4, .bool kb5, .slice kb6 kb7 kb8, .bool kc1, .slice kc2 kc3 kc4, .bool kc5, .slice kc6 kc7 kc8, .bool kd1, .slice kd2 kd3 kd4, .bool kd5, .slice kd6 kd7 kd8], .agg #[.int .i64 px, .int .i64 py]] w fun e w' => ∃ u v, e = .returned (.tuple #[u, v]) ∧ FR w' u (apX t (px, py)) ∧ FR w' v (apY t (px, py)) ∧ Steps w w' := by
 have KC : ∀ w', Below w.heap.size w w' → Blk w' gc tc #[.int .i64 0] := fun w' s => hc.steps s
 have sx : sz (px : Rat) 2 := sz_coord hp
 have sy : sz (py : Rat) 2 := sz_coord hq
 have ofx : ∀ w', Below w.heap.size w w' → Calls Tryz.prog 66 #[.pointer (some ⟨gc, 0, none⟩), .int .i64 px] w' fun e w2 => ∃ v, e = .returned v ∧ FR w2 v (px : Rat) ∧ Steps w' w2 := fun w' s => mof px w' (KC w' s) (by omega) (by omega)
 have ofy : ∀ w', Below w.heap.size w w' → Calls Tryz.prog 66 #[.pointer (some ⟨gc, 0, none⟩), .int .i64 py] w' fun e w2 => ∃ v, e = .returned v ∧ FR w2 v (py : Rat) ∧ Steps w' w2 := fun w' s => mof py w' (KC w' s) (by omega) (by omega)
 have e1 : apX t (px, py) = t 0 * (px : Rat) - t 1 * (py : Rat) + t 2 := rfl
 have e2 : apY t (px, py) = t 1 * (px : Rat) + t 0 * (py : Rat) + t 3 := rfl
 rw [e1, e2]
 clear e1 e2 hp hq
 generalize (px : Rat) = x at *
 generalize (py : Rat) = y at *
 have F0 := Hid.mk_ h0
 have F1 := Hid.mk_ h1
 have F2 := Hid.mk_ h2
 have F3 := Hid.mk_ h3
 clear h0 h1 h2 h3 hc
 generalize t 0 = p at *
 generalize t 1 = q at *
 generalize t 2 = r at *
 generalize t 3 = s at *
 go_enter Tryz.func42, Tryz.ntmps42
 go_upto_region 1 with fail
 refine Reg.wp_chain_n (fun N0 D v W => Below w.heap.size w W ∧ Keeps w W ∧ N0 ≤ W.heap.size ∧ Blk W (w.heap.size) 30 #[.bool ka1, .slice ka2 ka3 ka4, .bool ka5, .slice ka6 ka7 ka8, .bool kb1, .slice kb2 kb3 kb4, .bool kb5, .slice kb6 kb7 kb8, .bool kc1, .slice kc2 kc3 kc4, .bool kc5, .slice kc6 kc7 kc8, .bool kd1, .slice kd2 kd3 kd4, .bool kd5, .slice kd6 kd7 kd8] ∧ Blk W (w.heap.size + 1) 23 #[.int .i64 px, .int .i64 py] ∧ Blk W (w.heap.size + 1 + 1) 28 #[.bool false, .slice none 0 0, .bool false, .slice none 0 0] ∧ Blk W (w.heap.size + 1 + 1 + 1) 28 #[.bool false, .slice none 0 0, .bool false, .slice none 0 0] ∧ (D 8 = true → ∃ g : Nat, v 8 = .pointer (some ⟨g, 0, none⟩) ∧ N0 ≤ g ∧ g < W.heap.size ∧ (D 10 = false → Blk W g 28 #[.bool false, .slice none 0 0, .bool false, .slice none 0 0]) ∧ (D 10 = true → D 3 = true ∧ ∃ cs, v 3 = .agg cs ∧ Blk W g 28 cs)) ∧ (D 9 = true → ∃ g : Nat, v 9 = .pointer (some ⟨g, 0, none⟩) ∧ N0 ≤ g ∧ g < W.heap.size ∧ (D 11 = false → Blk W g 28 #[.bool false, .slice none 0 0, .bool false, .slice none 0 0]) ∧ (D 11 = true → D 7 = true ∧ ∃ cs, v 7 = .agg cs ∧ Blk W g 28 cs)) ∧ (D 8 = true → D 9 = true → v 8 ≠ v 9))
  (Reg.inl [3, 7, 8, 9, 10, 11]) (Reg.gv [(3, IsFr), (7, IsFr), (8, IsPtr), (9, IsPtr)]) (gw [(3, GFr (x)), (7, GFr (y))]) (fun _ => Keeps) (fun _ _ => False) (Reg.pl [(10, [(3, some 13), (8, some 8)]), (11, [(7, some 17), (9, some 9)]), (12, [(3, some 13), (7, some 17), (8, some 8), (9, some 9)])]) (Reg.pl [(8, [10]), (3, [10]), (9, [11]), (7, [11])])
  (by kernel_rfl) (by kernel_rfl) (by kernel_rfl) (Reg.gvA _) (fun N0 hN0 => ⟨fun v => ?_, fun D v v' W hv hj => ?_, fun D v k j W W' x _ _ _ _ hk hg => gwA hk hg, fun _ _ _ _ h => h.elim, fun ops' Q' hops hQ => ?_⟩)
 · exact ⟨belowB, keepsB, by first | with_reducible exact Nat.le_of_eq hN0.out | (simp only [World.size_drew]; with_reducible exact Nat.le_of_eq hN0.out), ownK, ownK, ownK, ownK, (fun h => Bool.noConfusion h), (fun h => Bool.noConfusion h), (fun h => Bool.noConfusion h)⟩
 ·
  obtain ⟨j0, jk, jn, b_t, b_i, b_r, b_q, a_8, a_9, q_8_9⟩ := hj
  exact ⟨j0, jk, jn, b_t, b_i, b_r, b_q, fun h => by obtain ⟨g, e1, e2, e3, e4, e5⟩ := a_8 h; exact ⟨g, (hv 8 h) ▸ e1, e2, e3, e4, fun h => by obtain ⟨d, cs, e, hb⟩ := e5 h; exact ⟨d, cs, (hv 3 d) ▸ e, hb⟩⟩, fun h => by obtain ⟨g, e1, e2, e3, e4, e5⟩ := a_9 h; exact ⟨g, (hv 9 h) ▸ e1, e2, e3, e4, fun h => by obtain ⟨d, cs, e, hb⟩ := e5 h; exact ⟨d, cs, (hv 7 d) ▸ e, hb⟩⟩, fun h h' => (hv 8 h) ▸ (hv 9 h') ▸ q_8_9 h h'⟩
 have eN := hN0.out
 try simp only [World.size_alloc, World.size_setCell, World.size_drew, World.heap_drewN] at eN
 have i_t : w.heap.size < N0 := by first | omega | (have h := ot.lt; omega)
 have i_i : w.heap.size + 1 < N0 := by first | omega | (have h := oi.lt; omega)
 have i_r : w.heap.size + 1 + 1 < N0 := by first | omega | (have h := or.lt; omega)
 have i_q : w.heap.size + 1 + 1 + 1 < N0 := by first | omega | (have h := oq.lt; omega)
 have iw : w.heap.size ≤ N0 := by first | omega | (have h := B.size; omega)
 clear hN0 eN
 refine Reg.RP0 10 ?_
 refine Reg.RP0 11 ?_
 apply Reg.RP rfl rfl rfl 12 rfl rfl
 ·
  intro D v' W' hc hj hf K hK
  obtain ⟨j0, jk, jn, b_t, b_i, b_r, b_q, a_8, a_9, q_8_9⟩ := hj
  have c0 := b_i.q0
  go_step
  exact hK.out
 · rfl
 refine Reg.RC_call rfl (tlt rfl) rfl (fun D v' W' hc hj hf K hK => ?_) ?_
 ·
  obtain ⟨j0, jk, jn, b_t, b_i, b_r, b_q, a_8, a_9, q_8_9⟩ := hj
  clear hf
  go_step
  refine (ofx W' j0).mono ?_
  rintro e W2 ⟨u, rfl, hu, hs⟩
  obtain ⟨xa1, xa2, xa3, xa4, xa5, xa6, xa7, xa8, rfl⟩ := hu.shape
  exact hK.out _ W2 (Keeps.steps hs) ⟨jst j0 hs, jk.then_ hs, jsz jn hs, b_t.steps hs, b_i.steps hs, b_r.steps hs, b_q.steps hs, fun h => by obtain ⟨g, e1, e2, e3, e4, e5⟩ := a_8 h; exact ⟨g, e1, e2, Nat.lt_of_lt_of_le e3 (hs).size, fun h => (e4 h).steps hs, fun h => Bool.noConfusion ((hc.2 10 (by decide)).symm.trans h)⟩, fun h => by obtain ⟨g, e1, e2, e3, e4, e5⟩ := a_9 h; exact ⟨g, e1, e2, Nat.lt_of_lt_of_le e3 (hs).size, fun h => (e4 h).steps hs, fun h => by obtain ⟨d, cs, e, hb⟩ := e5 h; exact ⟨d, cs, e, hb.steps hs⟩⟩, q_8_9⟩ hu ⟨_, _, _, _, _, _, _, _, rfl⟩
 rintro _ ⟨xa1, xa2, xa3, xa4, xa5, xa6, xa7, xa8, rfl⟩
 refine Reg.at52 rfl ?_
 refine Reg.RP0 14 ?_
 refine Reg.RP0 15 ?_
 apply Reg.RP rfl rfl rfl 16 rfl rfl
 ·
  intro D v' W' hc hj hf K hK
  obtain ⟨j0, jk, jn, b_t, b_i, b_r, b_q, a_8, a_9, q_8_9⟩ := hj
  have c1 := b_i.q1
  go_step
  exact hK.out
 · rfl
 refine Reg.RC_call rfl (tlt rfl) rfl (fun D v' W' hc hj hf K hK => ?_) ?_
 ·
  obtain ⟨j0, jk, jn, b_t, b_i, b_r, b_q, a_8, a_9, q_8_9⟩ := hj
  clear hf
  go_step
  refine (ofy W' j0).mono ?_
  rintro e W2 ⟨u, rfl, hu, hs⟩
  obtain ⟨xb1, xb2, xb3, xb4, xb5, xb6, xb7, xb8, rfl⟩ := hu.shape
  exact hK.out _ W2 (Keeps.steps hs) ⟨jst j0 hs, jk.then_ hs, jsz jn hs, b_t.steps hs, b_i.steps hs, b_r.steps hs, b_q.steps hs, fun h => by obtain ⟨g, e1, e2, e3, e4, e5⟩ := a_8 h; exact ⟨g, e1, e2, Nat.lt_of_lt_of_le e3 (hs).size, fun h => (e4 h).steps hs, fun h => by obtain ⟨d, cs, e, hb⟩ := e5 h; exact ⟨d, cs, e, hb.steps hs⟩⟩, fun h => by obtain ⟨g, e1, e2, e3, e4, e5⟩ := a_9 h; exact ⟨g, e1, e2, Nat.lt_of_lt_of_le e3 (hs).size, fun h => (e4 h).steps hs, fun h => Bool.noConfusion ((hc.2 11 (by decide)).symm.trans h)⟩, q_8_9⟩ hu ⟨_, _, _, _, _, _, _, _, rfl⟩
 rintro _ ⟨xb1, xb2, xb3, xb4, xb5, xb6, xb7, xb8, rfl⟩
 refine Reg.at52 rfl ?_
 refine Reg.RC_call rfl (tlt rfl) rfl (fun D v' W' hc hj hf K hK => ?_) ?_
 ·
  obtain ⟨j0, jk, jn, b_t, b_i, b_r, b_q, a_8, a_9, q_8_9⟩ := hj
  go_step
  have hs : ∀ o : Obj, Steps W' (W'.alloc o) := fun o => (Below.refl _ _).alloc (Nat.le_refl _) o
  exact hK.out _ _ (Keeps.steps (hs _)) ⟨jst j0 (hs _), jk.then_ (hs _), jsz jn (hs _), b_t.steps (hs _), b_i.steps (hs _), b_r.steps (hs _), b_q.steps (hs _), fun _ => ⟨W'.heap.size, rfl, jn, by rw [World.size_alloc]; omega, fun _ => Blk.new _ _ _, fun h => Bool.noConfusion ((hc.2 10 (by decide)).symm.trans h)⟩, fun h => by obtain ⟨g, e1, e2, e3, e4, e5⟩ := a_9 h; exact ⟨g, e1, e2, Nat.lt_of_lt_of_le e3 ((hs _)).size, fun h => (e4 h).steps (hs _), fun h => by obtain ⟨d, cs, e, hb⟩ := e5 h; exact ⟨d, cs, e, hb.steps (hs _)⟩⟩, fun _ h' => by obtain ⟨g, e1, e2, e3, e4, e5⟩ := a_9 h'; exact fun e => Reg.ptr_ne e3 (e.trans e1)⟩ trivial ⟨_, rfl⟩
 rintro _ ⟨p8, rfl⟩
 refine Reg.at52 rfl ?_
 refine Reg.RC_call rfl (tlt rfl) rfl (fun D v' W' hc hj hf K hK => ?_) ?_
 ·
  obtain ⟨j0, jk, jn, b_t, b_i, b_r, b_q, a_8, a_9, q_8_9⟩ := hj
  go_step
  have hs : ∀ o : Obj, Steps W' (W'.alloc o) := fun o => (Below.refl _ _).alloc (Nat.le_refl _) o
  exact hK.out _ _ (Keeps.steps (hs _)) ⟨jst j0 (hs _), jk.then_ (hs _), jsz jn (hs _), b_t.steps (hs _), b_i.steps (hs _), b_r.steps (hs _), b_q.steps (hs _), fun h => by obtain ⟨g, e1, e2, e3, e4, e5⟩ := a_8 h; exact ⟨g, e1, e2, Nat.lt_of_lt_of_le e3 ((hs _)).size, fun h => (e4 h).steps (hs _), fun h => by obtain ⟨d, cs, e, hb⟩ := e5 h; exact ⟨d, cs, e, hb.steps (hs _)⟩⟩, fun _ => ⟨W'.heap.size, rfl, jn, by rw [World.size_alloc]; omega, fun _ => Blk.new _ _ _, fun h => Bool.noConfusion ((hc.2 11 (by decide)).symm.trans h)⟩, fun h _ => by obtain ⟨g, e1, e2, e3, e4, e5⟩ := a_8 h; exact fun e => Reg.ptr_ne e3 (e.symm.trans e1)⟩ trivial ⟨_, rfl⟩
 rintro _ ⟨p9, rfl⟩
 refine Reg.at52 rfl ?_
 refine Reg.RC_call rfl (by intro t ht; cases ht) rfl (fun D v' W' hc hj hf K hK => ?_) (fun _ _ => Reg.RC_at (b := ⟨_, _⟩) rfl ?_)
 ·
  obtain ⟨j0, jk, jn, b_t, b_i, b_r, b_q, a_8, a_9, q_8_9⟩ := hj
  have f := hf (8, some 8) (.tail _ (.head _)) rfl
  have e6 : v' 8 = .pointer (some ⟨p8, 0, none⟩) := f.2.1
  obtain ⟨g, e1, e2, e3, e4, e5⟩ := a_8 f.1
  obtain rfl : p8 = g := Reg.ptr_eq (e6.symm.trans e1)
  have hb := e4 hc.1
  clear e4 e5
  have fc := hf (3, some 13) (.head _) rfl
  have ec : v' 3 = .agg #[.bool xa1, .slice xa2 xa3 xa4, .bool xa5, .slice xa6 xa7 xa8] := fc.2.1
  have ff := hb.fr
  obtain ⟨cc0, cc1, cc2, cc3⟩ := hb.r3
  go_step
  exact hK.out undef _ (keeps4 hb rfl) ⟨(below4 j0 (by show w.heap.size ≤ p8; omega)), jk.trans (keeps4 hb rfl), by simpa using jn, (b_t).far4 (show w.heap.size ≠ p8 by omega), (b_i).far4 (show w.heap.size + 1 ≠ p8 by omega), (b_r).far4 (show w.heap.size + 1 + 1 ≠ p8 by omega), (b_q).far4 (show w.heap.size + 1 + 1 + 1 ≠ p8 by omega), fun _ => ⟨p8, e1, e2, by simpa using e3, fun h => Bool.noConfusion h, fun _ => ⟨fc.1, _, ec, (Blk.set2 (cs' := #[.bool xa1, .slice xa2 xa3 xa4, .bool xa5, .slice xa6 xa7 xa8]) (Blk.set2 (cs' := #[.bool xa1, .slice xa2 xa3 xa4, .bool xa5, .slice none 0 0]) (Blk.set2 (cs' := #[.bool xa1, .slice xa2 xa3 xa4, .bool false, .slice none 0 0]) (Blk.set2 (cs' := #[.bool xa1, .slice none 0 0, .bool false, .slice none 0 0]) hb (i := 0) rfl) (i := 1) rfl) (i := 2) rfl) (i := 3) rfl)⟩⟩, fun h => by obtain ⟨g, k1, k2, k3, k4, k5⟩ := a_9 h; have hne : g ≠ p8 := fun e => (q_8_9 f.1 h) (by rw [e6, k1, e]); exact ⟨g, k1, k2, by simpa using k3, fun h => (k4 h).far4 hne, fun h => by obtain ⟨d, cs, e, hb2⟩ := k5 h; exact ⟨d, cs, e, (hb2).far4 hne⟩⟩, q_8_9⟩ trivial trivial
 refine Reg.RC_call rfl (by intro t ht; cases ht) rfl (fun D v' W' hc hj hf K hK => ?_) (fun _ _ => Reg.RC_at (b := ⟨_, _⟩) rfl ?_)
 ·
  obtain ⟨j0, jk, jn, b_t, b_i, b_r, b_q, a_8, a_9, q_8_9⟩ := hj
  have f := hf (9, some 9) (.tail _ (.head _)) rfl
  have e6 : v' 9 = .pointer (some ⟨p9, 0, none⟩) := f.2.1
  obtain ⟨g, e1, e2, e3, e4, e5⟩ := a_9 f.1
  obtain rfl : p9 = g := Reg.ptr_eq (e6.symm.trans e1)
  have hb := e4 hc.1
  clear e4 e5
  have fc := hf (7, some 17) (.head _) rfl
  have ec : v' 7 = .agg #[.bool xb1, .slice xb2 xb3 xb4, .bool xb5, .slice xb6 xb7 xb8] := fc.2.1
  have ff := hb.fr
  obtain ⟨cc0, cc1, cc2, cc3⟩ := hb.r3
  go_step
  exact hK.out undef _ (keeps4 hb rfl) ⟨(below4 j0 (by show w.heap.size ≤ p9; omega)), jk.trans (keeps4 hb rfl), by simpa using jn, (b_t).far4 (show w.heap.size ≠ p9 by omega), (b_i).far4 (show w.heap.size + 1 ≠ p9 by omega), (b_r).far4 (show w.heap.size + 1 + 1 ≠ p9 by omega), (b_q).far4 (show w.heap.size + 1 + 1 + 1 ≠ p9 by omega), fun h => by obtain ⟨g, k1, k2, k3, k4, k5⟩ := a_8 h; have hne : g ≠ p9 := fun e => (q_8_9 h f.1) (by rw [e6, k1, e]); exact ⟨g, k1, k2, by simpa using k3, fun h => (k4 h).far4 hne, fun h => by obtain ⟨d, cs, e, hb2⟩ := k5 h; exact ⟨d, cs, e, (hb2).far4 hne⟩⟩, fun _ => ⟨p9, e1, e2, by simpa using e3, fun h => Bool.noConfusion h, fun _ => ⟨fc.1, _, ec, (Blk.set2 (cs' := #[.bool xb1, .slice xb2 xb3 xb4, .bool xb5, .slice xb6 xb7 xb8]) (Blk.set2 (cs' := #[.bool xb1, .slice xb2 xb3 xb4, .bool xb5, .slice none 0 0]) (Blk.set2 (cs' := #[.bool xb1, .slice xb2 xb3 xb4, .bool false, .slice none 0 0]) (Blk.set2 (cs' := #[.bool xb1, .slice none 0 0, .bool false, .slice none 0 0]) hb (i := 0) rfl) (i := 1) rfl) (i := 2) rfl) (i := 3) rfl)⟩⟩, q_8_9⟩ trivial trivial
 refine Reg.RC_end (fun Dn v' w1 hd hj hf => ?_)
 obtain ⟨j0, jk, jn, b_t, b_i, b_r, b_q, a_8, a_9, q_8_9⟩ := hj
 have B := j0
 have ot := b_t
 clear b_t
 have oi := b_i
 clear b_i
 have or := b_r
 clear b_r
 have oq := b_q
 clear b_q
 have f := hf (8, some 8) (.tail _ (.tail _ (.head _))) rfl
 have e6_ : v' 8 = .pointer (some ⟨p8, 0, none⟩) := f.2.1
 obtain ⟨g, e1_, zv8, -, -, e5_⟩ := a_8 f.1
 obtain rfl : p8 = g := Reg.ptr_eq (e6_.symm.trans e1_)
 obtain ⟨-, cs_, ee, ov8⟩ := e5_ (hd 10 (Nat.le_of_ble_eq_true rfl))
 have ef : v' 3 = .agg #[.bool xa1, .slice xa2 xa3 xa4, .bool xa5, .slice xa6 xa7 xa8] := (hf (3, some 13) (.head _) rfl).2.1
 obtain rfl : #[.bool xa1, .slice xa2 xa3 xa4, .bool xa5, .slice xa6 xa7 xa8] = cs_ := by have := ef.symm.trans ee; simpa only [Value.tuple.injEq, Value.agg.injEq, Array.mk.injEq, List.cons.injEq, and_true, true_and] using this
 clear ee ef f e5_ e1_ e6_
 have f := hf (9, some 9) (.tail _ (.tail _ (.tail _ (.head _)))) rfl
 have e6_ : v' 9 = .pointer (some ⟨p9, 0, none⟩) := f.2.1
 obtain ⟨g, e1_, zv9, -, -, e5_⟩ := a_9 f.1
 obtain rfl : p9 = g := Reg.ptr_eq (e6_.symm.trans e1_)
 obtain ⟨-, cs_, ee, ov9⟩ := e5_ (hd 11 (Nat.le_of_ble_eq_true rfl))
 have ef : v' 7 = .agg #[.bool xb1, .slice xb2 xb3 xb4, .bool xb5, .slice xb6 xb7 xb8] := (hf (7, some 17) (.tail _ (.head _)) rfl).2.1
 obtain rfl : #[.bool xb1, .slice xb2 xb3 xb4, .bool xb5, .slice xb6 xb7 xb8] = cs_ := by have := ef.symm.trans ee; simpa only [Value.tuple.injEq, Value.agg.injEq, Array.mk.injEq, List.cons.injEq, and_true, true_and] using this
 clear ee ef f e5_ e1_ e6_
 have y_8_9 : p8 ≠ p9 := fun e => q_8_9 (hf (8, some 8) (.tail _ (.tail _ (.head _))) rfl).1 (hf (9, some 9) (.tail _ (.tail _ (.tail _ (.head _)))) rfl).1 (by have h1 := (hf (8, some 8) (.tail _ (.tail _ (.head _))) rfl).2.1; have h2 := (hf (9, some 9) (.tail _ (.tail _ (.tail _ (.head _)))) rfl).2.1; rw [h1, h2]; show Value.pointer _ = .pointer _; rw [e])
 have Fxa : Hid (FR w1 (.agg #[.bool xa1, .slice xa2 xa3 xa4, .bool xa5, .slice xa6 xa7 xa8]) (x)) := (hf (3, some 13) (.head _) rfl).2.2
 have Fxb : Hid (FR w1 (.agg #[.bool xb1, .slice xb2 xb3 xb4, .bool xb5, .slice xb6 xb7 xb8]) (y)) := (hf (7, some 17) (.tail _ (.head _)) rfl).2.2
 replace F0 := Hid.mk_ (F0.out.keeps jk)
 replace F1 := Hid.mk_ (F1.out.keeps jk)
 replace F2 := Hid.mk_ (F2.out.keeps jk)
 replace F3 := Hid.mk_ (F3.out.keeps jk)
 clear hd hf jk j0 q_8_9
 refine hQ _ _ ?_
 clear hQ hops Q' ops'
 obtain ⟨ct0, ct1, ct2, ct3, ct4, ct5, ct6, ct7, ct8, ct9, ct10, ct11, ct12, ct13, ct14, ct15⟩ := ot.r15
 have lt := ot.lt
 have li := oi.lt
 have lr := or.lt
 have lq := oq.lt
 obtain ⟨cv80, cv81, cv82, cv83⟩ := ov8.r3
 have lv8 := ov8.lt
 obtain ⟨cv90, cv91, cv92, cv93⟩ := ov9.r3
 have lv9 := ov9.lt
 have zv9_1 : p9 < w1.heap.size := ov9.lt
 have zv8_1 : p8 < w1.heap.size := ov8.lt
 have zz1 := B.size
 go_upto_region 2 with fail
 refine Reg.wp_chain_n (fun N0 D v W => Below w.heap.size w W ∧ Keeps w1 W ∧ N0 ≤ W.heap.size ∧ Blk W (w.heap.size) 30 #[.bool ka1, .slice ka2 ka3 ka4, .bool ka5, .slice ka6 ka7 ka8, .bool kb1, .slice kb2 kb3 kb4, .bool kb5, .slice kb6 kb7 kb8, .bool kc1, .slice kc2 kc3 kc4, .bool kc5, .slice kc6 kc7 kc8, .bool kd1, .slice kd2 kd3 kd4, .bool kd5, .slice kd6 kd7 kd8] ∧ Blk W (w.heap.size + 1) 23 #[.int .i64 px, .int .i64 py] ∧ ((D 16 = false → Blk W (w.heap.size + 1 + 1) 28 #[.bool false, .slice none 0 0, .bool false, .slice none 0 0]) ∧ (D 16 = true → D 15 = true ∧ ∃ cs, v 15 = .agg cs ∧ Blk W (w.heap.size + 1 + 1) 28 cs)) ∧ Blk W (w.heap.size + 1 + 1 + 1) 28 #[.bool false, .slice none 0 0, .bool false, .slice none 0 0] ∧ Blk W (p8) 28 #[.bool xa1, .slice xa2 xa3 xa4, .bool xa5, .slice xa6 xa7 xa8] ∧ Blk W (p9) 28 #[.bool xb1, .slice xb2 xb3 xb4, .bool xb5, .slice xb6 xb7 xb8])
  (Reg.inl [6, 11, 12, 15, 16]) (Reg.gv [(6, IsFr), (11, IsFr), (12, IsFr), (15, IsFr)]) (gw [(6, GFr ((p * x))), (11, GFr ((q * y))), (12, GFr (((p * x) - (q * y)))), (15, GFr ((((p * x) - (q * y)) + r)))]) (fun _ => Keeps) (fun _ _ => False) (Reg.pl [(12, [(6, some 24), (11, some 29)]), (15, [(12, some 30)]), (16, [(15, some 33)]), (17, [(6, some 24), (11, some 29), (12, some 30), (15, some 33)])]) (Reg.pl [(15, [16])])
  (by kernel_rfl) (by kernel_rfl) (by kernel_rfl) (Reg.gvA _) (fun N0 hN0 => ⟨fun v => ?_, fun D v v' W hv hj => ?_, fun D v k j W W' x _ _ _ _ hk hg => gwA hk hg, fun _ _ _ _ h => h.elim, fun ops' Q' hops hQ => ?_⟩)
 · exact ⟨belowB, keepsB, by first | with_reducible exact Nat.le_of_eq hN0.out | (simp only [World.size_drew]; with_reducible exact Nat.le_of_eq hN0.out), ownK, ownK, ⟨fun _ => ownK, (fun h => Bool.noConfusion h)⟩, ownK, ownK, ownK⟩
 ·
  obtain ⟨j0, jk, jn, b_t, b_i, b_r, b_q, b_v8, b_v9⟩ := hj
  exact ⟨j0, jk, jn, b_t, b_i, ⟨b_r.1, fun h => by obtain ⟨d, cs, e, hb⟩ := b_r.2 h; exact ⟨d, cs, (hv 15 d) ▸ e, hb⟩⟩, b_q, b_v8, b_v9⟩
 have eN := hN0.out
 try simp only [World.size_alloc, World.size_setCell, World.size_drew, World.heap_drewN] at eN
 have i_t : w.heap.size < N0 := by first | omega | (have h := ot.lt; omega)
 have i_i : w.heap.size + 1 < N0 := by first | omega | (have h := oi.lt; omega)
 have i_r : w.heap.size + 1 + 1 < N0 := by first | omega | (have h := or.lt; omega)
 have i_q : w.heap.size + 1 + 1 + 1 < N0 := by first | omega | (have h := oq.lt; omega)
 have i_v8 : p8 < N0 := by first | omega | (have h := ov8.lt; omega)
 have i_v9 : p9 < N0 := by first | omega | (have h := ov9.lt; omega)
 have iw : w.heap.size ≤ N0 := by first | omega | (have h := B.size; omega)
 clear ct0 ct1 ct2 ct3 ct4 ct5 ct6 ct7 ct8 ct9 ct10 ct11 ct12 ct13 ct14 ct15 lt li lr lq cv80 cv81 cv82 cv83 lv8 cv90 cv91 cv92 cv93 lv9
 clear hN0
 refine Reg.RP0 18 ?_
 refine Reg.RP0 19 ?_
 refine Reg.RP0 20 ?_
 refine Reg.RP0 21 ?_
 apply Reg.RP rfl rfl rfl 22 rfl rfl
 ·
  intro D v' W' hc hj hf K hK
  obtain ⟨j0, jk, jn, b_t, b_i, b_r, b_q, b_v8, b_v9⟩ := hj
  obtain ⟨c0, c1, c2, c3⟩ := b_t.r3
  go_step
  exact hK.out
 · rfl
 apply Reg.RP rfl rfl rfl 23 rfl rfl
 ·
  intro D v' W' hc hj hf K hK
  obtain ⟨j0, jk, jn, b_t, b_i, b_r, b_q, b_v8, b_v9⟩ := hj
  obtain ⟨c0, c1, c2, c3⟩ := b_v8.r3
  go_step
  exact hK.out
 · rfl
 refine Reg.RC_call rfl (tlt rfl) rfl (fun D v' W' hc hj hf K hK => ?_) ?_
 ·
  obtain ⟨j0, jk, jn, b_t, b_i, b_r, b_q, b_v8, b_v9⟩ := hj
  clear hf
  go_step
  refine (mmul W' (KC _ j0) (F0.out.keeps jk) (Fxa.out.keeps jk) s0 sx (by omega)).mono ?_
  rintro e W2 ⟨u, rfl, hu, hs⟩
  obtain ⟨xc1, xc2, xc3, xc4, xc5, xc6, xc7, xc8, rfl⟩ := hu.shape
  exact hK.out _ W2 (Keeps.steps hs) ⟨jst j0 hs, jk.then_ hs, jsz jn hs, b_t.steps hs, b_i.steps hs, ⟨fun h => (b_r.1 h).steps hs, fun h => by obtain ⟨d, cs, e, hb⟩ := b_r.2 h; exact ⟨d, cs, e, hb.steps hs⟩⟩, b_q.steps hs, b_v8.steps hs, b_v9.steps hs⟩ hu ⟨_, _, _, _, _, _, _, _, rfl⟩
 rintro _ ⟨xc1, xc2, xc3, xc4, xc5, xc6, xc7, xc8, rfl⟩
 refine Reg.at52 rfl ?_
 refine Reg.RP0 25 ?_
 refine Reg.RP0 26 ?_
 apply Reg.RP rfl rfl rfl 27 rfl rfl
 ·
  intro D v' W' hc hj hf K hK
  obtain ⟨j0, jk, jn, b_t, b_i, b_r, b_q, b_v8, b_v9⟩ := hj
  have c4 := b_t.q4
  have c5 := b_t.q5
  have c6 := b_t.q6
  have c7 := b_t.q7
  go_step
  exact hK.out
 · rfl
 apply Reg.RP rfl rfl rfl 28 rfl rfl
 ·
  intro D v' W' hc hj hf K hK
  obtain ⟨j0, jk, jn, b_t, b_i, b_r, b_q, b_v8, b_v9⟩ := hj
  obtain ⟨c0, c1, c2, c3⟩ := b_v9.r3
  go_step
  exact hK.out
 · rfl
 refine Reg.RC_call rfl (tlt rfl) rfl (fun D v' W' hc hj hf K hK => ?_) ?_
 ·
  obtain ⟨j0, jk, jn, b_t, b_i, b_r, b_q, b_v8, b_v9⟩ := hj
  clear hf
  go_step
  refine (mmul W' (KC _ j0) (F1.out.keeps jk) (Fxb.out.keeps jk) s1 sy (by omega)).mono ?_
  rintro e W2 ⟨u, rfl, hu, hs⟩
  obtain ⟨xd1, xd2, xd3, xd4, xd5, xd6, xd7, xd8, rfl⟩ := hu.shape
  exact hK.out _ W2 (Keeps.steps hs) ⟨jst j0 hs, jk.then_ hs, jsz jn hs, b_t.steps hs, b_i.steps hs, ⟨fun h => (b_r.1 h).steps hs, fun h => by obtain ⟨d, cs, e, hb⟩ := b_r.2 h; exact ⟨d, cs, e, hb.steps hs⟩⟩, b_q.steps hs, b_v8.steps hs, b_v9.steps hs⟩ hu ⟨_, _, _, _, _, _, _, _, rfl⟩
 rintro _ ⟨xd1, xd2, xd3, xd4, xd5, xd6, xd7, xd8, rfl⟩
 refine Reg.at52 rfl ?_
 refine Reg.RC_call rfl (tlt rfl) rfl (fun D v' W' hc hj hf K hK => ?_) ?_
 ·
  obtain ⟨j0, jk, jn, b_t, b_i, b_r, b_q, b_v8, b_v9⟩ := hj
  have g6 : GFr ((p * x)) _ W' := (hf (6, some 24) (.head _) rfl).2.2
  have g6 : FR W' _ ((p * x)) := g6
  have g11 : GFr ((q * y)) _ W' := (hf (11, some 29) (.tail _ (.head _)) rfl).2.2
  have g11 : FR W' _ ((q * y)) := g11
  clear hf
  go_step
  refine (msub W' (KC _ j0) g6 g11 (s0.mul sx) (s1.mul sy) (by omega)).mono ?_
  rintro e W2 ⟨u, rfl, hu, hs⟩
  obtain ⟨xe1, xe2, xe3, xe4, xe5, xe6, xe7, xe8, rfl⟩ := hu.shape
  exact hK.out _ W2 (Keeps.steps hs) ⟨jst j0 hs, jk.then_ hs, jsz jn hs, b_t.steps hs, b_i.steps hs, ⟨fun h => (b_r.1 h).steps hs, fun h => by obtain ⟨d, cs, e, hb⟩ := b_r.2 h; exact ⟨d, cs, e, hb.steps hs⟩⟩, b_q.steps hs, b_v8.steps hs, b_v9.steps hs⟩ hu ⟨_, _, _, _, _, _, _, _, rfl⟩
 rintro _ ⟨xe1, xe2, xe3, xe4, xe5, xe6, xe7, xe8, rfl⟩
 refine Reg.at52 rfl ?_
 refine Reg.RP0 31 ?_
 apply Reg.RP rfl rfl rfl 32 rfl rfl
 ·
  intro D v' W' hc hj hf K hK
  obtain ⟨j0, jk, jn, b_t, b_i, b_r, b_q, b_v8, b_v9⟩ := hj
  have c8 := b_t.q8
  have c9 := b_t.q9
  have c10 := b_t.q10
  have c11 := b_t.q11
  go_step
  exact hK.out
 · rfl
 refine Reg.RC_call rfl (tlt rfl) rfl (fun D v' W' hc hj hf K hK => ?_) ?_
 ·
  obtain ⟨j0, jk, jn, b_t, b_i, b_r, b_q, b_v8, b_v9⟩ := hj
  have g12 : GFr (((p * x) - (q * y))) _ W' := (hf (12, some 30) (.head _) rfl).2.2
  have g12 : FR W' _ (((p * x) - (q * y))) := g12
  clear hf
  go_step
  refine (madd W' (KC _ j0) g12 (F2.out.keeps jk) ((s0.mul sx).sub (s1.mul sy)) s2 (by omega)).mono ?_
  rintro e W2 ⟨u, rfl, hu, hs⟩
  obtain ⟨xf1, xf2, xf3, xf4, xf5, xf6, xf7, xf8, rfl⟩ := hu.shape
  exact hK.out _ W2 (Keeps.steps hs) ⟨jst j0 hs, jk.then_ hs, jsz jn hs, b_t.steps hs, b_i.steps hs, ⟨fun h => (b_r.1 h).steps hs, fun h => Bool.noConfusion ((hc.2 16 (by decide)).symm.trans h)⟩, b_q.steps hs, b_v8.steps hs, b_v9.steps hs⟩ hu ⟨_, _, _, _, _, _, _, _, rfl⟩
 rintro _ ⟨xf1, xf2, xf3, xf4, xf5, xf6, xf7, xf8, rfl⟩
 refine Reg.at52 rfl ?_
 refine Reg.RC_call rfl (by intro t ht; cases ht) rfl (fun D v' W' hc hj hf K hK => ?_) (fun _ _ => Reg.RC_at (b := ⟨_, _⟩) rfl ?_)
 ·
  obtain ⟨j0, jk, jn, b_t, b_i, b_r, b_q, b_v8, b_v9⟩ := hj
  have hb := b_r.1 hc.1
  have e2 : w.heap.size ≤ w.heap.size + 1 + 1 := by omega
  have fc := hf (15, some 33) (.head _) rfl
  have ec : v' 15 = .agg #[.bool xf1, .slice xf2 xf3 xf4, .bool xf5, .slice xf6 xf7 xf8] := fc.2.1
  have ff := hb.fr
  obtain ⟨cc0, cc1, cc2, cc3⟩ := hb.r3
  go_step
  exact hK.out undef _ (keeps4 hb rfl) ⟨(below4 j0 (by show w.heap.size ≤ w.heap.size + 1 + 1; omega)), jk.trans (keeps4 hb rfl), by simpa using jn, (b_t).far4 (show w.heap.size ≠ w.heap.size + 1 + 1 by omega), (b_i).far4 (show w.heap.size + 1 ≠ w.heap.size + 1 + 1 by omega), ⟨fun h => Bool.noConfusion h, fun _ => ⟨fc.1, _, ec, (Blk.set2 (cs' := #[.bool xf1, .slice xf2 xf3 xf4, .bool xf5, .slice xf6 xf7 xf8]) (Blk.set2 (cs' := #[.bool xf1, .slice xf2 xf3 xf4, .bool xf5, .slice none 0 0]) (Blk.set2 (cs' := #[.bool xf1, .slice xf2 xf3 xf4, .bool false, .slice none 0 0]) (Blk.set2 (cs' := #[.bool xf1, .slice none 0 0, .bool false, .slice none 0 0]) hb (i := 0) rfl) (i := 1) rfl) (i := 2) rfl) (i := 3) rfl)⟩⟩, (b_q).far4 (show w.heap.size + 1 + 1 + 1 ≠ w.heap.size + 1 + 1 by omega), (b_v8).far4 (show p8 ≠ w.heap.size + 1 + 1 by omega), (b_v9).far4 (show p9 ≠ w.heap.size + 1 + 1 by omega)⟩ trivial trivial
 refine Reg.RC_end (fun Dn v' w2 hd hj hf => ?_)
 obtain ⟨j0, jk, jn, b_t, b_i, b_r, b_q, b_v8, b_v9⟩ := hj
 have B := j0
 have ot := b_t
 clear b_t
 have oi := b_i
 clear b_i
 obtain ⟨-, cs_, ee, or⟩ := b_r.2 (hd 16 (Nat.le_of_ble_eq_true rfl))
 have ef : v' 15 = .agg #[.bool xf1, .slice xf2 xf3 xf4, .bool xf5, .slice xf6 xf7 xf8] := (hf (15, some 33) (.tail _ (.tail _ (.tail _ (.head _)))) rfl).2.1
 obtain rfl : #[.bool xf1, .slice xf2 xf3 xf4, .bool xf5, .slice xf6 xf7 xf8] = cs_ := by have := ef.symm.trans ee; simpa only [Value.tuple.injEq, Value.agg.injEq, Array.mk.injEq, List.cons.injEq, and_true, true_and] using this
 clear b_r ee ef
 have oq := b_q
 clear b_q
 have ov8 := b_v8
 clear b_v8
 have ov9 := b_v9
 clear b_v9
 have Fxf : Hid (FR w2 (.agg #[.bool xf1, .slice xf2 xf3 xf4, .bool xf5, .slice xf6 xf7 xf8]) ((((p * x) - (q * y)) + r))) := (hf (15, some 33) (.tail _ (.tail _ (.tail _ (.head _)))) rfl).2.2
 replace F0 := Hid.mk_ (F0.out.keeps jk)
 replace F1 := Hid.mk_ (F1.out.keeps jk)
 replace F2 := Hid.mk_ (F2.out.keeps jk)
 replace F3 := Hid.mk_ (F3.out.keeps jk)
 replace Fxa := Hid.mk_ (Fxa.out.keeps jk)
 replace Fxb := Hid.mk_ (Fxb.out.keeps jk)
 clear hd hf jk j0
 refine hQ _ _ ?_
 clear hQ hops Q' ops'
 obtain ⟨ct0, ct1, ct2, ct3, ct4, ct5, ct6, ct7, ct8, ct9, ct10, ct11, ct12, ct13, ct14, ct15⟩ := ot.r15
 have lt := ot.lt
 have li := oi.lt
 have lr := or.lt
 have lq := oq.lt
 obtain ⟨cv80, cv81, cv82, cv83⟩ := ov8.r3
 have lv8 := ov8.lt
 obtain ⟨cv90, cv91, cv92, cv93⟩ := ov9.r3
 have lv9 := ov9.lt
 have zv9_2 : p9 < w2.heap.size := ov9.lt
 have zv8_2 : p8 < w2.heap.size := ov8.lt
 have zz2 := B.size
 go_upto_region 3 with fail
 refine Reg.wp_chain_n (fun N0 D v W => Below w.heap.size w W ∧ Keeps w2 W ∧ N0 ≤ W.heap.size ∧ Blk W (w.heap.size) 30 #[.bool ka1, .slice ka2 ka3 ka4, .bool ka5, .slice ka6 ka7 ka8, .bool kb1, .slice kb2 kb3 kb4, .bool kb5, .slice kb6 kb7 kb8, .bool kc1, .slice kc2 kc3 kc4, .bool kc5, .slice kc6 kc7 kc8, .bool kd1, .slice kd2 kd3 kd4, .bool kd5, .slice kd6 kd7 kd8] ∧ Blk W (w.heap.size + 1) 23 #[.int .i64 px, .int .i64 py] ∧ Blk W (w.heap.size + 1 + 1) 28 #[.bool xf1, .slice xf2 xf3 xf4, .bool xf5, .slice xf6 xf7 xf8] ∧ ((D 16 = false → Blk W (w.heap.size + 1 + 1 + 1) 28 #[.bool false, .slice none 0 0, .bool false, .slice none 0 0]) ∧ (D 16 = true → D 15 = true ∧ ∃ cs, v 15 = .agg cs ∧ Blk W (w.heap.size + 1 + 1 + 1) 28 cs)) ∧ Blk W (p8) 28 #[.bool xa1, .slice xa2 xa3 xa4, .bool xa5, .slice xa6 xa7 xa8] ∧ Blk W (p9) 28 #[.bool xb1, .slice xb2 xb3 xb4, .bool xb5, .slice xb6 xb7 xb8])
  (Reg.inl [6, 11, 12, 15, 16]) (Reg.gv [(6, IsFr), (11, IsFr), (12, IsFr), (15, IsFr)]) (gw [(6, GFr ((q * x))), (11, GFr ((p * y))), (12, GFr (((q * x) + (p * y)))), (15, GFr ((((q * x) + (p * y)) + s)))]) (fun _ => Keeps) (fun _ _ => False) (Reg.pl [(12, [(6, some 40), (11, some 45)]), (15, [(12, some 46)]), (16, [(15, some 49)]), (17, [(6, some 40), (11, some 45), (12, some 46), (15, some 49)])]) (Reg.pl [(15, [16])])
  (by kernel_rfl) (by kernel_rfl) (by kernel_rfl) (Reg.gvA _) (fun N0 hN0 => ⟨fun v => ?_, fun D v v' W hv hj => ?_, fun D v k j W W' x _ _ _ _ hk hg => gwA hk hg, fun _ _ _ _ h => h.elim, fun ops' Q' hops hQ => ?_⟩)
 · exact ⟨belowB, keepsB, by first | with_reducible exact Nat.le_of_eq hN0.out | (simp only [World.size_drew]; with_reducible exact Nat.le_of_eq hN0.out), ownK, ownK, ownK, ⟨fun _ => ownK, (fun h => Bool.noConfusion h)⟩, ownK, ownK⟩
 ·
  obtain ⟨j0, jk, jn, b_t, b_i, b_r, b_q, b_v8, b_v9⟩ := hj
  exact ⟨j0, jk, jn, b_t, b_i, b_r, ⟨b_q.1, fun h => by obtain ⟨d, cs, e, hb⟩ := b_q.2 h; exact ⟨d, cs, (hv 15 d) ▸ e, hb⟩⟩, b_v8, b_v9⟩
 have eN := hN0.out
 try simp only [World.size_alloc, World.size_setCell, World.size_drew, World.heap_drewN] at eN
 have i_t : w.heap.size < N0 := by first | omega | (have h := ot.lt; omega)
 have i_i : w.heap.size + 1 < N0 := by first | omega | (have h := oi.lt; omega)
 have i_r : w.heap.size + 1 + 1 < N0 := by first | omega | (have h := or.lt; omega)
 have i_q : w.heap.size + 1 + 1 + 1 < N0 := by first | omega | (have h := oq.lt; omega)
 have i_v8 : p8 < N0 := by first | omega | (have h := ov8.lt; omega)
 have i_v9 : p9 < N0 := by first | omega | (have h := ov9.lt; omega)
 have iw : w.heap.size ≤ N0 := by first | omega | (have h := B.size; omega)
 clear ct0 ct1 ct2 ct3 ct4 ct5 ct6 ct7 ct8 ct9 ct10 ct11 ct12 ct13 ct14 ct15 lt li lr lq cv80 cv81 cv82 cv83 lv8 cv90 cv91 cv92 cv93 lv9
 clear hN0
 refine Reg.RP0 34 ?_
 refine Reg.RP0 35 ?_
 refine Reg.RP0 36 ?_
 refine Reg.RP0 37 ?_
 apply Reg.RP rfl rfl rfl 38 rfl rfl
 ·
  intro D v' W' hc hj hf K hK
  obtain ⟨j0, jk, jn, b_t, b_i, b_r, b_q, b_v8, b_v9⟩ := hj
  have c4 := b_t.q4
  have c5 := b_t.q5
  have c6 := b_t.q6
  have c7 := b_t.q7
  go_step
  exact hK.out
 · rfl
 apply Reg.RP rfl rfl rfl 39 rfl rfl
 ·
  intro D v' W' hc hj hf K hK
  obtain ⟨j0, jk, jn, b_t, b_i, b_r, b_q, b_v8, b_v9⟩ := hj
  obtain ⟨c0, c1, c2, c3⟩ := b_v8.r3
  go_step
  exact hK.out
 · rfl
 refine Reg.RC_call rfl (tlt rfl) rfl (fun D v' W' hc hj hf K hK => ?_) ?_
 ·
  obtain ⟨j0, jk, jn, b_t, b_i, b_r, b_q, b_v8, b_v9⟩ := hj
  clear hf
  go_step
  refine (mmul W' (KC _ j0) (F1.out.keeps jk) (Fxa.out.keeps jk) s1 sx (by omega)).mono ?_
  rintro e W2 ⟨u, rfl, hu, hs⟩
  obtain ⟨xg1, xg2, xg3, xg4, xg5, xg6, xg7, xg8, rfl⟩ := hu.shape
  exact hK.out _ W2 (Keeps.steps hs) ⟨jst j0 hs, jk.then_ hs, jsz jn hs, b_t.steps hs, b_i.steps hs, b_r.steps hs, ⟨fun h => (b_q.1 h).steps hs, fun h => by obtain ⟨d, cs, e, hb⟩ := b_q.2 h; exact ⟨d, cs, e, hb.steps hs⟩⟩, b_v8.steps hs, b_v9.steps hs⟩ hu ⟨_, _, _, _, _, _, _, _, rfl⟩
 rintro _ ⟨xg1, xg2, xg3, xg4, xg5, xg6, xg7, xg8, rfl⟩
 refine Reg.at52 rfl ?_
 refine Reg.RP0 41 ?_
 refine Reg.RP0 42 ?_
 apply Reg.RP rfl rfl rfl 43 rfl rfl
 ·
  intro D v' W' hc hj hf K hK
  obtain ⟨j0, jk, jn, b_t, b_i, b_r, b_q, b_v8, b_v9⟩ := hj
  obtain ⟨c0, c1, c2, c3⟩ := b_t.r3
  go_step
  exact hK.out
 · rfl
 apply Reg.RP rfl rfl rfl 44 rfl rfl
 ·
  intro D v' W' hc hj hf K hK
  obtain ⟨j0, jk, jn, b_t, b_i, b_r, b_q, b_v8, b_v9⟩ := hj
  obtain ⟨c0, c1, c2, c3⟩ := b_v9.r3
  go_step
  exact hK.out
 · rfl
 refine Reg.RC_call rfl (tlt rfl) rfl (fun D v' W' hc hj hf K hK => ?_) ?_
 ·
  obtain ⟨j0, jk, jn, b_t, b_i, b_r, b_q, b_v8, b_v9⟩ := hj
  clear hf
  go_step
  refine (mmul W' (KC _ j0) (F0.out.keeps jk) (Fxb.out.keeps jk) s0 sy (by omega)).mono ?_
  rintro e W2 ⟨u, rfl, hu, hs⟩
  obtain ⟨xh1, xh2, xh3, xh4, xh5, xh6, xh7, xh8, rfl⟩ := hu.shape
  exact hK.out _ W2 (Keeps.steps hs) ⟨jst j0 hs, jk.then_ hs, jsz jn hs, b_t.steps hs, b_i.steps hs, b_r.steps hs, ⟨fun h => (b_q.1 h).steps hs, fun h => by obtain ⟨d, cs, e, hb⟩ := b_q.2 h; exact ⟨d, cs, e, hb.steps hs⟩⟩, b_v8.steps hs, b_v9.steps hs⟩ hu ⟨_, _, _, _, _, _, _, _, rfl⟩
 rintro _ ⟨xh1, xh2, xh3, xh4, xh5, xh6, xh7, xh8, rfl⟩
 refine Reg.at52 rfl ?_
 refine Reg.RC_call rfl (tlt rfl) rfl (fun D v' W' hc hj hf K hK => ?_) ?_
 ·
  obtain ⟨j0, jk, jn, b_t, b_i, b_r, b_q, b_v8, b_v9⟩ := hj
  have g6 : GFr ((q * x)) _ W' := (hf (6, some 40) (.head _) rfl).2.2
  have g6 : FR W' _ ((q * x)) := g6
  have g11 : GFr ((p * y)) _ W' := (hf (11, some 45) (.tail _ (.head _)) rfl).2.2
  have g11 : FR W' _ ((p * y)) := g11
  clear hf
  go_step
  refine (madd W' (KC _ j0) g6 g11 (s1.mul sx) (s0.mul sy) (by omega)).mono ?_
  rintro e W2 ⟨u, rfl, hu, hs⟩
  obtain ⟨xi1, xi2, xi3, xi4, xi5, xi6, xi7, xi8, rfl⟩ := hu.shape
  exact hK.out _ W2 (Keeps.steps hs) ⟨jst j0 hs, jk.then_ hs, jsz jn hs, b_t.steps hs, b_i.steps hs, b_r.steps hs, ⟨fun h => (b_q.1 h).steps hs, fun h => by obtain ⟨d, cs, e, hb⟩ := b_q.2 h; exact ⟨d, cs, e, hb.steps hs⟩⟩, b_v8.steps hs, b_v9.steps hs⟩ hu ⟨_, _, _, _, _, _, _, _, rfl⟩
 rintro _ ⟨xi1, xi2, xi3, xi4, xi5, xi6, xi7, xi8, rfl⟩
 refine Reg.at52 rfl ?_
 refine Reg.RP0 47 ?_
 apply Reg.RP rfl rfl rfl 48 rfl rfl
 ·
  intro D v' W' hc hj hf K hK
  obtain ⟨j0, jk, jn, b_t, b_i, b_r, b_q, b_v8, b_v9⟩ := hj
  have c12 := b_t.q12
  have c13 := b_t.q13
  have c14 := b_t.q14
  have c15 := b_t.q15
  go_step
  exact hK.out
 · rfl
 refine Reg.RC_call rfl (tlt rfl) rfl (fun D v' W' hc hj hf K hK => ?_) ?_
 ·
  obtain ⟨j0, jk, jn, b_t, b_i, b_r, b_q, b_v8, b_v9⟩ := hj
  have g12 : GFr (((q * x) + (p * y))) _ W' := (hf (12, some 46) (.head _) rfl).2.2
  have g12 : FR W' _ (((q * x) + (p * y))) := g12
  clear hf
  go_step
  refine (madd W' (KC _ j0) g12 (F3.out.keeps jk) ((s1.mul sx).add (s0.mul sy)) s3 (by omega)).mono ?_
  rintro e W2 ⟨u, rfl, hu, hs⟩
  obtain ⟨xj1, xj2, xj3, xj4, xj5, xj6, xj7, xj8, rfl⟩ := hu.shape
  exact hK.out _ W2 (Keeps.steps hs) ⟨jst j0 hs, jk.then_ hs, jsz jn hs, b_t.steps hs, b_i.steps hs, b_r.steps hs, ⟨fun h => (b_q.1 h).steps hs, fun h => Bool.noConfusion ((hc.2 16 (by decide)).symm.trans h)⟩, b_v8.steps hs, b_v9.steps hs⟩ hu ⟨_, _, _, _, _, _, _, _, rfl⟩
 rintro _ ⟨xj1, xj2, xj3, xj4, xj5, xj6, xj7, xj8, rfl⟩
 refine Reg.at52 rfl ?_
 refine Reg.RC_call rfl (by intro t ht; cases ht) rfl (fun D v' W' hc hj hf K hK => ?_) (fun _ _ => Reg.RC_at (b := ⟨_, _⟩) rfl ?_)
 ·
  obtain ⟨j0, jk, jn, b_t, b_i, b_r, b_q, b_v8, b_v9⟩ := hj
  have hb := b_q.1 hc.1
  have e2 : w.heap.size ≤ w.heap.size + 1 + 1 + 1 := by omega
  have fc := hf (15, some 49) (.head _) rfl
  have ec : v' 15 = .agg #[.bool xj1, .slice xj2 xj3 xj4, .bool xj5, .slice xj6 xj7 xj8] := fc.2.1
  have ff := hb.fr
  obtain ⟨cc0, cc1, cc2, cc3⟩ := hb.r3
  go_step
  exact hK.out undef _ (keeps4 hb rfl) ⟨(below4 j0 (by show w.heap.size ≤ w.heap.size + 1 + 1 + 1; omega)), jk.trans (keeps4 hb rfl), by simpa using jn, (b_t).far4 (show w.heap.size ≠ w.heap.size + 1 + 1 + 1 by omega), (b_i).far4 (show w.heap.size + 1 ≠ w.heap.size + 1 + 1 + 1 by omega), (b_r).far4 (show w.heap.size + 1 + 1 ≠ w.heap.size + 1 + 1 + 1 by omega), ⟨fun h => Bool.noConfusion h, fun _ => ⟨fc.1, _, ec, (Blk.set2 (cs' := #[.bool xj1, .slice xj2 xj3 xj4, .bool xj5, .slice xj6 xj7 xj8]) (Blk.set2 (cs' := #[.bool xj1, .slice xj2 xj3 xj4, .bool xj5, .slice none 0 0]) (Blk.set2 (cs' := #[.bool xj1, .slice xj2 xj3 xj4, .bool false, .slice none 0 0]) (Blk.set2 (cs' := #[.bool xj1, .slice none 0 0, .bool false, .slice none 0 0]) hb (i := 0) rfl) (i := 1) rfl) (i := 2) rfl) (i := 3) rfl)⟩⟩, (b_v8).far4 (show p8 ≠ w.heap.size + 1 + 1 + 1 by omega), (b_v9).far4 (show p9 ≠ w.heap.size + 1 + 1 + 1 by omega)⟩ trivial trivial
 refine Reg.RC_end (fun Dn v' w3 hd hj hf => ?_)
 obtain ⟨j0, jk, jn, b_t, b_i, b_r, b_q, b_v8, b_v9⟩ := hj
 have B := j0
 have ot := b_t
 clear b_t
 have oi := b_i
 clear b_i
 have or := b_r
 clear b_r
 obtain ⟨-, cs_, ee, oq⟩ := b_q.2 (hd 16 (Nat.le_of_ble_eq_true rfl))
 have ef : v' 15 = .agg #[.bool xj1, .slice xj2 xj3 xj4, .bool xj5, .slice xj6 xj7 xj8] := (hf (15, some 49) (.tail _ (.tail _ (.tail _ (.head _)))) rfl).2.1
 obtain rfl : #[.bool xj1, .slice xj2 xj3 xj4, .bool xj5, .slice xj6 xj7 xj8] = cs_ := by have := ef.symm.trans ee; simpa only [Value.tuple.injEq, Value.agg.injEq, Array.mk.injEq, List.cons.injEq, and_true, true_and] using this
 clear b_q ee ef
 have ov8 := b_v8
 clear b_v8
 have ov9 := b_v9
 clear b_v9
 have Fxj : Hid (FR w3 (.agg #[.bool xj1, .slice xj2 xj3 xj4, .bool xj5, .slice xj6 xj7 xj8]) ((((q * x) + (p * y)) + s))) := (hf (15, some 49) (.tail _ (.tail _ (.tail _ (.head _)))) rfl).2.2
 replace F0 := Hid.mk_ (F0.out.keeps jk)
 replace F1 := Hid.mk_ (F1.out.keeps jk)
 replace F2 := Hid.mk_ (F2.out.keeps jk)
 replace F3 := Hid.mk_ (F3.out.keeps jk)
 replace Fxa := Hid.mk_ (Fxa.out.keeps jk)
 replace Fxb := Hid.mk_ (Fxb.out.keeps jk)
 replace Fxf := Hid.mk_ (Fxf.out.keeps jk)
 clear hd hf jk j0
 refine hQ _ _ ?_
 clear hQ hops Q' ops'
 have lt := ot.lt
 have li := oi.lt
 obtain ⟨cr0, cr1, cr2, cr3⟩ := or.r3
 have lr := or.lt
 obtain ⟨cq0, cq1, cq2, cq3⟩ := oq.r3
 have lq := oq.lt
 have zv9_3 : p9 < w3.heap.size := ov9.lt
 have zv8_3 : p8 < w3.heap.size := ov8.lt
 have zz3 := B.size
 go_upto_region 4 with fail
 refine Reg.wp_chain_n (fun N0 D v W => Below w.heap.size w W ∧ Keeps w3 W ∧ N0 ≤ W.heap.size ∧ Blk W (w.heap.size) 30 #[.bool ka1, .slice ka2 ka3 ka4, .bool ka5, .slice ka6 ka7 ka8, .bool kb1, .slice kb2 kb3 kb4, .bool kb5, .slice kb6 kb7 kb8, .bool kc1, .slice kc2 kc3 kc4, .bool kc5, .slice kc6 kc7 kc8, .bool kd1, .slice kd2 kd3 kd4, .bool kd5, .slice kd6 kd7 kd8] ∧ Blk W (w.heap.size + 1) 23 #[.int .i64 px, .int .i64 py] ∧ ((D 2 = false → Blk W (w.heap.size + 1 + 1) 28 #[.bool xf1, .slice xf2 xf3 xf4, .bool xf5, .slice xf6 xf7 xf8]) ∧ (D 2 = true → Blk W (w.heap.size + 1 + 1) 28 #[.bool xf1, .slice xf2 xf3 xf4, .bool xf5, .slice xf6 xf7 xf8])) ∧ ((D 3 = false → Blk W (w.heap.size + 1 + 1 + 1) 28 #[.bool xj1, .slice xj2 xj3 xj4, .bool xj5, .slice xj6 xj7 xj8]) ∧ (D 3 = true → Blk W (w.heap.size + 1 + 1 + 1) 28 #[.bool xj1, .slice xj2 xj3 xj4, .bool xj5, .slice xj6 xj7 xj8])) ∧ Blk W (p8) 28 #[.bool xa1, .slice xa2 xa3 xa4, .bool xa5, .slice xa6 xa7 xa8] ∧ Blk W (p9) 28 #[.bool xb1, .slice xb2 xb3 xb4, .bool xb5, .slice xb6 xb7 xb8])
  (Reg.inl [2, 3]) (Reg.gv []) (gw []) (fun _ => Keeps) (fun _ _ => False) (Reg.pl [(4, [])]) (Reg.pl [(0, [2]), (1, [3])])
  (by kernel_rfl) (by kernel_rfl) (by kernel_rfl) (Reg.gv_some _ (by intro p hp; cases hp)) (fun N0 hN0 => ⟨fun v => ?_, fun D v v' W hv hj => ?_, fun D v k j W W' x _ _ _ _ hk hg => gw_keeps _ (by intro p hp; cases hp) hk hg, fun _ _ _ _ h => h.elim, fun ops' Q' hops hQ => ?_⟩)
 · exact ⟨belowB, keepsB, by first | with_reducible exact Nat.le_of_eq hN0.out | (simp only [World.size_drew]; with_reducible exact Nat.le_of_eq hN0.out), ownK, ownK, ⟨fun _ => ownK, (fun h => Bool.noConfusion h)⟩, ⟨fun _ => ownK, (fun h => Bool.noConfusion h)⟩, ownK, ownK⟩
 ·
  obtain ⟨j0, jk, jn, b_t, b_i, b_r, b_q, b_v8, b_v9⟩ := hj
  exact ⟨j0, jk, jn, b_t, b_i, b_r, b_q, b_v8, b_v9⟩
 have eN := hN0.out
 try simp only [World.size_alloc, World.size_setCell, World.size_drew, World.heap_drewN] at eN
 have i_t : w.heap.size < N0 := by first | omega | (have h := ot.lt; omega)
 have i_i : w.heap.size + 1 < N0 := by first | omega | (have h := oi.lt; omega)
 have i_r : w.heap.size + 1 + 1 < N0 := by first | omega | (have h := or.lt; omega)
 have i_q : w.heap.size + 1 + 1 + 1 < N0 := by first | omega | (have h := oq.lt; omega)
 have i_v8 : p8 < N0 := by first | omega | (have h := ov8.lt; omega)
 have i_v9 : p9 < N0 := by first | omega | (have h := ov9.lt; omega)
 have iw : w.heap.size ≤ N0 := by first | omega | (have h := B.size; omega)
 clear lt li cr0 cr1 cr2 cr3 lr cq0 cq1 cq2 cq3 lq
 clear hN0
 apply Reg.RP rfl rfl rfl 50 rfl rfl
 ·
  intro D v' W' hc hj hf K hK
  obtain ⟨j0, jk, jn, b_t, b_i, b_r, b_q, b_v8, b_v9⟩ := hj
  have b_r := b_r.1 (hc.2 2 (by decide))
  obtain ⟨c0, c1, c2, c3⟩ := b_r.r3
  go_step
  exact hK.out
 · rfl
 apply Reg.RP rfl rfl rfl 51 rfl rfl
 ·
  intro D v' W' hc hj hf K hK
  obtain ⟨j0, jk, jn, b_t, b_i, b_r, b_q, b_v8, b_v9⟩ := hj
  have b_q := b_q.1 (hc.2 3 (by decide))
  obtain ⟨c0, c1, c2, c3⟩ := b_q.r3
  go_step
  exact hK.out
 · rfl
 refine Reg.RC_call rfl (by intro t ht; cases ht) rfl (fun D v' W' hc hj hf K hK => ?_) (fun _ _ => Reg.RC_at (b := ⟨_, _⟩) rfl ?_)
 ·
  obtain ⟨j0, jk, jn, b_t, b_i, b_r, b_q, b_v8, b_v9⟩ := hj
  have hb := b_r.1 hc.1
  have e2 : w.heap.size ≤ w.heap.size + 1 + 1 := by omega
  have ff := hb.fr
  obtain ⟨cc0, cc1, cc2, cc3⟩ := hb.r3
  go_step
  exact hK.out undef _ (keeps4 hb rfl) ⟨(below4 j0 (by show w.heap.size ≤ w.heap.size + 1 + 1; omega)), jk.trans (keeps4 hb rfl), by simpa using jn, (b_t).far4 (show w.heap.size ≠ w.heap.size + 1 + 1 by omega), (b_i).far4 (show w.heap.size + 1 ≠ w.heap.size + 1 + 1 by omega), ⟨fun h => Bool.noConfusion h, fun _ => (Blk.set2 (cs' := #[.bool xf1, .slice xf2 xf3 xf4, .bool xf5, .slice xf6 xf7 xf8]) (Blk.set2 (cs' := #[.bool xf1, .slice xf2 xf3 xf4, .bool xf5, .slice xf6 xf7 xf8]) (Blk.set2 (cs' := #[.bool xf1, .slice xf2 xf3 xf4, .bool xf5, .slice xf6 xf7 xf8]) (Blk.set2 (cs' := #[.bool xf1, .slice xf2 xf3 xf4, .bool xf5, .slice xf6 xf7 xf8]) hb (i := 0) rfl) (i := 1) rfl) (i := 2) rfl) (i := 3) rfl)⟩, ⟨fun h => (b_q.1 h).far4 (show w.heap.size + 1 + 1 + 1 ≠ w.heap.size + 1 + 1 by omega), fun h => (b_q.2 h).far4 (show w.heap.size + 1 + 1 + 1 ≠ w.heap.size + 1 + 1 by omega)⟩, (b_v8).far4 (show p8 ≠ w.heap.size + 1 + 1 by omega), (b_v9).far4 (show p9 ≠ w.heap.size + 1 + 1 by omega)⟩ trivial trivial
 refine Reg.RC_call rfl (by intro t ht; cases ht) rfl (fun D v' W' hc hj hf K hK => ?_) (fun _ _ => Reg.RC_at (b := ⟨_, _⟩) rfl ?_)
 ·
  obtain ⟨j0, jk, jn, b_t, b_i, b_r, b_q, b_v8, b_v9⟩ := hj
  have hb := b_q.1 hc.1
  have e2 : w.heap.size ≤ w.heap.size + 1 + 1 + 1 := by omega
  have ff := hb.fr
  obtain ⟨cc0, cc1, cc2, cc3⟩ := hb.r3
  go_step
  exact hK.out undef _ (keeps4 hb rfl) ⟨(below4 j0 (by show w.heap.size ≤ w.heap.size + 1 + 1 + 1; omega)), jk.trans (keeps4 hb rfl), by simpa using jn, (b_t).far4 (show w.heap.size ≠ w.heap.size + 1 + 1 + 1 by omega), (b_i).far4 (show w.heap.size + 1 ≠ w.heap.size + 1 + 1 + 1 by omega), ⟨fun h => (b_r.1 h).far4 (show w.heap.size + 1 + 1 ≠ w.heap.size + 1 + 1 + 1 by omega), fun h => (b_r.2 h).far4 (show w.heap.size + 1 + 1 ≠ w.heap.size + 1 + 1 + 1 by omega)⟩, ⟨fun h => Bool.noConfusion h, fun _ => (Blk.set2 (cs' := #[.bool xj1, .slice xj2 xj3 xj4, .bool xj5, .slice xj6 xj7 xj8]) (Blk.set2 (cs' := #[.bool xj1, .slice xj2 xj3 xj4, .bool xj5, .slice xj6 xj7 xj8]) (Blk.set2 (cs' := #[.bool xj1, .slice xj2 xj3 xj4, .bool xj5, .slice xj6 xj7 xj8]) (Blk.set2 (cs' := #[.bool xj1, .slice xj2 xj3 xj4, .bool xj5, .slice xj6 xj7 xj8]) hb (i := 0) rfl) (i := 1) rfl) (i := 2) rfl) (i := 3) rfl)⟩, (b_v8).far4 (show p8 ≠ w.heap.size + 1 + 1 + 1 by omega), (b_v9).far4 (show p9 ≠ w.heap.size + 1 + 1 + 1 by omega)⟩ trivial trivial
 refine Reg.RC_end (fun Dn v' w4 hd hj hf => ?_)
 obtain ⟨j0, jk, jn, b_t, b_i, b_r, b_q, b_v8, b_v9⟩ := hj
 have B := j0
 have ot := b_t
 clear b_t
 have oi := b_i
 clear b_i
 have or := b_r.2 (hd 2 (Nat.le_of_ble_eq_true rfl))
 clear b_r
 have oq := b_q.2 (hd 3 (Nat.le_of_ble_eq_true rfl))
 clear b_q
 have ov8 := b_v8
 clear b_v8
 have ov9 := b_v9
 clear b_v9
 replace F0 := Hid.mk_ (F0.out.keeps jk)
 replace F1 := Hid.mk_ (F1.out.keeps jk)
 replace F2 := Hid.mk_ (F2.out.keeps jk)
 replace F3 := Hid.mk_ (F3.out.keeps jk)
 replace Fxa := Hid.mk_ (Fxa.out.keeps jk)
 replace Fxb := Hid.mk_ (Fxb.out.keeps jk)
 replace Fxf := Hid.mk_ (Fxf.out.keeps jk)
 replace Fxj := Hid.mk_ (Fxj.out.keeps jk)
 clear hd hf jk j0
 refine hQ _ _ ?_
 clear hQ hops Q' ops'
 have lt := ot.lt
 have li := oi.lt
 obtain ⟨cr0, cr1, cr2, cr3⟩ := or.r3
 have lr := or.lt
 obtain ⟨cq0, cq1, cq2, cq3⟩ := oq.r3
 have lq := oq.lt
 go_wp2_with fail
 refine bodyPost_ret (by simp [results, Tryz.results42, go_sem, lt, li, cr0, cr1, cr2, cr3, lr, cq0, cq1, cq2, cq3, lq]; rfl) rfl ?_
 exact ⟨_, _, rfl, Fxf.out.keeps keepsB, Fxj.out.keeps keepsB, belowB⟩
def f4q (a b c d : Rat) (i : Nat) : Rat := match i with | 0 => a | 1 => b | 2 => c | _ => d
theorem msimilar {ax ay bx b_y px py qx qy : Int} {gc : Nat} {tc : TypeId} (w : World) (hc : Blk w gc tc #[.int .i64 0]) (ha : okP (ax, ay)) (hb : okP (bx, b_y)) (hp : okP (px, py)) (hq : okP (qx, qy)) (hn : csq (bx - ax) (b_y - ay) ≠ 0) :
  Calls Tryz.prog 38 #[.pointer (some ⟨gc, 0, none⟩), .agg #[.int .i64 ax, .int .i64 ay], .agg #[.int .i64 bx, .int .i64 b_y], .agg #[.int .i64 px, .int .i64 py], .agg #[.int .i64 qx, .int .i64 qy]] w fun e w' => ∃ v, e = .returned v ∧ SimR w' v (simT (ax, ay) (bx, b_y) (px, py) (qx, qy)) ∧ Steps w w' := by
 obtain ⟨a0, a1, a2, a3⟩ := ha
 obtain ⟨b0, b1, b2, b3⟩ := hb
 obtain ⟨p0, p1, p2, p3⟩ := hp
 obtain ⟨q0, q1, q2, q3⟩ := hq
 dsimp only at a0 a1 a2 a3 b0 b1 b2 b3 p0 p1 p2 p3 q0 q1 q2 q3
 obtain ⟨ux, hux⟩ : ∃ z, bx - ax = z := ⟨_, rfl⟩
 obtain ⟨uy, huy⟩ : ∃ z, b_y - ay = z := ⟨_, rfl⟩
 obtain ⟨vx, hvx⟩ : ∃ z, qx - px = z := ⟨_, rfl⟩
 obtain ⟨vy, hvy⟩ : ∃ z, qy - py = z := ⟨_, rfl⟩
 have u1 : -2097152 ≤ ux ∧ ux ≤ 2097152 := by omega
 have u2 : -2097152 ≤ uy ∧ uy ≤ 2097152 := by omega
 have u3 : -2097152 ≤ vx ∧ vx ≤ 2097152 := by omega
 have u4 : -2097152 ≤ vy ∧ vy ≤ 2097152 := by omega
 have hw1 : wrap64 (bx - ax) = ux := by rw [← hux]; unfold wrap64; omega
 have hw2 : wrap64 (b_y - ay) = uy := by rw [← huy]; unfold wrap64; omega
 have hw3 : wrap64 (qx - px) = vx := by rw [← hvx]; unfold wrap64; omega
 have hw4 : wrap64 (qy - py) = vy := by rw [← hvy]; unfold wrap64; omega
 have m1 := mul_bound u1.1 u1.2 u1.1 u1.2
 have m2 := mul_bound u2.1 u2.2 u2.1 u2.2
 have m3 := mul_bound u3.1 u3.2 u1.1 u1.2
 have m4 := mul_bound u4.1 u4.2 u2.1 u2.2
 have m5 := mul_bound u4.1 u4.2 u1.1 u1.2
 have m6 := mul_bound u3.1 u3.2 u2.1 u2.2
 obtain ⟨x1, e1⟩ : ∃ x, ux * ux = x := ⟨_, rfl⟩
 obtain ⟨x2, e2⟩ : ∃ x, uy * uy = x := ⟨_, rfl⟩
 obtain ⟨x3, e3⟩ : ∃ x, vx * ux = x := ⟨_, rfl⟩
 obtain ⟨x4, e4⟩ : ∃ x, vy * uy = x := ⟨_, rfl⟩
 obtain ⟨x5, e5⟩ : ∃ x, vy * ux = x := ⟨_, rfl⟩
 obtain ⟨x6, e6⟩ : ∃ x, vx * uy = x := ⟨_, rfl⟩
 rw [e1] at m1
 rw [e2] at m2
 rw [e3] at m3
 rw [e4] at m4
 rw [e5] at m5
 rw [e6] at m6
 have hw5 : wrap64 (ux * ux) = x1 := by rw [e1]; unfold wrap64; omega
 have hw6 : wrap64 (uy * uy) = x2 := by rw [e2]; unfold wrap64; omega
 have hw7 : wrap64 (vx * ux) = x3 := by rw [e3]; unfold wrap64; omega
 have hw8 : wrap64 (vy * uy) = x4 := by rw [e4]; unfold wrap64; omega
 have hw9 : wrap64 (vy * ux) = x5 := by rw [e5]; unfold wrap64; omega
 have hw10 : wrap64 (vx * uy) = x6 := by rw [e6]; unfold wrap64; omega
 obtain ⟨N, hN⟩ : ∃ x, x1 + x2 = x := ⟨_, rfl⟩
 obtain ⟨A, hA⟩ : ∃ x, x3 + x4 = x := ⟨_, rfl⟩
 obtain ⟨B0, hB⟩ : ∃ x, x5 - x6 = x := ⟨_, rfl⟩
 have hw11 : wrap64 (x1 + x2) = N := by rw [← hN]; unfold wrap64; omega
 have hw12 : wrap64 (x3 + x4) = A := by rw [← hA]; unfold wrap64; omega
 have hw13 : wrap64 (x5 - x6) = B0 := by rw [← hB]; unfold wrap64; omega
 have eN : csq (bx - ax) (b_y - ay) = N := by unfold csq; rw [hux, huy, e1, e2, hN]
 have eA : cre (bx - ax) (b_y - ay) (qx - px) (qy - py) = A := by unfold cre; rw [hux, huy, hvx, hvy, e3, e4, hA]
 have eB : cim (bx - ax) (b_y - ay) (qx - px) (qy - py) = B0 := by unfold cim; rw [hux, huy, hvx, hvy, e5, e6, hB]
 rw [eN] at hn
 have t0 : simT (ax, ay) (bx, b_y) (px, py) (qx, qy) 0 = (A : Rat) / (N : Rat) := by show (cre _ _ _ _ : Rat) / _ = _; rw [eN, eA]
 have t1 : simT (ax, ay) (bx, b_y) (px, py) (qx, qy) 1 = (B0 : Rat) / (N : Rat) := by show (cim _ _ _ _ : Rat) / _ = _; rw [eN, eB]
 have bN : -8796093022208 ≤ N ∧ N ≤ 8796093022208 := by omega
 have bA : -8796093022208 ≤ A ∧ A ≤ 8796093022208 := by omega
 have bB : -8796093022208 ≤ B0 ∧ B0 ≤ 8796093022208 := by omega
 have z0 : sz ((A : Rat) / (N : Rat)) 2 := sz_frac hn (by rw [bp_two]; unfold absN; omega) (by rw [bp_two]; unfold absN; omega)
 have z1 : sz ((B0 : Rat) / (N : Rat)) 2 := sz_frac hn (by rw [bp_two]; unfold absN; omega) (by rw [bp_two]; unfold absN; omega)
 have KC : ∀ w', Below w.heap.size w w' → Blk w' gc tc #[.int .i64 0] := fun w' s => hc.steps s
 have KP : ∀ w' u r, Below w.heap.size w w' → FR w' u r → Calls Tryz.prog 76 #[.pointer (some ⟨gc, 0, none⟩), u, .int .i64 0] w' fun e w2 => ∃ v, e = .returned v ∧ FR w2 v r ∧ Steps w' w2 := fun w' u r s h => mkeepQ w' (KC w' s) h
 have ofA := fun w' => fofQ A N w' (by omega) (by omega) (by omega) (by omega) hn
 have ofB := fun w' => fofQ B0 N w' (by omega) (by omega) (by omega) (by omega) hn
 have sa1 : sz (ax : Rat) 2 := sz_coord ⟨a0, a1⟩
 have sa2 : sz (ay : Rat) 2 := sz_coord ⟨a2, a3⟩
 have sp1 : sz (px : Rat) 2 := sz_coord ⟨p0, p1⟩
 have sp2 : sz (py : Rat) 2 := sz_coord ⟨p2, p3⟩
 have sc0 : sz ((0 : Int) : Rat) 2 := sz_coord (by decide)
 have ofx : ∀ w', Below w.heap.size w w' → Calls Tryz.prog 66 #[.pointer (some ⟨gc, 0, none⟩), .int .i64 px] w' fun e w2 => ∃ v, e = .returned v ∧ FR w2 v (px : Rat) ∧ Steps w' w2 := fun w' s => mof px w' (KC w' s) (by omega) (by omega)
 have ofy : ∀ w', Below w.heap.size w w' → Calls Tryz.prog 66 #[.pointer (some ⟨gc, 0, none⟩), .int .i64 py] w' fun e w2 => ∃ v, e = .returned v ∧ FR w2 v (py : Rat) ∧ Steps w' w2 := fun w' s => mof py w' (KC w' s) (by omega) (by omega)
 have of0 : ∀ w', Below w.heap.size w w' → Calls Tryz.prog 66 #[.pointer (some ⟨gc, 0, none⟩), .int .i64 0] w' fun e w2 => ∃ v, e = .returned v ∧ FR w2 v ((0 : Int) : Rat) ∧ Steps w' w2 := fun w' s => mof 0 w' (KC w' s) (by omega) (by omega)
 obtain ⟨ra, hra⟩ : ∃ z, (A : Rat) / (N : Rat) = z := ⟨_, rfl⟩
 obtain ⟨rb, hrb⟩ : ∃ z, (B0 : Rat) / (N : Rat) = z := ⟨_, rfl⟩
 have t2 : simT (ax, ay) (bx, b_y) (px, py) (qx, qy) 2 = (px : Rat) - (ra * (ax : Rat) - rb * (ay : Rat) + ((0 : Int) : Rat)) := by show (px : Rat) - ((cre _ _ _ _ : Rat) / _ * _ - (cim _ _ _ _ : Rat) / _ * _ + 0) = _; rw [eN, eA, eB, hra, hrb]; rfl
 have t3 : simT (ax, ay) (bx, b_y) (px, py) (qx, qy) 3 = (py : Rat) - (rb * (ax : Rat) + ra * (ay : Rat) + ((0 : Int) : Rat)) := by show (py : Rat) - ((cim _ _ _ _ : Rat) / _ * _ + (cre _ _ _ _ : Rat) / _ * _ + 0) = _; rw [eN, eA, eB, hra, hrb]; rfl
 rw [hra] at t0 z0 ofA
 rw [hrb] at t1 z1 ofB
 have AP : ∀ w' (v0 v1 v2 v3 : Bool × Option Addr × Nat × Nat × Bool × Option Addr × Nat × Nat), Below w.heap.size w w' → FR w' (.agg #[.bool v0.1, .slice v0.2.1 v0.2.2.1 v0.2.2.2.1, .bool v0.2.2.2.2.1, .slice v0.2.2.2.2.2.1 v0.2.2.2.2.2.2.1 v0.2.2.2.2.2.2.2]) ra → FR w' (.agg #[.bool v1.1, .slice v1.2.1 v1.2.2.1 v1.2.2.2.1, .bool v1.2.2.2.2.1, .slice v1.2.2.2.2.2.1 v1.2.2.2.2.2.2.1 v1.2.2.2.2.2.2.2]) rb → FR w' (.agg #[.bool v2.1, .slice v2.2.1 v2.2.2.1 v2.2.2.2.1, .bool v2.2.2.2.2.1, .slice v2.2.2.2.2.2.1 v2.2.2.2.2.2.2.1 v2.2.2.2.2.2.2.2]) ((0 : Int) : Rat) → FR w' (.agg #[.bool v3.1, .slice v3.2.1 v3.2.2.1 v3.2.2.2.1, .bool v3.2.2.2.2.1, .slice v3.2.2.2.2.2.1 v3.2.2.2.2.2.2.1 v3.2.2.2.2.2.2.2]) ((0 : Int) : Rat) → Calls Tryz.prog 42 #[.pointer (some ⟨gc, 0, none⟩), .agg #[.bool v0.1, .slice v0.2.1 v0.2.2.1 v0.2.2.2.1, .bool v0.2.2.2.2.1, .slice v0.2.2.2.2.2.1 v0.2.2.2.2.2.2.1 v0.2.2.2.2.2.2.2, .bool v1.1, .slice v1.2.1 v1.2.2.1 v1.2.2.2.1, .bool v1.2.2.2.2.1, .slice v1.2.2.2.2.2.1 v1.2.2.2.2.2.2.1 v1.2.2.2.2.2.2.2, .bool v2.1, .slice v2.2.1 v2.2.2.1 v2.2.2.2.1, .bool v2.2.2.2.2.1, .slice v2.2.2.2.2.2.1 v2.2.2.2.2.2.2.1 v2.2.2.2.2.2.2.2, .bool v3.1, .slice v3.2.1 v3.2.2.1 v3.2.2.2.1, .bool v3.2.2.2.2.1, .slice v3.2.2.2.2.2.1 v3.2.2.2.2.2.2.1 v3.2.2.2.2.2.2.2], .agg #[.int .i64 ax, .int .i64 ay]] w' fun e w2 => ∃ u v, e = .returned (.tuple #[u, v]) ∧ FR w2 u (ra * (ax : Rat) - rb * (ay : Rat) + ((0 : Int) : Rat)) ∧ FR w2 v (rb * (ax : Rat) + ra * (ay : Rat) + ((0 : Int) : Rat)) ∧ Steps w' w2 := fun w' v0 v1 v2 v3 s h0 h1 h2 h3 => mapply (t := f4q ra rb ((0 : Int) : Rat) ((0 : Int) : Rat)) ax ay w' (KC w' s) h0 h1 h2 h3 (z0.mono (by omega)) (z1.mono (by omega)) (sc0.mono (by omega)) (sc0.mono (by omega)) ⟨a0, a1⟩ ⟨a2, a3⟩
 have zx : sz (ra * (ax : Rat) - rb * (ay : Rat) + ((0 : Int) : Rat)) 12 := (((z0.mul sa1).sub (z1.mul sa2)).add sc0).mono (by omega)
 have zy : sz (rb * (ax : Rat) + ra * (ay : Rat) + ((0 : Int) : Rat)) 12 := (((z1.mul sa1).add (z0.mul sa2)).add sc0).mono (by omega)
 have HT := Hid.mk_ (And.intro t0 (And.intro t1 (And.intro t2 t3)))
 clear t0 t1 t2 t3 hra hrb eN eA eB bN bA bB hN hA hB e1 e2 e3 e4 e5 e6 m1 m2 m3 m4 m5 m6 u1 u2 u3 u4 hux huy hvx hvy a0 a1 a2 a3 b0 b1 b2 b3 p0 p1 p2 p3 q0 q1 q2 q3 hn hc sa1 sa2 sc0
 generalize hgx : ra * (ax : Rat) - rb * (ay : Rat) + ((0 : Int) : Rat) = rx at *
 generalize hgy : rb * (ax : Rat) + ra * (ay : Rat) + ((0 : Int) : Rat) = ry at *
 generalize hp1 : (px : Rat) = pX at *
 generalize hp2 : (py : Rat) = pY at *
 generalize hz : ((0 : Int) : Rat) = zR at *
 clear hgx hgy hp1 hp2 hz
 go_enter Tryz.func38, Tryz.ntmps38
 go_upto_region 1 with fail
 refine Reg.wp_chain_n (fun N0 D v W => Below w.heap.size w W ∧ Keeps w W ∧ N0 ≤ W.heap.size ∧ Blk W (w.heap.size) 23 #[.int .i64 ax, .int .i64 ay] ∧ Blk W (w.heap.size + 1) 23 #[.int .i64 bx, .int .i64 b_y] ∧ Blk W (w.heap.size + 1 + 1) 23 #[.int .i64 px, .int .i64 py] ∧ Blk W (w.heap.size + 1 + 1 + 1) 23 #[.int .i64 qx, .int .i64 qy] ∧ Blk W (w.heap.size + 1 + 1 + 1 + 1) 30 #[.bool false, .slice none 0 0, .bool false, .slice none 0 0, .bool false, .slice none 0 0, .bool false, .slice none 0 0, .bool false, .slice none 0 0, .bool false, .slice none 0 0, .bool false, .slice none 0 0, .bool false, .slice none 0 0])
  (Reg.inl []) (Reg.gv []) (gw []) (fun _ => Keeps) (fun _ _ => False) (Reg.pl [(24, [])]) (Reg.pl [])
  (by kernel_rfl) (by kernel_rfl) (by kernel_rfl) (Reg.gv_some _ (by intro p hp; cases hp)) (fun N0 hN0 => ⟨fun v => ?_, fun D v v' W hv hj => ?_, fun D v k j W W' x _ _ _ _ hk hg => gw_keeps _ (by intro p hp; cases hp) hk hg, fun _ _ _ _ h => h.elim, fun ops' Q' hops hQ => ?_⟩)
 · exact ⟨belowB, keepsB, by first | with_reducible exact Nat.le_of_eq hN0.out | (simp only [World.size_drew]; with_reducible exact Nat.le_of_eq hN0.out), ownK, ownK, ownK, ownK, ownK⟩
 ·
  obtain ⟨j0, jk, jn, b_a, b_b, b_i, b_j, b_r⟩ := hj
  exact ⟨j0, jk, jn, b_a, b_b, b_i, b_j, b_r⟩
 have eN := hN0.out
 try simp only [World.size_alloc, World.size_setCell, World.size_drew, World.heap_drewN] at eN
 have i_a : w.heap.size < N0 := by first | omega | (have h := oa.lt; omega)
 have i_b : w.heap.size + 1 < N0 := by first | omega | (have h := ob.lt; omega)
 have i_i : w.heap.size + 1 + 1 < N0 := by first | omega | (have h := oi.lt; omega)
 have i_j : w.heap.size + 1 + 1 + 1 < N0 := by first | omega | (have h := oj.lt; omega)
 have i_r : w.heap.size + 1 + 1 + 1 + 1 < N0 := by first | omega | (have h := or.lt; omega)
 have iw : w.heap.size ≤ N0 := by first | omega | (have h := B.size; omega)
 clear hN0 eN
 refine Reg.RP0 19 ?_
 apply Reg.RP rfl rfl rfl 20 rfl rfl
 ·
  intro D v' W' hc hj hf K hK
  obtain ⟨j0, jk, jn, b_a, b_b, b_i, b_j, b_r⟩ := hj
  have c0 := b_b.q0
  go_step
  exact hK.out
 · rfl
 refine Reg.RP0 21 ?_
 apply Reg.RP rfl rfl rfl 22 rfl rfl
 ·
  intro D v' W' hc hj hf K hK
  obtain ⟨j0, jk, jn, b_a, b_b, b_i, b_j, b_r⟩ := hj
  have c0 := b_a.q0
  go_step
  exact hK.out
 · rfl
 refine Reg.RP0 23 ?_
 refine Reg.RP0 24 ?_
 apply Reg.RP rfl rfl rfl 25 rfl rfl
 ·
  intro D v' W' hc hj hf K hK
  obtain ⟨j0, jk, jn, b_a, b_b, b_i, b_j, b_r⟩ := hj
  have c1 := b_b.q1
  go_step
  exact hK.out
 · rfl
 refine Reg.RP0 26 ?_
 apply Reg.RP rfl rfl rfl 27 rfl rfl
 ·
  intro D v' W' hc hj hf K hK
  obtain ⟨j0, jk, jn, b_a, b_b, b_i, b_j, b_r⟩ := hj
  have c1 := b_a.q1
  go_step
  exact hK.out
 · rfl
 refine Reg.RP0 28 ?_
 refine Reg.RP0 29 ?_
 apply Reg.RP rfl rfl rfl 30 rfl rfl
 ·
  intro D v' W' hc hj hf K hK
  obtain ⟨j0, jk, jn, b_a, b_b, b_i, b_j, b_r⟩ := hj
  have c0 := b_j.q0
  go_step
  exact hK.out
 · rfl
 refine Reg.RP0 31 ?_
 apply Reg.RP rfl rfl rfl 32 rfl rfl
 ·
  intro D v' W' hc hj hf K hK
  obtain ⟨j0, jk, jn, b_a, b_b, b_i, b_j, b_r⟩ := hj
  have c0 := b_i.q0
  go_step
  exact hK.out
 · rfl
 refine Reg.RP0 33 ?_
 refine Reg.RP0 34 ?_
 apply Reg.RP rfl rfl rfl 35 rfl rfl
 ·
  intro D v' W' hc hj hf K hK
  obtain ⟨j0, jk, jn, b_a, b_b, b_i, b_j, b_r⟩ := hj
  have c1 := b_j.q1
  go_step
  exact hK.out
 · rfl
 refine Reg.RP0 36 ?_
 apply Reg.RP rfl rfl rfl 37 rfl rfl
 ·
  intro D v' W' hc hj hf K hK
  obtain ⟨j0, jk, jn, b_a, b_b, b_i, b_j, b_r⟩ := hj
  have c1 := b_i.q1
  go_step
  exact hK.out
 · rfl
 refine Reg.RP0 38 ?_
 refine Reg.RP0 11 ?_
 refine Reg.RP0 12 ?_
 refine Reg.RP0 13 ?_
 refine Reg.RP0 14 ?_
 refine Reg.RC_end (fun Dn v' w1 hd hj hf => ?_)
 obtain ⟨j0, jk, jn, b_a, b_b, b_i, b_j, b_r⟩ := hj
 have B := j0
 have oa := b_a
 clear b_a
 have ob := b_b
 clear b_b
 have oi := b_i
 clear b_i
 have oj := b_j
 clear b_j
 have or := b_r
 clear b_r
 clear hd hf jk j0
 refine hQ _ _ ?_
 clear hQ hops Q' ops'
 go_wp2_with fail
 refine (ofA _).mono ?_
 rintro e w2 ⟨vya, rfl, hvya, hb2⟩
 have st : Steps _ w2 := hb2
 have sk : Below w1.heap.size w1 w2 := belowA st
 replace B := below_steps B (Nat.le_refl _) sk
 replace oa := oa.steps sk
 replace ob := ob.steps sk
 replace oi := oi.steps sk
 replace oj := oj.steps sk
 replace or := or.steps sk
 clear st sk
 obtain ⟨ya1, ya2, ya3, ya4, ya5, ya6, ya7, ya8, rfl⟩ := hvya.shape
 have Fya := Hid.mk_ hvya
 clear hvya
 go_wp2_with fail
 refine (KP _ _ _ belowB (Fya.out.keeps keepsB)).mono ?_
 rintro e w3 ⟨vee, rfl, hvee, hb3⟩
 have st : Steps _ w3 := hb3
 have sk : Below w2.heap.size w2 w3 := belowA st
 replace B := below_steps B (Nat.le_refl _) sk
 replace oa := oa.steps sk
 replace ob := ob.steps sk
 replace oi := oi.steps sk
 replace oj := oj.steps sk
 replace or := or.steps sk
 replace Fya := Hid.mk_ (Fya.out.steps sk)
 clear st sk
 obtain ⟨ee1, ee2, ee3, ee4, ee5, ee6, ee7, ee8, rfl⟩ := hvee.shape
 have Fee := Hid.mk_ hvee
 clear hvee
 go_wp2_with fail
 refine (ofB _).mono ?_
 rintro e w4 ⟨vyb, rfl, hvyb, hb4⟩
 have st : Steps _ w4 := hb4
 have sk : Below w3.heap.size w3 w4 := belowA st
 replace B := below_steps B (Nat.le_refl _) sk
 replace oa := oa.steps sk
 replace ob := ob.steps sk
 replace oi := oi.steps sk
 replace oj := oj.steps sk
 replace or := or.steps sk
 replace Fya := Hid.mk_ (Fya.out.steps sk)
 replace Fee := Hid.mk_ (Fee.out.steps sk)
 clear st sk
 obtain ⟨yb1, yb2, yb3, yb4, yb5, yb6, yb7, yb8, rfl⟩ := hvyb.shape
 have Fyb := Hid.mk_ hvyb
 clear hvyb
 go_wp2_with fail
 refine (KP _ _ _ belowB (Fyb.out.keeps keepsB)).mono ?_
 rintro e w5 ⟨vgg, rfl, hvgg, hb5⟩
 have st : Steps _ w5 := hb5
 have sk : Below w4.heap.size w4 w5 := belowA st
 replace B := below_steps B (Nat.le_refl _) sk
 replace oa := oa.steps sk
 replace ob := ob.steps sk
 replace oi := oi.steps sk
 replace oj := oj.steps sk
 replace or := or.steps sk
 replace Fya := Hid.mk_ (Fya.out.steps sk)
 replace Fee := Hid.mk_ (Fee.out.steps sk)
 replace Fyb := Hid.mk_ (Fyb.out.steps sk)
 clear st sk
 obtain ⟨gg1, gg2, gg3, gg4, gg5, gg6, gg7, gg8, rfl⟩ := hvgg.shape
 have Fgg := Hid.mk_ hvgg
 clear hvgg
 go_wp2_with fail
 refine (of0 _ belowB).mono ?_
 rintro e w6 ⟨vk1_, rfl, hvk1_, hb6⟩
 have st : Steps _ w6 := hb6
 have sk : Below w5.heap.size w5 w6 := belowA st
 replace B := below_steps B (Nat.le_refl _) sk
 replace oa := oa.steps sk
 replace ob := ob.steps sk
 replace oi := oi.steps sk
 replace oj := oj.steps sk
 replace or := or.steps sk
 replace Fya := Hid.mk_ (Fya.out.steps sk)
 replace Fee := Hid.mk_ (Fee.out.steps sk)
 replace Fyb := Hid.mk_ (Fyb.out.steps sk)
 replace Fgg := Hid.mk_ (Fgg.out.steps sk)
 clear st sk
 obtain ⟨k1_1, k1_2, k1_3, k1_4, k1_5, k1_6, k1_7, k1_8, rfl⟩ := hvk1_.shape
 have Fk1_ := Hid.mk_ hvk1_
 clear hvk1_
 go_wp2_with fail
 refine (of0 _ belowB).mono ?_
 rintro e w7 ⟨vk2_, rfl, hvk2_, hb7⟩
 have st : Steps _ w7 := hb7
 have sk : Below w6.heap.size w6 w7 := belowA st
 replace B := below_steps B (Nat.le_refl _) sk
 replace oa := oa.steps sk
 replace ob := ob.steps sk
 replace oi := oi.steps sk
 replace oj := oj.steps sk
 replace or := or.steps sk
 replace Fya := Hid.mk_ (Fya.out.steps sk)
 replace Fee := Hid.mk_ (Fee.out.steps sk)
 replace Fyb := Hid.mk_ (Fyb.out.steps sk)
 replace Fgg := Hid.mk_ (Fgg.out.steps sk)
 replace Fk1_ := Hid.mk_ (Fk1_.out.steps sk)
 clear st sk
 obtain ⟨k2_1, k2_2, k2_3, k2_4, k2_5, k2_6, k2_7, k2_8, rfl⟩ := hvk2_.shape
 have Fk2_ := Hid.mk_ hvk2_
 clear hvk2_
 have zr_7 : w.heap.size + 1 + 1 + 1 + 1 < w7.heap.size := or.lt
 have zz7 := B.size
 go_wp2_with (first
  | (
    (with_reducible show wpList _ _ _ (⟨some 76, _, _, _, _, _⟩ :: _) _ _)
    refine build_big rfl 30 #[(0, .tmp 58), (1, .tmp 71), (2, .tmp 73), (3, .tmp 75)] rfl #[.bool ee1, .slice ee2 ee3 ee4, .bool ee5, .slice ee6 ee7 ee8, .bool gg1, .slice gg2 gg3 gg4, .bool gg5, .slice gg6 gg7 gg8, .bool k1_1, .slice k1_2 k1_3 k1_4, .bool k1_5, .slice k1_6 k1_7 k1_8, .bool k2_1, .slice k2_2 k2_3 k2_4, .bool k2_5, .slice k2_6 k2_7 k2_8] (by kernel_rfl) ?_
    skip)
  | (
    (with_reducible show wpList _ _ _ (⟨none, .store _ _ _, _, _, _, _⟩ :: _) _ _)
    refine store_big rfl 30 (.tmp 16) (.tmp 76) rfl (w7.heap.size) #[.bool ee1, .slice ee2 ee3 ee4, .bool ee5, .slice ee6 ee7 ee8, .bool gg1, .slice gg2 gg3 gg4, .bool gg5, .slice gg6 gg7 gg8, .bool k1_1, .slice k1_2 k1_3 k1_4, .bool k1_5, .slice k1_6 k1_7 k1_8, .bool k2_1, .slice k2_2 k2_3 k2_4, .bool k2_5, .slice k2_6 k2_7 k2_8] rfl rfl 30 #[.bool false, .slice none 0 0, .bool false, .slice none 0 0, .bool false, .slice none 0 0, .bool false, .slice none 0 0, .bool false, .slice none 0 0, .bool false, .slice none 0 0, .bool false, .slice none 0 0, .bool false, .slice none 0 0] ownK (by kernel_rfl) rfl (by simp [Value.oneCell']) (fun w8 hrow => ?_)
    have Bn : Below w.heap.size w w8 := hrow.below belowB (by omega)
    have kp : Keeps w7 w8 := Keeps.trans keepsB (hrow.keeps rfl)
    replace oa : Blk w8 (w.heap.size) 23 #[.int .i64 ax, .int .i64 ay] := hrow.far ownK (show w.heap.size ≠ w7.heap.size by omega)
    replace ob : Blk w8 (w.heap.size + 1) 23 #[.int .i64 bx, .int .i64 b_y] := hrow.far ownK (show w.heap.size + 1 ≠ w7.heap.size by omega)
    replace oi : Blk w8 (w.heap.size + 1 + 1) 23 #[.int .i64 px, .int .i64 py] := hrow.far ownK (show w.heap.size + 1 + 1 ≠ w7.heap.size by omega)
    replace oj : Blk w8 (w.heap.size + 1 + 1 + 1) 23 #[.int .i64 qx, .int .i64 qy] := hrow.far ownK (show w.heap.size + 1 + 1 + 1 ≠ w7.heap.size by omega)
    replace or : Blk w8 (w.heap.size + 1 + 1 + 1 + 1) 30 #[.bool false, .slice none 0 0, .bool false, .slice none 0 0, .bool false, .slice none 0 0, .bool false, .slice none 0 0, .bool false, .slice none 0 0, .bool false, .slice none 0 0, .bool false, .slice none 0 0, .bool false, .slice none 0 0] := hrow.far ownK (show w.heap.size + 1 + 1 + 1 + 1 ≠ w7.heap.size by omega)
    have ov16 : Blk w8 (w7.heap.size) 30 #[.bool ee1, .slice ee2 ee3 ee4, .bool ee5, .slice ee6 ee7 ee8, .bool gg1, .slice gg2 gg3 gg4, .bool gg5, .slice gg6 gg7 gg8, .bool k1_1, .slice k1_2 k1_3 k1_4, .bool k1_5, .slice k1_6 k1_7 k1_8, .bool k2_1, .slice k2_2 k2_3 k2_4, .bool k2_5, .slice k2_6 k2_7 k2_8] := hrow.blk
    replace B := Bn
    clear Bn hrow
    replace Fya := Hid.mk_ (Fya.out.keeps kp)
    replace Fee := Hid.mk_ (Fee.out.keeps kp)
    replace Fyb := Hid.mk_ (Fyb.out.keeps kp)
    replace Fgg := Hid.mk_ (Fgg.out.keeps kp)
    replace Fk1_ := Hid.mk_ (Fk1_.out.keeps kp)
    replace Fk2_ := Hid.mk_ (Fk2_.out.keeps kp)
    clear kp
    obtain ⟨ca0, ca1⟩ := oa.r1
    have la := oa.lt
    have lb := ob.lt
    have li := oi.lt
    have lj := oj.lt
    have lr := or.lt
    skip)
  | (
    (with_reducible show wpList _ _ _ (⟨some 79, _, _, _, _, _⟩ :: _) _ _)
    refine load_big rfl 30 (.tmp 16) rfl (w7.heap.size) rfl 30 #[.bool ee1, .slice ee2 ee3 ee4, .bool ee5, .slice ee6 ee7 ee8, .bool gg1, .slice gg2 gg3 gg4, .bool gg5, .slice gg6 gg7 gg8, .bool k1_1, .slice k1_2 k1_3 k1_4, .bool k1_5, .slice k1_6 k1_7 k1_8, .bool k2_1, .slice k2_2 k2_3 k2_4, .bool k2_5, .slice k2_6 k2_7 k2_8] _ ownK Tryz.underlying30 rfl (by kernel_rfl) ?_
    skip)
  )
 refine (AP _ ⟨_, _, _, _, _, _, _, _⟩ ⟨_, _, _, _, _, _, _, _⟩ ⟨_, _, _, _, _, _, _, _⟩ ⟨_, _, _, _, _, _, _, _⟩ belowB (Fee.out.keeps keepsB) (Fgg.out.keeps keepsB) (Fk1_.out.keeps keepsB) (Fk2_.out.keeps keepsB)).mono ?_
 rintro e w9 ⟨vxa, vxb, rfl, hvxa, hvxb, hb9⟩
 have st : Steps _ w9 := hb9
 have sk : Below w8.heap.size w8 w9 := belowA st
 replace B := below_steps B (Nat.le_refl _) sk
 replace oa := oa.steps sk
 replace ob := ob.steps sk
 replace oi := oi.steps sk
 replace oj := oj.steps sk
 replace or := or.steps sk
 replace ov16 := ov16.steps sk
 replace Fya := Hid.mk_ (Fya.out.steps sk)
 replace Fee := Hid.mk_ (Fee.out.steps sk)
 replace Fyb := Hid.mk_ (Fyb.out.steps sk)
 replace Fgg := Hid.mk_ (Fgg.out.steps sk)
 replace Fk1_ := Hid.mk_ (Fk1_.out.steps sk)
 replace Fk2_ := Hid.mk_ (Fk2_.out.steps sk)
 clear st sk ca0 ca1 la lb li lj lr
 have la := oa.lt
 have lb := ob.lt
 obtain ⟨ci0, ci1⟩ := oi.r1
 have li := oi.lt
 have lj := oj.lt
 have lr := or.lt
 obtain ⟨xa1, xa2, xa3, xa4, xa5, xa6, xa7, xa8, rfl⟩ := hvxa.shape
 obtain ⟨xb1, xb2, xb3, xb4, xb5, xb6, xb7, xb8, rfl⟩ := hvxb.shape
 have Fxa := Hid.mk_ hvxa
 clear hvxa
 have Fxb := Hid.mk_ hvxb
 clear hvxb
 have zv16_9 : w7.heap.size < w9.heap.size := ov16.lt
 have zz9 := B.size
 go_wp2_with fail
 go_upto_region 5 with fail
 refine Reg.wp_chain_n (fun N0 D v W => Below w.heap.size w W ∧ Keeps w9 W ∧ N0 ≤ W.heap.size ∧ Blk W (w.heap.size) 23 #[.int .i64 ax, .int .i64 ay] ∧ Blk W (w.heap.size + 1) 23 #[.int .i64 bx, .int .i64 b_y] ∧ Blk W (w.heap.size + 1 + 1) 23 #[.int .i64 px, .int .i64 py] ∧ Blk W (w.heap.size + 1 + 1 + 1) 23 #[.int .i64 qx, .int .i64 qy] ∧ Blk W (w.heap.size + 1 + 1 + 1 + 1) 30 #[.bool false, .slice none 0 0, .bool false, .slice none 0 0, .bool false, .slice none 0 0, .bool false, .slice none 0 0, .bool false, .slice none 0 0, .bool false, .slice none 0 0, .bool false, .slice none 0 0, .bool false, .slice none 0 0] ∧ (D 15 = false → D 17 = false → Blk W (w7.heap.size) 30 #[.bool ee1, .slice ee2 ee3 ee4, .bool ee5, .slice ee6 ee7 ee8, .bool gg1, .slice gg2 gg3 gg4, .bool gg5, .slice gg6 gg7 gg8, .bool k1_1, .slice k1_2 k1_3 k1_4, .bool k1_5, .slice k1_6 k1_7 k1_8, .bool k2_1, .slice k2_2 k2_3 k2_4, .bool k2_5, .slice k2_6 k2_7 k2_8]) ∧ (D 15 = false → D 17 = true → D 13 = true ∧ ∃ (y13_1 y13_5 : Bool) (y13_2 y13_6 : Option Addr) (y13_3 y13_7 y13_4 y13_8 : Nat), v 13 = .agg #[.bool y13_1, .slice y13_2 y13_3 y13_4, .bool y13_5, .slice y13_6 y13_7 y13_8] ∧ Blk W (w7.heap.size) 30 #[.bool ee1, .slice ee2 ee3 ee4, .bool ee5, .slice ee6 ee7 ee8, .bool gg1, .slice gg2 gg3 gg4, .bool gg5, .slice gg6 gg7 gg8, .bool k1_1, .slice k1_2 k1_3 k1_4, .bool k1_5, .slice k1_6 k1_7 k1_8, .bool y13_1, .slice y13_2 y13_3 y13_4, .bool y13_5, .slice y13_6 y13_7 y13_8]) ∧ (D 15 = true → D 17 = false → D 6 = true ∧ ∃ (y6_1 y6_5 : Bool) (y6_2 y6_6 : Option Addr) (y6_3 y6_7 y6_4 y6_8 : Nat), v 6 = .agg #[.bool y6_1, .slice y6_2 y6_3 y6_4, .bool y6_5, .slice y6_6 y6_7 y6_8] ∧ Blk W (w7.heap.size) 30 #[.bool ee1, .slice ee2 ee3 ee4, .bool ee5, .slice ee6 ee7 ee8, .bool gg1, .slice gg2 gg3 gg4, .bool gg5, .slice gg6 gg7 gg8, .bool y6_1, .slice y6_2 y6_3 y6_4, .bool y6_5, .slice y6_6 y6_7 y6_8, .bool k2_1, .slice k2_2 k2_3 k2_4, .bool k2_5, .slice k2_6 k2_7 k2_8]) ∧ (D 15 = true → D 17 = true → D 6 = true ∧ D 13 = true ∧ ∃ (y6_1 y6_5 : Bool) (y6_2 y6_6 : Option Addr) (y6_3 y6_7 y6_4 y6_8 : Nat) (y13_1 y13_5 : Bool) (y13_2 y13_6 : Option Addr) (y13_3 y13_7 y13_4 y13_8 : Nat), v 6 = .agg #[.bool y6_1, .slice y6_2 y6_3 y6_4, .bool y6_5, .slice y6_6 y6_7 y6_8] ∧ v 13 = .agg #[.bool y13_1, .slice y13_2 y13_3 y13_4, .bool y13_5, .slice y13_6 y13_7 y13_8] ∧ Blk W (w7.heap.size) 30 #[.bool ee1, .slice ee2 ee3 ee4, .bool ee5, .slice ee6 ee7 ee8, .bool gg1, .slice gg2 gg3 gg4, .bool gg5, .slice gg6 gg7 gg8, .bool y6_1, .slice y6_2 y6_3 y6_4, .bool y6_5, .slice y6_6 y6_7 y6_8, .bool y13_1, .slice y13_2 y13_3 y13_4, .bool y13_5, .slice y13_6 y13_7 y13_8]) ∧ Blk W (w9.heap.size) 28 #[.bool xa1, .slice xa2 xa3 xa4, .bool xa5, .slice xa6 xa7 xa8] ∧ Blk W (w9.heap.size + 1) 28 #[.bool xb1, .slice xb2 xb3 xb4, .bool xb5, .slice xb6 xb7 xb8])
  (Reg.inl [4, 6, 11, 13, 15, 17]) (Reg.gv [(4, IsFr), (6, IsFr), (11, IsFr), (13, IsFr)]) (gw [(4, GFr (pX)), (6, GFr ((pX - rx))), (11, GFr (pY)), (13, GFr ((pY - ry)))]) (fun _ => Keeps) (fun _ _ => False) (Reg.pl [(6, [(4, some 88)]), (13, [(11, some 95)]), (15, [(6, some 90)]), (17, [(13, some 97)]), (18, [(4, some 88), (6, some 90), (11, some 95), (13, some 97)])]) (Reg.pl [(6, [15]), (13, [17])])
  (by kernel_rfl) (by kernel_rfl) (by kernel_rfl) (Reg.gvA _) (fun N0 hN0 => ⟨fun v => ?_, fun D v v' W hv hj => ?_, fun D v k j W W' x _ _ _ _ hk hg => gwA hk hg, fun _ _ _ _ h => h.elim, fun ops' Q' hops hQ => ?_⟩)
 · exact ⟨belowB, keepsB, by first | with_reducible exact Nat.le_of_eq hN0.out | (simp only [World.size_drew]; with_reducible exact Nat.le_of_eq hN0.out), ownK, ownK, ownK, ownK, ownK, fun q0 q1 => ownK, fun q0 q1 => Bool.noConfusion q1, fun q0 q1 => Bool.noConfusion q0, fun q0 q1 => Bool.noConfusion q0, ownK, ownK⟩
 ·
  obtain ⟨j0, jk, jn, b_a, b_b, b_i, b_j, b_r, b_v16_00, b_v16_01, b_v16_10, b_v16_11, b_v17, b_v18⟩ := hj
  exact ⟨j0, jk, jn, b_a, b_b, b_i, b_j, b_r, fun q0 q1 => (b_v16_00 q0 q1), fun q0 q1 => by obtain ⟨d_13, y13_1, y13_5, y13_2, y13_6, y13_3, y13_7, y13_4, y13_8, e_13, hb⟩ := b_v16_01 q0 q1; exact ⟨d_13, _, _, _, _, _, _, _, _, (hv 13 d_13) ▸ e_13, hb⟩, fun q0 q1 => by obtain ⟨d_6, y6_1, y6_5, y6_2, y6_6, y6_3, y6_7, y6_4, y6_8, e_6, hb⟩ := b_v16_10 q0 q1; exact ⟨d_6, _, _, _, _, _, _, _, _, (hv 6 d_6) ▸ e_6, hb⟩, fun q0 q1 => by obtain ⟨d_6, d_13, y6_1, y6_5, y6_2, y6_6, y6_3, y6_7, y6_4, y6_8, y13_1, y13_5, y13_2, y13_6, y13_3, y13_7, y13_4, y13_8, e_6, e_13, hb⟩ := b_v16_11 q0 q1; exact ⟨d_6, d_13, _, _, _, _, _, _, _, _, _, _, _, _, _, _, _, _, (hv 6 d_6) ▸ e_6, (hv 13 d_13) ▸ e_13, hb⟩, b_v17, b_v18⟩
 have eN := hN0.out
 try simp only [World.size_alloc, World.size_setCell, World.size_drew, World.heap_drewN] at eN
 have i_a : w.heap.size < N0 := by first | omega | (have h := oa.lt; omega)
 have i_b : w.heap.size + 1 < N0 := by first | omega | (have h := ob.lt; omega)
 have i_i : w.heap.size + 1 + 1 < N0 := by first | omega | (have h := oi.lt; omega)
 have i_j : w.heap.size + 1 + 1 + 1 < N0 := by first | omega | (have h := oj.lt; omega)
 have i_r : w.heap.size + 1 + 1 + 1 + 1 < N0 := by first | omega | (have h := or.lt; omega)
 have i_v16 : w7.heap.size < N0 := by first | omega | (have h := ov16.lt; omega)
 have i_v17 : w9.heap.size < N0 := by first | omega | (have h := ov17.lt; omega)
 have i_v18 : w9.heap.size + 1 < N0 := by first | omega | (have h := ov18.lt; omega)
 have iw : w.heap.size ≤ N0 := by first | omega | (have h := B.size; omega)
 clear la lb ci0 ci1 li lj lr
 clear hN0
 refine Reg.RP0 84 ?_
 refine Reg.RP0 85 ?_
 refine Reg.RP0 86 ?_
 apply Reg.RP rfl rfl rfl 87 rfl rfl
 ·
  intro D v' W' hc hj hf K hK
  obtain ⟨j0, jk, jn, b_a, b_b, b_i, b_j, b_r, b_v16_00, b_v16_01, b_v16_10, b_v16_11, b_v17, b_v18⟩ := hj
  have c0 := b_i.q0
  go_step
  exact hK.out
 · rfl
 refine Reg.RC_call rfl (tlt rfl) rfl (fun D v' W' hc hj hf K hK => ?_) ?_
 ·
  obtain ⟨j0, jk, jn, b_a, b_b, b_i, b_j, b_r, b_v16_00, b_v16_01, b_v16_10, b_v16_11, b_v17, b_v18⟩ := hj
  clear hf
  go_step
  refine (ofx W' j0).mono ?_
  rintro e W2 ⟨u, rfl, hu, hs⟩
  obtain ⟨xc1, xc2, xc3, xc4, xc5, xc6, xc7, xc8, rfl⟩ := hu.shape
  exact hK.out _ W2 (Keeps.steps hs) ⟨jst j0 hs, jk.then_ hs, jsz jn hs, b_a.steps hs, b_b.steps hs, b_i.steps hs, b_j.steps hs, b_r.steps hs, fun q0 q1 => ((b_v16_00 q0 q1)).steps hs, fun q0 q1 => by obtain ⟨d_13, y13_1, y13_5, y13_2, y13_6, y13_3, y13_7, y13_4, y13_8, e_13, hb⟩ := b_v16_01 q0 q1; exact ⟨d_13, _, _, _, _, _, _, _, _, e_13, (hb).steps hs⟩, fun q0 q1 => by obtain ⟨d_6, y6_1, y6_5, y6_2, y6_6, y6_3, y6_7, y6_4, y6_8, e_6, hb⟩ := b_v16_10 q0 q1; exact ⟨d_6, _, _, _, _, _, _, _, _, e_6, (hb).steps hs⟩, fun q0 q1 => by obtain ⟨d_6, d_13, y6_1, y6_5, y6_2, y6_6, y6_3, y6_7, y6_4, y6_8, y13_1, y13_5, y13_2, y13_6, y13_3, y13_7, y13_4, y13_8, e_6, e_13, hb⟩ := b_v16_11 q0 q1; exact ⟨d_6, d_13, _, _, _, _, _, _, _, _, _, _, _, _, _, _, _, _, e_6, e_13, (hb).steps hs⟩, b_v17.steps hs, b_v18.steps hs⟩ hu ⟨_, _, _, _, _, _, _, _, rfl⟩
 rintro _ ⟨xc1, xc2, xc3, xc4, xc5, xc6, xc7, xc8, rfl⟩
 refine Reg.RC_at (b := ⟨#[_,_,_,_,_,_,_,_,_,_,_,_,_,_,_,_,_,_,_,_,_,_,_,_,_,_,_,_,_,_,_,_,_,_,_,_,_,_,_,_,_,_,_,_,_,_,_,_,_,_,_,_,_,_,_,_,_,_,_,_,_,_,_,_,_,_,_,_,_,_,_,_,_,_,_,_,_,_,_,_,_,_,_,_,_,_,_,_,_,_,_,_,_,_,_,_,_,_,_,_,_], _⟩) rfl ?_
 apply Reg.RP rfl rfl rfl 89 rfl rfl
 ·
  intro D v' W' hc hj hf K hK
  obtain ⟨j0, jk, jn, b_a, b_b, b_i, b_j, b_r, b_v16_00, b_v16_01, b_v16_10, b_v16_11, b_v17, b_v18⟩ := hj
  obtain ⟨c0, c1, c2, c3⟩ := b_v17.r3
  go_step
  exact hK.out
 · rfl
 refine Reg.RC_call rfl (tlt rfl) rfl (fun D v' W' hc hj hf K hK => ?_) ?_
 ·
  obtain ⟨j0, jk, jn, b_a, b_b, b_i, b_j, b_r, b_v16_00, b_v16_01, b_v16_10, b_v16_11, b_v17, b_v18⟩ := hj
  have g4 : GFr (pX) _ W' := (hf (4, some 88) (.head _) rfl).2.2
  have g4 : FR W' _ (pX) := g4
  clear hf
  go_step
  refine (msub W' (KC _ j0) g4 (Fxa.out.keeps jk) sp1 zx (by omega)).mono ?_
  rintro e W2 ⟨u, rfl, hu, hs⟩
  obtain ⟨s_1, s_2, s_3, s_4, s_5, s_6, s_7, s_8, rfl⟩ := hu.shape
  exact hK.out _ W2 (Keeps.steps hs) ⟨jst j0 hs, jk.then_ hs, jsz jn hs, b_a.steps hs, b_b.steps hs, b_i.steps hs, b_j.steps hs, b_r.steps hs, fun q0 q1 => ((b_v16_00 q0 q1)).steps hs, fun q0 q1 => by obtain ⟨d_13, y13_1, y13_5, y13_2, y13_6, y13_3, y13_7, y13_4, y13_8, e_13, hb⟩ := b_v16_01 q0 q1; exact ⟨d_13, _, _, _, _, _, _, _, _, e_13, (hb).steps hs⟩, fun q0 q1 => Bool.noConfusion ((hc.2 15 (by decide)).symm.trans q0), fun q0 q1 => Bool.noConfusion ((hc.2 15 (by decide)).symm.trans q0), b_v17.steps hs, b_v18.steps hs⟩ hu ⟨_, _, _, _, _, _, _, _, rfl⟩
 rintro _ ⟨s_1, s_2, s_3, s_4, s_5, s_6, s_7, s_8, rfl⟩
 refine Reg.RC_at (b := ⟨#[_,_,_,_,_,_,_,_,_,_,_,_,_,_,_,_,_,_,_,_,_,_,_,_,_,_,_,_,_,_,_,_,_,_,_,_,_,_,_,_,_,_,_,_,_,_,_,_,_,_,_,_,_,_,_,_,_,_,_,_,_,_,_,_,_,_,_,_,_,_,_,_,_,_,_,_,_,_,_,_,_,_,_,_,_,_,_,_,_,_,_,_,_,_,_,_,_,_,_,_,_], _⟩) rfl ?_
 refine Reg.RP0 91 ?_
 refine Reg.RP0 92 ?_
 refine Reg.RP0 93 ?_
 apply Reg.RP rfl rfl rfl 94 rfl rfl
 ·
  intro D v' W' hc hj hf K hK
  obtain ⟨j0, jk, jn, b_a, b_b, b_i, b_j, b_r, b_v16_00, b_v16_01, b_v16_10, b_v16_11, b_v17, b_v18⟩ := hj
  have c1 := b_i.q1
  go_step
  exact hK.out
 · rfl
 refine Reg.RC_call rfl (tlt rfl) rfl (fun D v' W' hc hj hf K hK => ?_) ?_
 ·
  obtain ⟨j0, jk, jn, b_a, b_b, b_i, b_j, b_r, b_v16_00, b_v16_01, b_v16_10, b_v16_11, b_v17, b_v18⟩ := hj
  clear hf
  go_step
  refine (ofy W' j0).mono ?_
  rintro e W2 ⟨u, rfl, hu, hs⟩
  obtain ⟨xd1, xd2, xd3, xd4, xd5, xd6, xd7, xd8, rfl⟩ := hu.shape
  exact hK.out _ W2 (Keeps.steps hs) ⟨jst j0 hs, jk.then_ hs, jsz jn hs, b_a.steps hs, b_b.steps hs, b_i.steps hs, b_j.steps hs, b_r.steps hs, fun q0 q1 => ((b_v16_00 q0 q1)).steps hs, fun q0 q1 => by obtain ⟨d_13, y13_1, y13_5, y13_2, y13_6, y13_3, y13_7, y13_4, y13_8, e_13, hb⟩ := b_v16_01 q0 q1; exact ⟨d_13, _, _, _, _, _, _, _, _, e_13, (hb).steps hs⟩, fun q0 q1 => by obtain ⟨d_6, y6_1, y6_5, y6_2, y6_6, y6_3, y6_7, y6_4, y6_8, e_6, hb⟩ := b_v16_10 q0 q1; exact ⟨d_6, _, _, _, _, _, _, _, _, e_6, (hb).steps hs⟩, fun q0 q1 => by obtain ⟨d_6, d_13, y6_1, y6_5, y6_2, y6_6, y6_3, y6_7, y6_4, y6_8, y13_1, y13_5, y13_2, y13_6, y13_3, y13_7, y13_4, y13_8, e_6, e_13, hb⟩ := b_v16_11 q0 q1; exact ⟨d_6, d_13, _, _, _, _, _, _, _, _, _, _, _, _, _, _, _, _, e_6, e_13, (hb).steps hs⟩, b_v17.steps hs, b_v18.steps hs⟩ hu ⟨_, _, _, _, _, _, _, _, rfl⟩
 rintro _ ⟨xd1, xd2, xd3, xd4, xd5, xd6, xd7, xd8, rfl⟩
 refine Reg.RC_at (b := ⟨#[_,_,_,_,_,_,_,_,_,_,_,_,_,_,_,_,_,_,_,_,_,_,_,_,_,_,_,_,_,_,_,_,_,_,_,_,_,_,_,_,_,_,_,_,_,_,_,_,_,_,_,_,_,_,_,_,_,_,_,_,_,_,_,_,_,_,_,_,_,_,_,_,_,_,_,_,_,_,_,_,_,_,_,_,_,_,_,_,_,_,_,_,_,_,_,_,_,_,_,_,_], _⟩) rfl ?_
 apply Reg.RP rfl rfl rfl 96 rfl rfl
 ·
  intro D v' W' hc hj hf K hK
  obtain ⟨j0, jk, jn, b_a, b_b, b_i, b_j, b_r, b_v16_00, b_v16_01, b_v16_10, b_v16_11, b_v17, b_v18⟩ := hj
  obtain ⟨c0, c1, c2, c3⟩ := b_v18.r3
  go_step
  exact hK.out
 · rfl
 refine Reg.RC_call rfl (tlt rfl) rfl (fun D v' W' hc hj hf K hK => ?_) ?_
 ·
  obtain ⟨j0, jk, jn, b_a, b_b, b_i, b_j, b_r, b_v16_00, b_v16_01, b_v16_10, b_v16_11, b_v17, b_v18⟩ := hj
  have g11 : GFr (pY) _ W' := (hf (11, some 95) (.head _) rfl).2.2
  have g11 : FR W' _ (pY) := g11
  clear hf
  go_step
  refine (msub W' (KC _ j0) g11 (Fxb.out.keeps jk) sp2 zy (by omega)).mono ?_
  rintro e W2 ⟨u, rfl, hu, hs⟩
  obtain ⟨u_1, u_2, u_3, u_4, u_5, u_6, u_7, u_8, rfl⟩ := hu.shape
  exact hK.out _ W2 (Keeps.steps hs) ⟨jst j0 hs, jk.then_ hs, jsz jn hs, b_a.steps hs, b_b.steps hs, b_i.steps hs, b_j.steps hs, b_r.steps hs, fun q0 q1 => ((b_v16_00 q0 q1)).steps hs, fun q0 q1 => Bool.noConfusion ((hc.2 17 (by decide)).symm.trans q1), fun q0 q1 => by obtain ⟨d_6, y6_1, y6_5, y6_2, y6_6, y6_3, y6_7, y6_4, y6_8, e_6, hb⟩ := b_v16_10 q0 q1; exact ⟨d_6, _, _, _, _, _, _, _, _, e_6, (hb).steps hs⟩, fun q0 q1 => Bool.noConfusion ((hc.2 17 (by decide)).symm.trans q1), b_v17.steps hs, b_v18.steps hs⟩ hu ⟨_, _, _, _, _, _, _, _, rfl⟩
 rintro _ ⟨u_1, u_2, u_3, u_4, u_5, u_6, u_7, u_8, rfl⟩
 refine Reg.RC_at (b := ⟨#[_,_,_,_,_,_,_,_,_,_,_,_,_,_,_,_,_,_,_,_,_,_,_,_,_,_,_,_,_,_,_,_,_,_,_,_,_,_,_,_,_,_,_,_,_,_,_,_,_,_,_,_,_,_,_,_,_,_,_,_,_,_,_,_,_,_,_,_,_,_,_,_,_,_,_,_,_,_,_,_,_,_,_,_,_,_,_,_,_,_,_,_,_,_,_,_,_,_,_,_,_], _⟩) rfl ?_
 refine Reg.RP0 98 ?_
 refine Reg.RC_call rfl (by intro t ht; cases ht) rfl (fun D v' W' hc hj hf K hK => ?_) (fun _ _ => Reg.RC_at (b := ⟨_, _⟩) rfl ?_)
 ·
  obtain ⟨j0, jk, jn, b_a, b_b, b_i, b_j, b_r, b_v16_00, b_v16_01, b_v16_10, b_v16_11, b_v17, b_v18⟩ := hj
  have e2 : w.heap.size ≤ w7.heap.size := by omega
  have fc := hf (6, some 90) (.head _) rfl
  have ec : v' 6 = .agg #[.bool s_1, .slice s_2 s_3 s_4, .bool s_5, .slice s_6 s_7 s_8] := fc.2.1
  have cc0 : W'.cell? ⟨w7.heap.size, 8, none⟩ = some (.bool k1_1) := by
   cases hq : D 17 with
   | false => exact (b_v16_00 hc.1 hq).c 8 rfl
   | true => obtain ⟨d_13, y13_1, y13_5, y13_2, y13_6, y13_3, y13_7, y13_4, y13_8, e_13, hb⟩ := b_v16_01 hc.1 hq; exact hb.c 8 rfl
  have cc1 : W'.cell? ⟨w7.heap.size, 9, none⟩ = some (.slice k1_2 k1_3 k1_4) := by
   cases hq : D 17 with
   | false => exact (b_v16_00 hc.1 hq).c 9 rfl
   | true => obtain ⟨d_13, y13_1, y13_5, y13_2, y13_6, y13_3, y13_7, y13_4, y13_8, e_13, hb⟩ := b_v16_01 hc.1 hq; exact hb.c 9 rfl
  have cc2 : W'.cell? ⟨w7.heap.size, 10, none⟩ = some (.bool k1_5) := by
   cases hq : D 17 with
   | false => exact (b_v16_00 hc.1 hq).c 10 rfl
   | true => obtain ⟨d_13, y13_1, y13_5, y13_2, y13_6, y13_3, y13_7, y13_4, y13_8, e_13, hb⟩ := b_v16_01 hc.1 hq; exact hb.c 10 rfl
  have cc3 : W'.cell? ⟨w7.heap.size, 11, none⟩ = some (.slice k1_6 k1_7 k1_8) := by
   cases hq : D 17 with
   | false => exact (b_v16_00 hc.1 hq).c 11 rfl
   | true => obtain ⟨d_13, y13_1, y13_5, y13_2, y13_6, y13_3, y13_7, y13_4, y13_8, e_13, hb⟩ := b_v16_01 hc.1 hq; exact hb.c 11 rfl
  have ff : ∀ j, W'.frozen? ⟨w7.heap.size, j, none⟩ = false := by
   cases hq : D 17 with
   | false => exact (b_v16_00 hc.1 hq).fr
   | true => obtain ⟨d_13, y13_1, y13_5, y13_2, y13_6, y13_3, y13_7, y13_4, y13_8, e_13, hb⟩ := b_v16_01 hc.1 hq; exact hb.fr
  have kp : Keeps W' ((((W'.setCell ⟨w7.heap.size, 8, none⟩ (.bool s_1)).setCell ⟨w7.heap.size, 9, none⟩ (.slice s_2 s_3 s_4)).setCell ⟨w7.heap.size, 10, none⟩ (.bool s_5)).setCell ⟨w7.heap.size, 11, none⟩ (.slice s_6 s_7 s_8)) := by
   cases hq : D 17 with
   | false => exact (keeps4 (b_v16_00 hc.1 hq) rfl)
   | true => obtain ⟨d_13, y13_1, y13_5, y13_2, y13_6, y13_3, y13_7, y13_4, y13_8, e_13, hb⟩ := b_v16_01 hc.1 hq; exact (keeps4 hb rfl)
  go_step
  exact hK.out undef _ kp ⟨(below4 j0 (by show w.heap.size ≤ w7.heap.size; omega)), jk.trans kp, by simpa using jn, (b_a).far4 (show w.heap.size ≠ w7.heap.size by omega), (b_b).far4 (show w.heap.size + 1 ≠ w7.heap.size by omega), (b_i).far4 (show w.heap.size + 1 + 1 ≠ w7.heap.size by omega), (b_j).far4 (show w.heap.size + 1 + 1 + 1 ≠ w7.heap.size by omega), (b_r).far4 (show w.heap.size + 1 + 1 + 1 + 1 ≠ w7.heap.size by omega), fun q0 q1 => Bool.noConfusion q0, fun q0 q1 => Bool.noConfusion q0, fun q0 q1 => by have hb := b_v16_00 hc.1 q1; exact ⟨fc.1, _, _, _, _, _, _, _, _, ec, (Blk.set2 (cs' := #[.bool ee1, .slice ee2 ee3 ee4, .bool ee5, .slice ee6 ee7 ee8, .bool gg1, .slice gg2 gg3 gg4, .bool gg5, .slice gg6 gg7 gg8, .bool s_1, .slice s_2 s_3 s_4, .bool s_5, .slice s_6 s_7 s_8, .bool k2_1, .slice k2_2 k2_3 k2_4, .bool k2_5, .slice k2_6 k2_7 k2_8]) (Blk.set2 (cs' := #[.bool ee1, .slice ee2 ee3 ee4, .bool ee5, .slice ee6 ee7 ee8, .bool gg1, .slice gg2 gg3 gg4, .bool gg5, .slice gg6 gg7 gg8, .bool s_1, .slice s_2 s_3 s_4, .bool s_5, .slice k1_6 k1_7 k1_8, .bool k2_1, .slice k2_2 k2_3 k2_4, .bool k2_5, .slice k2_6 k2_7 k2_8]) (Blk.set2 (cs' := #[.bool ee1, .slice ee2 ee3 ee4, .bool ee5, .slice ee6 ee7 ee8, .bool gg1, .slice gg2 gg3 gg4, .bool gg5, .slice gg6 gg7 gg8, .bool s_1, .slice s_2 s_3 s_4, .bool k1_5, .slice k1_6 k1_7 k1_8, .bool k2_1, .slice k2_2 k2_3 k2_4, .bool k2_5, .slice k2_6 k2_7 k2_8]) (Blk.set2 (cs' := #[.bool ee1, .slice ee2 ee3 ee4, .bool ee5, .slice ee6 ee7 ee8, .bool gg1, .slice gg2 gg3 gg4, .bool gg5, .slice gg6 gg7 gg8, .bool s_1, .slice k1_2 k1_3 k1_4, .bool k1_5, .slice k1_6 k1_7 k1_8, .bool k2_1, .slice k2_2 k2_3 k2_4, .bool k2_5, .slice k2_6 k2_7 k2_8]) hb (i := 8) rfl) (i := 9) rfl) (i := 10) rfl) (i := 11) rfl)⟩, fun q0 q1 => by obtain ⟨d_13, y13_1, y13_5, y13_2, y13_6, y13_3, y13_7, y13_4, y13_8, e_13, hb⟩ := b_v16_01 hc.1 q1; exact ⟨fc.1, d_13, _, _, _, _, _, _, _, _, _, _, _, _, _, _, _, _, ec, e_13, (Blk.set2 (cs' := #[.bool ee1, .slice ee2 ee3 ee4, .bool ee5, .slice ee6 ee7 ee8, .bool gg1, .slice gg2 gg3 gg4, .bool gg5, .slice gg6 gg7 gg8, .bool s_1, .slice s_2 s_3 s_4, .bool s_5, .slice s_6 s_7 s_8, .bool y13_1, .slice y13_2 y13_3 y13_4, .bool y13_5, .slice y13_6 y13_7 y13_8]) (Blk.set2 (cs' := #[.bool ee1, .slice ee2 ee3 ee4, .bool ee5, .slice ee6 ee7 ee8, .bool gg1, .slice gg2 gg3 gg4, .bool gg5, .slice gg6 gg7 gg8, .bool s_1, .slice s_2 s_3 s_4, .bool s_5, .slice k1_6 k1_7 k1_8, .bool y13_1, .slice y13_2 y13_3 y13_4, .bool y13_5, .slice y13_6 y13_7 y13_8]) (Blk.set2 (cs' := #[.bool ee1, .slice ee2 ee3 ee4, .bool ee5, .slice ee6 ee7 ee8, .bool gg1, .slice gg2 gg3 gg4, .bool gg5, .slice gg6 gg7 gg8, .bool s_1, .slice s_2 s_3 s_4, .bool k1_5, .slice k1_6 k1_7 k1_8, .bool y13_1, .slice y13_2 y13_3 y13_4, .bool y13_5, .slice y13_6 y13_7 y13_8]) (Blk.set2 (cs' := #[.bool ee1, .slice ee2 ee3 ee4, .bool ee5, .slice ee6 ee7 ee8, .bool gg1, .slice gg2 gg3 gg4, .bool gg5, .slice gg6 gg7 gg8, .bool s_1, .slice k1_2 k1_3 k1_4, .bool k1_5, .slice k1_6 k1_7 k1_8, .bool y13_1, .slice y13_2 y13_3 y13_4, .bool y13_5, .slice y13_6 y13_7 y13_8]) hb (i := 8) rfl) (i := 9) rfl) (i := 10) rfl) (i := 11) rfl)⟩, (b_v17).far4 (show w9.heap.size ≠ w7.heap.size by omega), (b_v18).far4 (show w9.heap.size + 1 ≠ w7.heap.size by omega)⟩ trivial trivial
 refine Reg.RP0 99 ?_
 refine Reg.RC_call rfl (by intro t ht; cases ht) rfl (fun D v' W' hc hj hf K hK => ?_) (fun _ _ => Reg.RC_at (b := ⟨_, _⟩) rfl ?_)
 ·
  obtain ⟨j0, jk, jn, b_a, b_b, b_i, b_j, b_r, b_v16_00, b_v16_01, b_v16_10, b_v16_11, b_v17, b_v18⟩ := hj
  have e2 : w.heap.size ≤ w7.heap.size := by omega
  have fc := hf (13, some 97) (.head _) rfl
  have ec : v' 13 = .agg #[.bool u_1, .slice u_2 u_3 u_4, .bool u_5, .slice u_6 u_7 u_8] := fc.2.1
  have cc0 : W'.cell? ⟨w7.heap.size, 12, none⟩ = some (.bool k2_1) := by
   cases hq : D 15 with
   | false => exact (b_v16_00 hq hc.1).c 12 rfl
   | true => obtain ⟨d_6, y6_1, y6_5, y6_2, y6_6, y6_3, y6_7, y6_4, y6_8, e_6, hb⟩ := b_v16_10 hq hc.1; exact hb.c 12 rfl
  have cc1 : W'.cell? ⟨w7.heap.size, 13, none⟩ = some (.slice k2_2 k2_3 k2_4) := by
   cases hq : D 15 with
   | false => exact (b_v16_00 hq hc.1).c 13 rfl
   | true => obtain ⟨d_6, y6_1, y6_5, y6_2, y6_6, y6_3, y6_7, y6_4, y6_8, e_6, hb⟩ := b_v16_10 hq hc.1; exact hb.c 13 rfl
  have cc2 : W'.cell? ⟨w7.heap.size, 14, none⟩ = some (.bool k2_5) := by
   cases hq : D 15 with
   | false => exact (b_v16_00 hq hc.1).c 14 rfl
   | true => obtain ⟨d_6, y6_1, y6_5, y6_2, y6_6, y6_3, y6_7, y6_4, y6_8, e_6, hb⟩ := b_v16_10 hq hc.1; exact hb.c 14 rfl
  have cc3 : W'.cell? ⟨w7.heap.size, 15, none⟩ = some (.slice k2_6 k2_7 k2_8) := by
   cases hq : D 15 with
   | false => exact (b_v16_00 hq hc.1).c 15 rfl
   | true => obtain ⟨d_6, y6_1, y6_5, y6_2, y6_6, y6_3, y6_7, y6_4, y6_8, e_6, hb⟩ := b_v16_10 hq hc.1; exact hb.c 15 rfl
  have ff : ∀ j, W'.frozen? ⟨w7.heap.size, j, none⟩ = false := by
   cases hq : D 15 with
   | false => exact (b_v16_00 hq hc.1).fr
   | true => obtain ⟨d_6, y6_1, y6_5, y6_2, y6_6, y6_3, y6_7, y6_4, y6_8, e_6, hb⟩ := b_v16_10 hq hc.1; exact hb.fr
  have kp : Keeps W' ((((W'.setCell ⟨w7.heap.size, 12, none⟩ (.bool u_1)).setCell ⟨w7.heap.size, 13, none⟩ (.slice u_2 u_3 u_4)).setCell ⟨w7.heap.size, 14, none⟩ (.bool u_5)).setCell ⟨w7.heap.size, 15, none⟩ (.slice u_6 u_7 u_8)) := by
   cases hq : D 15 with
   | false => exact (keeps4 (b_v16_00 hq hc.1) rfl)
   | true => obtain ⟨d_6, y6_1, y6_5, y6_2, y6_6, y6_3, y6_7, y6_4, y6_8, e_6, hb⟩ := b_v16_10 hq hc.1; exact (keeps4 hb rfl)
  go_step
  exact hK.out undef _ kp ⟨(below4 j0 (by show w.heap.size ≤ w7.heap.size; omega)), jk.trans kp, by simpa using jn, (b_a).far4 (show w.heap.size ≠ w7.heap.size by omega), (b_b).far4 (show w.heap.size + 1 ≠ w7.heap.size by omega), (b_i).far4 (show w.heap.size + 1 + 1 ≠ w7.heap.size by omega), (b_j).far4 (show w.heap.size + 1 + 1 + 1 ≠ w7.heap.size by omega), (b_r).far4 (show w.heap.size + 1 + 1 + 1 + 1 ≠ w7.heap.size by omega), fun q0 q1 => Bool.noConfusion q1, fun q0 q1 => by have hb := b_v16_00 q0 hc.1; exact ⟨fc.1, _, _, _, _, _, _, _, _, ec, (Blk.set2 (cs' := #[.bool ee1, .slice ee2 ee3 ee4, .bool ee5, .slice ee6 ee7 ee8, .bool gg1, .slice gg2 gg3 gg4, .bool gg5, .slice gg6 gg7 gg8, .bool k1_1, .slice k1_2 k1_3 k1_4, .bool k1_5, .slice k1_6 k1_7 k1_8, .bool u_1, .slice u_2 u_3 u_4, .bool u_5, .slice u_6 u_7 u_8]) (Blk.set2 (cs' := #[.bool ee1, .slice ee2 ee3 ee4, .bool ee5, .slice ee6 ee7 ee8, .bool gg1, .slice gg2 gg3 gg4, .bool gg5, .slice gg6 gg7 gg8, .bool k1_1, .slice k1_2 k1_3 k1_4, .bool k1_5, .slice k1_6 k1_7 k1_8, .bool u_1, .slice u_2 u_3 u_4, .bool u_5, .slice k2_6 k2_7 k2_8]) (Blk.set2 (cs' := #[.bool ee1, .slice ee2 ee3 ee4, .bool ee5, .slice ee6 ee7 ee8, .bool gg1, .slice gg2 gg3 gg4, .bool gg5, .slice gg6 gg7 gg8, .bool k1_1, .slice k1_2 k1_3 k1_4, .bool k1_5, .slice k1_6 k1_7 k1_8, .bool u_1, .slice u_2 u_3 u_4, .bool k2_5, .slice k2_6 k2_7 k2_8]) (Blk.set2 (cs' := #[.bool ee1, .slice ee2 ee3 ee4, .bool ee5, .slice ee6 ee7 ee8, .bool gg1, .slice gg2 gg3 gg4, .bool gg5, .slice gg6 gg7 gg8, .bool k1_1, .slice k1_2 k1_3 k1_4, .bool k1_5, .slice k1_6 k1_7 k1_8, .bool u_1, .slice k2_2 k2_3 k2_4, .bool k2_5, .slice k2_6 k2_7 k2_8]) hb (i := 12) rfl) (i := 13) rfl) (i := 14) rfl) (i := 15) rfl)⟩, fun q0 q1 => Bool.noConfusion q1, fun q0 q1 => by obtain ⟨d_6, y6_1, y6_5, y6_2, y6_6, y6_3, y6_7, y6_4, y6_8, e_6, hb⟩ := b_v16_10 q0 hc.1; exact ⟨d_6, fc.1, _, _, _, _, _, _, _, _, _, _, _, _, _, _, _, _, e_6, ec, (Blk.set2 (cs' := #[.bool ee1, .slice ee2 ee3 ee4, .bool ee5, .slice ee6 ee7 ee8, .bool gg1, .slice gg2 gg3 gg4, .bool gg5, .slice gg6 gg7 gg8, .bool y6_1, .slice y6_2 y6_3 y6_4, .bool y6_5, .slice y6_6 y6_7 y6_8, .bool u_1, .slice u_2 u_3 u_4, .bool u_5, .slice u_6 u_7 u_8]) (Blk.set2 (cs' := #[.bool ee1, .slice ee2 ee3 ee4, .bool ee5, .slice ee6 ee7 ee8, .bool gg1, .slice gg2 gg3 gg4, .bool gg5, .slice gg6 gg7 gg8, .bool y6_1, .slice y6_2 y6_3 y6_4, .bool y6_5, .slice y6_6 y6_7 y6_8, .bool u_1, .slice u_2 u_3 u_4, .bool u_5, .slice k2_6 k2_7 k2_8]) (Blk.set2 (cs' := #[.bool ee1, .slice ee2 ee3 ee4, .bool ee5, .slice ee6 ee7 ee8, .bool gg1, .slice gg2 gg3 gg4, .bool gg5, .slice gg6 gg7 gg8, .bool y6_1, .slice y6_2 y6_3 y6_4, .bool y6_5, .slice y6_6 y6_7 y6_8, .bool u_1, .slice u_2 u_3 u_4, .bool k2_5, .slice k2_6 k2_7 k2_8]) (Blk.set2 (cs' := #[.bool ee1, .slice ee2 ee3 ee4, .bool ee5, .slice ee6 ee7 ee8, .bool gg1, .slice gg2 gg3 gg4, .bool gg5, .slice gg6 gg7 gg8, .bool y6_1, .slice y6_2 y6_3 y6_4, .bool y6_5, .slice y6_6 y6_7 y6_8, .bool u_1, .slice k2_2 k2_3 k2_4, .bool k2_5, .slice k2_6 k2_7 k2_8]) hb (i := 12) rfl) (i := 13) rfl) (i := 14) rfl) (i := 15) rfl)⟩, (b_v17).far4 (show w9.heap.size ≠ w7.heap.size by omega), (b_v18).far4 (show w9.heap.size + 1 ≠ w7.heap.size by omega)⟩ trivial trivial
 refine Reg.RC_end (fun Dn v' w10 hd hj hf => ?_)
 obtain ⟨j0, jk, jn, b_a, b_b, b_i, b_j, b_r, b_v16_00, b_v16_01, b_v16_10, b_v16_11, b_v17, b_v18⟩ := hj
 have B := j0
 have oa := b_a
 clear b_a
 have ob := b_b
 clear b_b
 have oi := b_i
 clear b_i
 have oj := b_j
 clear b_j
 have or := b_r
 clear b_r
 obtain ⟨dd_6, dd_13, y6_1, y6_5, y6_2, y6_6, y6_3, y6_7, y6_4, y6_8, y13_1, y13_5, y13_2, y13_6, y13_3, y13_7, y13_4, y13_8, ee_6, ee_13, ov16⟩ := b_v16_11 (hd 15 (Nat.le_of_ble_eq_true rfl)) (hd 17 (Nat.le_of_ble_eq_true rfl))
 have ef : v' 6 = .agg #[.bool s_1, .slice s_2 s_3 s_4, .bool s_5, .slice s_6 s_7 s_8] := (hf (6, some 90) (.tail _ (.head _)) rfl).2.1
 have eq_ := ef.symm.trans ee_6
 simp only [Value.tuple.injEq, Value.agg.injEq, Array.mk.injEq, List.cons.injEq, Value.bool.injEq, Value.slice.injEq, and_true, true_and] at eq_
 obtain ⟨rfl, ⟨rfl, rfl, rfl⟩, rfl, ⟨rfl, rfl, rfl⟩⟩ := eq_
 clear ef ee_6 dd_6
 have ef : v' 13 = .agg #[.bool u_1, .slice u_2 u_3 u_4, .bool u_5, .slice u_6 u_7 u_8] := (hf (13, some 97) (.tail _ (.tail _ (.tail _ (.head _)))) rfl).2.1
 have eq_ := ef.symm.trans ee_13
 simp only [Value.tuple.injEq, Value.agg.injEq, Array.mk.injEq, List.cons.injEq, Value.bool.injEq, Value.slice.injEq, and_true, true_and] at eq_
 obtain ⟨rfl, ⟨rfl, rfl, rfl⟩, rfl, ⟨rfl, rfl, rfl⟩⟩ := eq_
 clear ef ee_13 dd_13
 clear b_v16_00 b_v16_01 b_v16_10 b_v16_11
 have ov17 := b_v17
 clear b_v17
 have ov18 := b_v18
 clear b_v18
 have Fxc : Hid (FR w10 (.agg #[.bool xc1, .slice xc2 xc3 xc4, .bool xc5, .slice xc6 xc7 xc8]) (pX)) := (hf (4, some 88) (.head _) rfl).2.2
 have Fs_ : Hid (FR w10 (.agg #[.bool s_1, .slice s_2 s_3 s_4, .bool s_5, .slice s_6 s_7 s_8]) ((pX - rx))) := (hf (6, some 90) (.tail _ (.head _)) rfl).2.2
 have Fxd : Hid (FR w10 (.agg #[.bool xd1, .slice xd2 xd3 xd4, .bool xd5, .slice xd6 xd7 xd8]) (pY)) := (hf (11, some 95) (.tail _ (.tail _ (.head _))) rfl).2.2
 have Fu_ : Hid (FR w10 (.agg #[.bool u_1, .slice u_2 u_3 u_4, .bool u_5, .slice u_6 u_7 u_8]) ((pY - ry))) := (hf (13, some 97) (.tail _ (.tail _ (.tail _ (.head _)))) rfl).2.2
 replace Fya := Hid.mk_ (Fya.out.keeps jk)
 replace Fee := Hid.mk_ (Fee.out.keeps jk)
 replace Fyb := Hid.mk_ (Fyb.out.keeps jk)
 replace Fgg := Hid.mk_ (Fgg.out.keeps jk)
 replace Fk1_ := Hid.mk_ (Fk1_.out.keeps jk)
 replace Fk2_ := Hid.mk_ (Fk2_.out.keeps jk)
 replace Fxa := Hid.mk_ (Fxa.out.keeps jk)
 replace Fxb := Hid.mk_ (Fxb.out.keeps jk)
 clear hd hf jk j0
 refine hQ _ _ ?_
 clear hQ hops Q' ops'
 go_wp2_with (first
  | (
    (with_reducible show wpList _ _ _ (⟨some 100, _, _, _, _, _⟩ :: _) _ _)
    refine load_big rfl 30 (.tmp 16) rfl (w7.heap.size) rfl 30 #[.bool ee1, .slice ee2 ee3 ee4, .bool ee5, .slice ee6 ee7 ee8, .bool gg1, .slice gg2 gg3 gg4, .bool gg5, .slice gg6 gg7 gg8, .bool s_1, .slice s_2 s_3 s_4, .bool s_5, .slice s_6 s_7 s_8, .bool u_1, .slice u_2 u_3 u_4, .bool u_5, .slice u_6 u_7 u_8] _ ownK Tryz.underlying30 rfl (by kernel_rfl) ?_
    skip)
  | (
    (with_reducible show wpList _ _ _ (⟨none, .store _ _ _, _, _, _, _⟩ :: _) _ _)
    refine store_big rfl 30 (.tmp 10) (.tmp 100) rfl (w.heap.size + 1 + 1 + 1 + 1) #[.bool ee1, .slice ee2 ee3 ee4, .bool ee5, .slice ee6 ee7 ee8, .bool gg1, .slice gg2 gg3 gg4, .bool gg5, .slice gg6 gg7 gg8, .bool s_1, .slice s_2 s_3 s_4, .bool s_5, .slice s_6 s_7 s_8, .bool u_1, .slice u_2 u_3 u_4, .bool u_5, .slice u_6 u_7 u_8] rfl rfl 30 #[.bool false, .slice none 0 0, .bool false, .slice none 0 0, .bool false, .slice none 0 0, .bool false, .slice none 0 0, .bool false, .slice none 0 0, .bool false, .slice none 0 0, .bool false, .slice none 0 0, .bool false, .slice none 0 0] ownK (by kernel_rfl) rfl (by simp [Value.oneCell']) (fun w11 hrow => ?_)
    have Bn : Below w.heap.size w w11 := hrow.below belowB (by omega)
    have kp : Keeps w10 w11 := Keeps.trans keepsB (hrow.keeps rfl)
    replace oa : Blk w11 (w.heap.size) 23 #[.int .i64 ax, .int .i64 ay] := hrow.far ownK (show w.heap.size ≠ w.heap.size + 1 + 1 + 1 + 1 by omega)
    replace ob : Blk w11 (w.heap.size + 1) 23 #[.int .i64 bx, .int .i64 b_y] := hrow.far ownK (show w.heap.size + 1 ≠ w.heap.size + 1 + 1 + 1 + 1 by omega)
    replace oi : Blk w11 (w.heap.size + 1 + 1) 23 #[.int .i64 px, .int .i64 py] := hrow.far ownK (show w.heap.size + 1 + 1 ≠ w.heap.size + 1 + 1 + 1 + 1 by omega)
    replace oj : Blk w11 (w.heap.size + 1 + 1 + 1) 23 #[.int .i64 qx, .int .i64 qy] := hrow.far ownK (show w.heap.size + 1 + 1 + 1 ≠ w.heap.size + 1 + 1 + 1 + 1 by omega)
    replace or : Blk w11 (w.heap.size + 1 + 1 + 1 + 1) 30 #[.bool ee1, .slice ee2 ee3 ee4, .bool ee5, .slice ee6 ee7 ee8, .bool gg1, .slice gg2 gg3 gg4, .bool gg5, .slice gg6 gg7 gg8, .bool s_1, .slice s_2 s_3 s_4, .bool s_5, .slice s_6 s_7 s_8, .bool u_1, .slice u_2 u_3 u_4, .bool u_5, .slice u_6 u_7 u_8] := hrow.blk
    replace ov16 : Blk w11 (w7.heap.size) 30 #[.bool ee1, .slice ee2 ee3 ee4, .bool ee5, .slice ee6 ee7 ee8, .bool gg1, .slice gg2 gg3 gg4, .bool gg5, .slice gg6 gg7 gg8, .bool s_1, .slice s_2 s_3 s_4, .bool s_5, .slice s_6 s_7 s_8, .bool u_1, .slice u_2 u_3 u_4, .bool u_5, .slice u_6 u_7 u_8] := hrow.far ownK (show w7.heap.size ≠ w.heap.size + 1 + 1 + 1 + 1 by omega)
    replace ov17 : Blk w11 (w9.heap.size) 28 #[.bool xa1, .slice xa2 xa3 xa4, .bool xa5, .slice xa6 xa7 xa8] := hrow.far ownK (show w9.heap.size ≠ w.heap.size + 1 + 1 + 1 + 1 by omega)
    replace ov18 : Blk w11 (w9.heap.size + 1) 28 #[.bool xb1, .slice xb2 xb3 xb4, .bool xb5, .slice xb6 xb7 xb8] := hrow.far ownK (show w9.heap.size + 1 ≠ w.heap.size + 1 + 1 + 1 + 1 by omega)
    replace B := Bn
    clear Bn hrow
    replace Fya := Hid.mk_ (Fya.out.keeps kp)
    replace Fee := Hid.mk_ (Fee.out.keeps kp)
    replace Fyb := Hid.mk_ (Fyb.out.keeps kp)
    replace Fgg := Hid.mk_ (Fgg.out.keeps kp)
    replace Fk1_ := Hid.mk_ (Fk1_.out.keeps kp)
    replace Fk2_ := Hid.mk_ (Fk2_.out.keeps kp)
    replace Fxa := Hid.mk_ (Fxa.out.keeps kp)
    replace Fxb := Hid.mk_ (Fxb.out.keeps kp)
    replace Fxc := Hid.mk_ (Fxc.out.keeps kp)
    replace Fs_ := Hid.mk_ (Fs_.out.keeps kp)
    replace Fxd := Hid.mk_ (Fxd.out.keeps kp)
    replace Fu_ := Hid.mk_ (Fu_.out.keeps kp)
    clear kp
    skip)
  )
 skip
 refine bodyPost_ret (results_row1 rfl _ _ (w.heap.size + 1 + 1 + 1 + 1) rfl (cs := #[.bool ee1, .slice ee2 ee3 ee4, .bool ee5, .slice ee6 ee7 ee8, .bool gg1, .slice gg2 gg3 gg4, .bool gg5, .slice gg6 gg7 gg8, .bool s_1, .slice s_2 s_3 s_4, .bool s_5, .slice s_6 s_7 s_8, .bool u_1, .slice u_2 u_3 u_4, .bool u_5, .slice u_6 u_7 u_8]) ownK Tryz.underlying30 rfl (by kernel_rfl)) rfl ?_
 exact ⟨_, rfl, ⟨_, _, _, _, _, _, _, _, _, _, _, _, _, _, _, _, _, _, _, _, _, _, _, _, _, _, _, _, _, _, _, _, rfl, by rw [HT.out.1]; exact Fee.out.keeps keepsB, by rw [HT.out.2.1]; exact Fgg.out.keeps keepsB, by rw [HT.out.2.2.1]; exact Fs_.out.keeps keepsB, by rw [HT.out.2.2.2]; exact Fu_.out.keeps keepsB⟩, belowB⟩
theorem apart_lt {x y : Rat} {q : Int × Int} (h : absQ (x - (q.1 : Rat)) < absQ (y - (q.2 : Rat))) : apartQ x y q = absQ (y - (q.2 : Rat)) := if_pos h
theorem apart_ge {x y : Rat} {q : Int × Int} (h : ¬ absQ (x - (q.1 : Rat)) < absQ (y - (q.2 : Rat))) : apartQ x y q = absQ (x - (q.1 : Rat)) := if_neg h
theorem sz_apart {x y : Rat} {q : Int × Int} {k : Nat} (hx : sz x k) (hy : sz y k) (h : okP q) : sz (apartQ x y q) (k + 3) := by
 have s1 := (hx.sub (sz_coord ⟨h.1, h.2.1⟩)).abs
 have s2 := (hy.sub (sz_coord ⟨h.2.2.1, h.2.2.2⟩)).abs
 unfold apartQ
 split
 · exact s2
 · exact s1
theorem mapart {va vb : Value} {x y : Rat} {gc : Nat} {tc : TypeId} (px py : Int) (w : World) (hc : Blk w gc tc #[.int .i64 0]) (ha : FR w va x) (hb : FR w vb y) (sx : sz x 300) (sy : sz y 300) (hp : okP (px, py)) :
  Calls Tryz.prog 101 #[.pointer (some ⟨gc, 0, none⟩), va, vb, .agg #[.int .i64 px, .int .i64 py]] w fun e w' => ∃ u, e = .returned u ∧ FR w' u (apartQ x y (px, py)) ∧ Steps w w' := by
 obtain ⟨p0, p1, p2, p3⟩ := hp
 dsimp only at p0 p1 p2 p3
 have KC : ∀ w', Below w.heap.size w w' → Blk w' gc tc #[.int .i64 0] := fun w' s => hc.steps s
 have ofx : ∀ w', Below w.heap.size w w' → Calls Tryz.prog 66 #[.pointer (some ⟨gc, 0, none⟩), .int .i64 px] w' fun e w2 => ∃ v, e = .returned v ∧ FR w2 v (px : Rat) ∧ Steps w' w2 := fun w' s => mof px w' (KC w' s) (by omega) (by omega)
 have ofy : ∀ w', Below w.heap.size w w' → Calls Tryz.prog 66 #[.pointer (some ⟨gc, 0, none⟩), .int .i64 py] w' fun e w2 => ∃ v, e = .returned v ∧ FR w2 v (py : Rat) ∧ Steps w' w2 := fun w' s => mof py w' (KC w' s) (by omega) (by omega)
 have s1 : sz (px : Rat) 2 := sz_coord ⟨p0, p1⟩
 have s2 : sz (py : Rat) 2 := sz_coord ⟨p2, p3⟩
 have LT := fun h => apart_lt (x := x) (y := y) (q := (px, py)) h
 have GE := fun h => apart_ge (x := x) (y := y) (q := (px, py)) h
 generalize apartQ x y (px, py) = R at *
 dsimp only at LT GE
 generalize (px : Rat) = pX at *
 generalize (py : Rat) = pY at *
 obtain ⟨a1, a2, a3, a4, a5, a6, a7, a8, rfl⟩ := ha.shape
 obtain ⟨b1, b2, b3, b4, b5, b6, b7, b8, rfl⟩ := hb.shape
 have Fa := Hid.mk_ ha
 have Fb := Hid.mk_ hb
 clear ha hb p0 p1 p2 p3 hc
 go_enter Tryz.func101, Tryz.ntmps101
 go_upto_region 1 with fail
 refine Reg.wp_chain_n (fun N0 D v W => Below w.heap.size w W ∧ Keeps w W ∧ N0 ≤ W.heap.size ∧ Blk W (w.heap.size) 28 #[.bool a1, .slice a2 a3 a4, .bool a5, .slice a6 a7 a8] ∧ Blk W (w.heap.size + 1) 28 #[.bool b1, .slice b2 b3 b4, .bool b5, .slice b6 b7 b8] ∧ Blk W (w.heap.size + 1 + 1) 23 #[.int .i64 px, .int .i64 py] ∧ Blk W (w.heap.size + 1 + 1 + 1) 28 #[.bool false, .slice none 0 0, .bool false, .slice none 0 0] ∧ (D 14 = true → ∃ g : Nat, v 14 = .pointer (some ⟨g, 0, none⟩) ∧ N0 ≤ g ∧ g < W.heap.size ∧ (D 16 = false → Blk W g 28 #[.bool false, .slice none 0 0, .bool false, .slice none 0 0]) ∧ (D 16 = true → D 6 = true ∧ ∃ cs, v 6 = .agg cs ∧ Blk W g 28 cs)) ∧ (D 15 = true → ∃ g : Nat, v 15 = .pointer (some ⟨g, 0, none⟩) ∧ N0 ≤ g ∧ g < W.heap.size ∧ (D 17 = false → Blk W g 28 #[.bool false, .slice none 0 0, .bool false, .slice none 0 0]) ∧ (D 17 = true → D 13 = true ∧ ∃ cs, v 13 = .agg cs ∧ Blk W g 28 cs)) ∧ (D 14 = true → D 15 = true → v 14 ≠ v 15))
  (Reg.inl [5, 6, 12, 13, 14, 15, 16, 17]) (Reg.gv [(5, IsFr), (6, IsFr), (12, IsFr), (13, IsFr), (14, IsPtr), (15, IsPtr)]) (gw [(5, GFr (pX)), (6, GFr ((x - pX))), (12, GFr (pY)), (13, GFr ((y - pY)))]) (fun _ => Keeps) (fun _ _ => False) (Reg.pl [(6, [(5, some 16)]), (13, [(12, some 23)]), (16, [(6, some 17), (14, some 9)]), (17, [(13, some 24), (15, some 10)]), (18, [(5, some 16), (6, some 17), (12, some 23), (13, some 24), (14, some 9), (15, some 10)])]) (Reg.pl [(14, [16]), (6, [16]), (15, [17]), (13, [17])])
  (by kernel_rfl) (by kernel_rfl) (by kernel_rfl) (Reg.gvA _) (fun N0 hN0 => ⟨fun v => ?_, fun D v v' W hv hj => ?_, fun D v k j W W' x _ _ _ _ hk hg => gwA hk hg, fun _ _ _ _ h => h.elim, fun ops' Q' hops hQ => ?_⟩)
 · exact ⟨belowB, keepsB, Nat.le_of_eq hN0.out, ownK, ownK, ownK, ownK, (fun h => Bool.noConfusion h), (fun h => Bool.noConfusion h), (fun h => Bool.noConfusion h)⟩
 ·
  obtain ⟨j0, jk, jn, b_a, b_b, b_i, b_r, a_14, a_15, q_14_15⟩ := hj
  exact ⟨j0, jk, jn, b_a, b_b, b_i, b_r, fun h => by obtain ⟨g, e1, e2, e3, e4, e5⟩ := a_14 h; exact ⟨g, (hv 14 h) ▸ e1, e2, e3, e4, fun h => by obtain ⟨d, cs, e, hb⟩ := e5 h; exact ⟨d, cs, (hv 6 d) ▸ e, hb⟩⟩, fun h => by obtain ⟨g, e1, e2, e3, e4, e5⟩ := a_15 h; exact ⟨g, (hv 15 h) ▸ e1, e2, e3, e4, fun h => by obtain ⟨d, cs, e, hb⟩ := e5 h; exact ⟨d, cs, (hv 13 d) ▸ e, hb⟩⟩, fun h h' => (hv 14 h) ▸ (hv 15 h') ▸ q_14_15 h h'⟩
 have eN := hN0.out
 try simp only [World.size_alloc, World.size_setCell, World.size_drew, World.heap_drewN] at eN
 have i_a : w.heap.size < N0 := by first | omega | (have h := oa.lt; omega)
 have i_b : w.heap.size + 1 < N0 := by first | omega | (have h := ob.lt; omega)
 have i_i : w.heap.size + 1 + 1 < N0 := by first | omega | (have h := oi.lt; omega)
 have i_r : w.heap.size + 1 + 1 + 1 < N0 := by first | omega | (have h := or.lt; omega)
 have iw : w.heap.size ≤ N0 := by first | omega | (have h := B.size; omega)
 clear hN0 eN
 refine Reg.RP0 11 ?_
 apply Reg.RP rfl rfl rfl 12 rfl rfl
 ·
  intro D v' W' hc hj hf K hK
  obtain ⟨j0, jk, jn, b_a, b_b, b_i, b_r, a_14, a_15, q_14_15⟩ := hj
  obtain ⟨c0, c1, c2, c3⟩ := b_a.r3
  go_step
  exact hK.out
 · rfl
 refine Reg.RP0 13 ?_
 refine Reg.RP0 14 ?_
 apply Reg.RP rfl rfl rfl 15 rfl rfl
 ·
  intro D v' W' hc hj hf K hK
  obtain ⟨j0, jk, jn, b_a, b_b, b_i, b_r, a_14, a_15, q_14_15⟩ := hj
  have c0 := b_i.q0
  go_step
  exact hK.out
 · rfl
 refine Reg.RC_call rfl (tlt rfl) rfl (fun D v' W' hc hj hf K hK => ?_) ?_
 ·
  obtain ⟨j0, jk, jn, b_a, b_b, b_i, b_r, a_14, a_15, q_14_15⟩ := hj
  clear hf
  go_step
  refine (ofx W' j0).mono ?_
  rintro e W2 ⟨u, rfl, hu, hs⟩
  obtain ⟨kx1, kx2, kx3, kx4, kx5, kx6, kx7, kx8, rfl⟩ := hu.shape
  exact hK.out _ W2 (Keeps.steps hs) ⟨jst j0 hs, jk.then_ hs, jsz jn hs, b_a.steps hs, b_b.steps hs, b_i.steps hs, b_r.steps hs, fun h => by obtain ⟨g, e1, e2, e3, e4, e5⟩ := a_14 h; exact ⟨g, e1, e2, Nat.lt_of_lt_of_le e3 (hs).size, fun h => (e4 h).steps hs, fun h => by obtain ⟨d, cs, e, hb⟩ := e5 h; exact ⟨d, cs, e, hb.steps hs⟩⟩, fun h => by obtain ⟨g, e1, e2, e3, e4, e5⟩ := a_15 h; exact ⟨g, e1, e2, Nat.lt_of_lt_of_le e3 (hs).size, fun h => (e4 h).steps hs, fun h => by obtain ⟨d, cs, e, hb⟩ := e5 h; exact ⟨d, cs, e, hb.steps hs⟩⟩, q_14_15⟩ hu ⟨_, _, _, _, _, _, _, _, rfl⟩
 rintro _ ⟨kx1, kx2, kx3, kx4, kx5, kx6, kx7, kx8, rfl⟩
 refine Reg.RC_at (b := ⟨#[_,_,_,_,_,_,_,_,_,_,_,_,_,_,_,_,_,_,_,_,_,_,_,_,_,_,_,_,_,_,_,_,_,_,_,_], _⟩) rfl ?_
 refine Reg.RC_call rfl (tlt rfl) rfl (fun D v' W' hc hj hf K hK => ?_) ?_
 ·
  obtain ⟨j0, jk, jn, b_a, b_b, b_i, b_r, a_14, a_15, q_14_15⟩ := hj
  have g5 : GFr (pX) _ W' := (hf (5, some 16) (.head _) rfl).2.2
  have g5 : FR W' _ (pX) := g5
  clear hf
  go_step
  refine (msub W' (KC _ j0) (Fa.out.keeps jk) g5 sx s1 (by omega)).mono ?_
  rintro e W2 ⟨u, rfl, hu, hs⟩
  obtain ⟨dx1, dx2, dx3, dx4, dx5, dx6, dx7, dx8, rfl⟩ := hu.shape
  exact hK.out _ W2 (Keeps.steps hs) ⟨jst j0 hs, jk.then_ hs, jsz jn hs, b_a.steps hs, b_b.steps hs, b_i.steps hs, b_r.steps hs, fun h => by obtain ⟨g, e1, e2, e3, e4, e5⟩ := a_14 h; exact ⟨g, e1, e2, Nat.lt_of_lt_of_le e3 (hs).size, fun h => (e4 h).steps hs, fun h => Bool.noConfusion ((hc.2 16 (by decide)).symm.trans h)⟩, fun h => by obtain ⟨g, e1, e2, e3, e4, e5⟩ := a_15 h; exact ⟨g, e1, e2, Nat.lt_of_lt_of_le e3 (hs).size, fun h => (e4 h).steps hs, fun h => by obtain ⟨d, cs, e, hb⟩ := e5 h; exact ⟨d, cs, e, hb.steps hs⟩⟩, q_14_15⟩ hu ⟨_, _, _, _, _, _, _, _, rfl⟩
 rintro _ ⟨dx1, dx2, dx3, dx4, dx5, dx6, dx7, dx8, rfl⟩
 refine Reg.RC_at (b := ⟨#[_,_,_,_,_,_,_,_,_,_,_,_,_,_,_,_,_,_,_,_,_,_,_,_,_,_,_,_,_,_,_,_,_,_,_,_], _⟩) rfl ?_
 refine Reg.RP0 18 ?_
 apply Reg.RP rfl rfl rfl 19 rfl rfl
 ·
  intro D v' W' hc hj hf K hK
  obtain ⟨j0, jk, jn, b_a, b_b, b_i, b_r, a_14, a_15, q_14_15⟩ := hj
  obtain ⟨c0, c1, c2, c3⟩ := b_b.r3
  go_step
  exact hK.out
 · rfl
 refine Reg.RP0 20 ?_
 refine Reg.RP0 21 ?_
 apply Reg.RP rfl rfl rfl 22 rfl rfl
 ·
  intro D v' W' hc hj hf K hK
  obtain ⟨j0, jk, jn, b_a, b_b, b_i, b_r, a_14, a_15, q_14_15⟩ := hj
  have c1 := b_i.q1
  go_step
  exact hK.out
 · rfl
 refine Reg.RC_call rfl (tlt rfl) rfl (fun D v' W' hc hj hf K hK => ?_) ?_
 ·
  obtain ⟨j0, jk, jn, b_a, b_b, b_i, b_r, a_14, a_15, q_14_15⟩ := hj
  clear hf
  go_step
  refine (ofy W' j0).mono ?_
  rintro e W2 ⟨u, rfl, hu, hs⟩
  obtain ⟨ky1, ky2, ky3, ky4, ky5, ky6, ky7, ky8, rfl⟩ := hu.shape
  exact hK.out _ W2 (Keeps.steps hs) ⟨jst j0 hs, jk.then_ hs, jsz jn hs, b_a.steps hs, b_b.steps hs, b_i.steps hs, b_r.steps hs, fun h => by obtain ⟨g, e1, e2, e3, e4, e5⟩ := a_14 h; exact ⟨g, e1, e2, Nat.lt_of_lt_of_le e3 (hs).size, fun h => (e4 h).steps hs, fun h => by obtain ⟨d, cs, e, hb⟩ := e5 h; exact ⟨d, cs, e, hb.steps hs⟩⟩, fun h => by obtain ⟨g, e1, e2, e3, e4, e5⟩ := a_15 h; exact ⟨g, e1, e2, Nat.lt_of_lt_of_le e3 (hs).size, fun h => (e4 h).steps hs, fun h => by obtain ⟨d, cs, e, hb⟩ := e5 h; exact ⟨d, cs, e, hb.steps hs⟩⟩, q_14_15⟩ hu ⟨_, _, _, _, _, _, _, _, rfl⟩
 rintro _ ⟨ky1, ky2, ky3, ky4, ky5, ky6, ky7, ky8, rfl⟩
 refine Reg.RC_at (b := ⟨#[_,_,_,_,_,_,_,_,_,_,_,_,_,_,_,_,_,_,_,_,_,_,_,_,_,_,_,_,_,_,_,_,_,_,_,_], _⟩) rfl ?_
 refine Reg.RC_call rfl (tlt rfl) rfl (fun D v' W' hc hj hf K hK => ?_) ?_
 ·
  obtain ⟨j0, jk, jn, b_a, b_b, b_i, b_r, a_14, a_15, q_14_15⟩ := hj
  have g12 : GFr (pY) _ W' := (hf (12, some 23) (.head _) rfl).2.2
  have g12 : FR W' _ (pY) := g12
  clear hf
  go_step
  refine (msub W' (KC _ j0) (Fb.out.keeps jk) g12 sy s2 (by omega)).mono ?_
  rintro e W2 ⟨u, rfl, hu, hs⟩
  obtain ⟨dy1, dy2, dy3, dy4, dy5, dy6, dy7, dy8, rfl⟩ := hu.shape
  exact hK.out _ W2 (Keeps.steps hs) ⟨jst j0 hs, jk.then_ hs, jsz jn hs, b_a.steps hs, b_b.steps hs, b_i.steps hs, b_r.steps hs, fun h => by obtain ⟨g, e1, e2, e3, e4, e5⟩ := a_14 h; exact ⟨g, e1, e2, Nat.lt_of_lt_of_le e3 (hs).size, fun h => (e4 h).steps hs, fun h => by obtain ⟨d, cs, e, hb⟩ := e5 h; exact ⟨d, cs, e, hb.steps hs⟩⟩, fun h => by obtain ⟨g, e1, e2, e3, e4, e5⟩ := a_15 h; exact ⟨g, e1, e2, Nat.lt_of_lt_of_le e3 (hs).size, fun h => (e4 h).steps hs, fun h => Bool.noConfusion ((hc.2 17 (by decide)).symm.trans h)⟩, q_14_15⟩ hu ⟨_, _, _, _, _, _, _, _, rfl⟩
 rintro _ ⟨dy1, dy2, dy3, dy4, dy5, dy6, dy7, dy8, rfl⟩
 refine Reg.RC_at (b := ⟨#[_,_,_,_,_,_,_,_,_,_,_,_,_,_,_,_,_,_,_,_,_,_,_,_,_,_,_,_,_,_,_,_,_,_,_,_], _⟩) rfl ?_
 refine Reg.RC_call rfl (tlt rfl) rfl (fun D v' W' hc hj hf K hK => ?_) ?_
 ·
  obtain ⟨j0, jk, jn, b_a, b_b, b_i, b_r, a_14, a_15, q_14_15⟩ := hj
  go_step
  have hs : ∀ o : Obj, Steps W' (W'.alloc o) := fun o => (Below.refl _ _).alloc (Nat.le_refl _) o
  exact hK.out _ _ (Keeps.steps (hs _)) ⟨jst j0 (hs _), jk.then_ (hs _), jsz jn (hs _), b_a.steps (hs _), b_b.steps (hs _), b_i.steps (hs _), b_r.steps (hs _), fun _ => ⟨W'.heap.size, rfl, jn, by rw [World.size_alloc]; omega, fun _ => Blk.new _ _ _, fun h => Bool.noConfusion ((hc.2 16 (by decide)).symm.trans h)⟩, fun h => by obtain ⟨g, e1, e2, e3, e4, e5⟩ := a_15 h; exact ⟨g, e1, e2, Nat.lt_of_lt_of_le e3 ((hs _)).size, fun h => (e4 h).steps (hs _), fun h => by obtain ⟨d, cs, e, hb⟩ := e5 h; exact ⟨d, cs, e, hb.steps (hs _)⟩⟩, fun _ h' => by obtain ⟨g, e1, e2, e3, e4, e5⟩ := a_15 h'; exact fun e => Reg.ptr_ne e3 (e.trans e1)⟩ trivial ⟨_, rfl⟩
 rintro _ ⟨p9, rfl⟩
 refine Reg.RC_at (b := ⟨#[_,_,_,_,_,_,_,_,_,_,_,_,_,_,_,_,_,_,_,_,_,_,_,_,_,_,_,_,_,_,_,_,_,_,_,_], _⟩) rfl ?_
 refine Reg.RC_call rfl (tlt rfl) rfl (fun D v' W' hc hj hf K hK => ?_) ?_
 ·
  obtain ⟨j0, jk, jn, b_a, b_b, b_i, b_r, a_14, a_15, q_14_15⟩ := hj
  go_step
  have hs : ∀ o : Obj, Steps W' (W'.alloc o) := fun o => (Below.refl _ _).alloc (Nat.le_refl _) o
  exact hK.out _ _ (Keeps.steps (hs _)) ⟨jst j0 (hs _), jk.then_ (hs _), jsz jn (hs _), b_a.steps (hs _), b_b.steps (hs _), b_i.steps (hs _), b_r.steps (hs _), fun h => by obtain ⟨g, e1, e2, e3, e4, e5⟩ := a_14 h; exact ⟨g, e1, e2, Nat.lt_of_lt_of_le e3 ((hs _)).size, fun h => (e4 h).steps (hs _), fun h => by obtain ⟨d, cs, e, hb⟩ := e5 h; exact ⟨d, cs, e, hb.steps (hs _)⟩⟩, fun _ => ⟨W'.heap.size, rfl, jn, by rw [World.size_alloc]; omega, fun _ => Blk.new _ _ _, fun h => Bool.noConfusion ((hc.2 17 (by decide)).symm.trans h)⟩, fun h _ => by obtain ⟨g, e1, e2, e3, e4, e5⟩ := a_14 h; exact fun e => Reg.ptr_ne e3 (e.symm.trans e1)⟩ trivial ⟨_, rfl⟩
 rintro _ ⟨p10, rfl⟩
 refine Reg.RC_at (b := ⟨#[_,_,_,_,_,_,_,_,_,_,_,_,_,_,_,_,_,_,_,_,_,_,_,_,_,_,_,_,_,_,_,_,_,_,_,_], _⟩) rfl ?_
 refine Reg.RC_call rfl (by intro t ht; cases ht) rfl (fun D v' W' hc hj hf K hK => ?_) (fun _ _ => Reg.RC_at (b := ⟨_, _⟩) rfl ?_)
 ·
  obtain ⟨j0, jk, jn, b_a, b_b, b_i, b_r, a_14, a_15, q_14_15⟩ := hj
  have f := hf (14, some 9) (.tail _ (.head _)) rfl
  have e6 : v' 14 = .pointer (some ⟨p9, 0, none⟩) := f.2.1
  obtain ⟨g, e1, e2, e3, e4, e5⟩ := a_14 f.1
  obtain rfl : p9 = g := Reg.ptr_eq (e6.symm.trans e1)
  have hb := e4 hc.1
  clear e4 e5
  have fc := hf (6, some 17) (.head _) rfl
  have ec : v' 6 = .agg #[.bool dx1, .slice dx2 dx3 dx4, .bool dx5, .slice dx6 dx7 dx8] := fc.2.1
  have ff := hb.fr
  obtain ⟨cc0, cc1, cc2, cc3⟩ := hb.r3
  go_step
  exact hK.out undef _ (keeps4 hb rfl) ⟨(below4 j0 (by show w.heap.size ≤ p9; omega)), jk.trans (keeps4 hb rfl), by simpa using jn, (b_a).far4 (show w.heap.size ≠ p9 by omega), (b_b).far4 (show w.heap.size + 1 ≠ p9 by omega), (b_i).far4 (show w.heap.size + 1 + 1 ≠ p9 by omega), (b_r).far4 (show w.heap.size + 1 + 1 + 1 ≠ p9 by omega), fun _ => ⟨p9, e1, e2, by simpa using e3, fun h => Bool.noConfusion h, fun _ => ⟨fc.1, _, ec, (Blk.set2 (cs' := #[.bool dx1, .slice dx2 dx3 dx4, .bool dx5, .slice dx6 dx7 dx8]) (Blk.set2 (cs' := #[.bool dx1, .slice dx2 dx3 dx4, .bool dx5, .slice none 0 0]) (Blk.set2 (cs' := #[.bool dx1, .slice dx2 dx3 dx4, .bool false, .slice none 0 0]) (Blk.set2 (cs' := #[.bool dx1, .slice none 0 0, .bool false, .slice none 0 0]) hb (i := 0) rfl) (i := 1) rfl) (i := 2) rfl) (i := 3) rfl)⟩⟩, fun h => by obtain ⟨g, k1, k2, k3, k4, k5⟩ := a_15 h; have hne : g ≠ p9 := fun e => (q_14_15 f.1 h) (by rw [e6, k1, e]); exact ⟨g, k1, k2, by simpa using k3, fun h => (k4 h).far4 hne, fun h => by obtain ⟨d, cs, e, hb2⟩ := k5 h; exact ⟨d, cs, e, (hb2).far4 hne⟩⟩, q_14_15⟩ trivial trivial
 refine Reg.RC_call rfl (by intro t ht; cases ht) rfl (fun D v' W' hc hj hf K hK => ?_) (fun _ _ => Reg.RC_at (b := ⟨_, _⟩) rfl ?_)
 ·
  obtain ⟨j0, jk, jn, b_a, b_b, b_i, b_r, a_14, a_15, q_14_15⟩ := hj
  have f := hf (15, some 10) (.tail _ (.head _)) rfl
  have e6 : v' 15 = .pointer (some ⟨p10, 0, none⟩) := f.2.1
  obtain ⟨g, e1, e2, e3, e4, e5⟩ := a_15 f.1
  obtain rfl : p10 = g := Reg.ptr_eq (e6.symm.trans e1)
  have hb := e4 hc.1
  clear e4 e5
  have fc := hf (13, some 24) (.head _) rfl
  have ec : v' 13 = .agg #[.bool dy1, .slice dy2 dy3 dy4, .bool dy5, .slice dy6 dy7 dy8] := fc.2.1
  have ff := hb.fr
  obtain ⟨cc0, cc1, cc2, cc3⟩ := hb.r3
  go_step
  exact hK.out undef _ (keeps4 hb rfl) ⟨(below4 j0 (by show w.heap.size ≤ p10; omega)), jk.trans (keeps4 hb rfl), by simpa using jn, (b_a).far4 (show w.heap.size ≠ p10 by omega), (b_b).far4 (show w.heap.size + 1 ≠ p10 by omega), (b_i).far4 (show w.heap.size + 1 + 1 ≠ p10 by omega), (b_r).far4 (show w.heap.size + 1 + 1 + 1 ≠ p10 by omega), fun h => by obtain ⟨g, k1, k2, k3, k4, k5⟩ := a_14 h; have hne : g ≠ p10 := fun e => (q_14_15 h f.1) (by rw [e6, k1, e]); exact ⟨g, k1, k2, by simpa using k3, fun h => (k4 h).far4 hne, fun h => by obtain ⟨d, cs, e, hb2⟩ := k5 h; exact ⟨d, cs, e, (hb2).far4 hne⟩⟩, fun _ => ⟨p10, e1, e2, by simpa using e3, fun h => Bool.noConfusion h, fun _ => ⟨fc.1, _, ec, (Blk.set2 (cs' := #[.bool dy1, .slice dy2 dy3 dy4, .bool dy5, .slice dy6 dy7 dy8]) (Blk.set2 (cs' := #[.bool dy1, .slice dy2 dy3 dy4, .bool dy5, .slice none 0 0]) (Blk.set2 (cs' := #[.bool dy1, .slice dy2 dy3 dy4, .bool false, .slice none 0 0]) (Blk.set2 (cs' := #[.bool dy1, .slice none 0 0, .bool false, .slice none 0 0]) hb (i := 0) rfl) (i := 1) rfl) (i := 2) rfl) (i := 3) rfl)⟩⟩, q_14_15⟩ trivial trivial
 refine Reg.RC_end (fun Dn v' w1 hd hj hf => ?_)
 obtain ⟨j0, jk, jn, b_a, b_b, b_i, b_r, a_14, a_15, q_14_15⟩ := hj
 have B := j0
 have oa := b_a
 clear b_a
 have ob := b_b
 clear b_b
 have oi := b_i
 clear b_i
 have or := b_r
 clear b_r
 have f := hf (14, some 9) (.tail _ (.tail _ (.tail _ (.tail _ (.head _))))) rfl
 have e6_ : v' 14 = .pointer (some ⟨p9, 0, none⟩) := f.2.1
 obtain ⟨g, e1_, zdx, -, -, e5_⟩ := a_14 f.1
 obtain rfl : p9 = g := Reg.ptr_eq (e6_.symm.trans e1_)
 obtain ⟨-, cs_, ee, odx⟩ := e5_ (hd 16 (Nat.le_of_ble_eq_true rfl))
 have ef : v' 6 = .agg #[.bool dx1, .slice dx2 dx3 dx4, .bool dx5, .slice dx6 dx7 dx8] := (hf (6, some 17) (.tail _ (.head _)) rfl).2.1
 obtain rfl : #[.bool dx1, .slice dx2 dx3 dx4, .bool dx5, .slice dx6 dx7 dx8] = cs_ := by have := ef.symm.trans ee; simpa only [Value.tuple.injEq, Value.agg.injEq, Array.mk.injEq, List.cons.injEq, and_true, true_and] using this
 clear ee ef f e5_ e1_ e6_
 have f := hf (15, some 10) (.tail _ (.tail _ (.tail _ (.tail _ (.tail _ (.head _)))))) rfl
 have e6_ : v' 15 = .pointer (some ⟨p10, 0, none⟩) := f.2.1
 obtain ⟨g, e1_, zdy, -, -, e5_⟩ := a_15 f.1
 obtain rfl : p10 = g := Reg.ptr_eq (e6_.symm.trans e1_)
 obtain ⟨-, cs_, ee, ody⟩ := e5_ (hd 17 (Nat.le_of_ble_eq_true rfl))
 have ef : v' 13 = .agg #[.bool dy1, .slice dy2 dy3 dy4, .bool dy5, .slice dy6 dy7 dy8] := (hf (13, some 24) (.tail _ (.tail _ (.tail _ (.head _)))) rfl).2.1
 obtain rfl : #[.bool dy1, .slice dy2 dy3 dy4, .bool dy5, .slice dy6 dy7 dy8] = cs_ := by have := ef.symm.trans ee; simpa only [Value.tuple.injEq, Value.agg.injEq, Array.mk.injEq, List.cons.injEq, and_true, true_and] using this
 clear ee ef f e5_ e1_ e6_
 have y_14_15 : p9 ≠ p10 := fun e => q_14_15 (hf (14, some 9) (.tail _ (.tail _ (.tail _ (.tail _ (.head _))))) rfl).1 (hf (15, some 10) (.tail _ (.tail _ (.tail _ (.tail _ (.tail _ (.head _)))))) rfl).1 (by have h1 := (hf (14, some 9) (.tail _ (.tail _ (.tail _ (.tail _ (.head _))))) rfl).2.1; have h2 := (hf (15, some 10) (.tail _ (.tail _ (.tail _ (.tail _ (.tail _ (.head _)))))) rfl).2.1; rw [h1, h2]; show Value.pointer _ = .pointer _; rw [e])
 have Fdx : Hid (FR w1 (.agg #[.bool dx1, .slice dx2 dx3 dx4, .bool dx5, .slice dx6 dx7 dx8]) ((x - pX))) := (hf (6, some 17) (.tail _ (.head _)) rfl).2.2
 have Fdy : Hid (FR w1 (.agg #[.bool dy1, .slice dy2 dy3 dy4, .bool dy5, .slice dy6 dy7 dy8]) ((y - pY))) := (hf (13, some 24) (.tail _ (.tail _ (.tail _ (.head _)))) rfl).2.2
 replace Fa := Hid.mk_ (Fa.out.keeps jk)
 replace Fb := Hid.mk_ (Fb.out.keeps jk)
 clear hd hf jk j0 q_14_15
 refine hQ _ _ ?_
 clear hQ hops Q' ops'
 obtain ⟨cdx0, cdx1, cdx2, cdx3, fdx, ldx⟩ := odx.s3
 obtain ⟨cdy0, cdy1, cdy2, cdy3, fdy, ldy⟩ := ody.s3
 have Gdx : Hid (FR _ (.agg #[.bool false, .slice dx2 dx3 dx4, .bool dx5, .slice dx6 dx7 dx8]) (absQ (x - pX))) := Hid.mk_ Fdx.out.abs
 have Gdy : Hid (FR _ (.agg #[.bool false, .slice dy2 dy3 dy4, .bool dy5, .slice dy6 dy7 dy8]) (absQ (y - pY))) := Hid.mk_ Fdy.out.abs
 have LT' : cmpQ (absQ (x - pX)) (absQ (y - pY)) < 0 → R = absQ (y - pY) := fun h => LT (cmpQ_lt.1 h)
 have GE' : ¬ cmpQ (absQ (x - pX)) (absQ (y - pY)) < 0 → R = absQ (x - pX) := fun h => GE (fun g => h (cmpQ_lt.2 g))
 have CM := fun (w' : World) (u v : Value) (s : Below w.heap.size w w') (h1 : FR w' u (absQ (x - pX))) (h2 : FR w' v (absQ (y - pY))) => mcompare w' (KC w' s) h1 h2 (sx.sub s1).abs (sy.sub s2).abs (by omega)
 obtain ⟨c, hc⟩ : ∃ c, cmpQ (absQ (x - pX)) (absQ (y - pY)) = c := ⟨_, rfl⟩
 rw [hc] at CM LT' GE'
 clear hc LT GE
 go_wp2_with fail
 refine (CM _ _ _ belowB (Gdx.out.keeps keepsB) (Gdy.out.keeps keepsB)).mono ?_
 rintro e w2 ⟨rfl, hb2⟩
 have st : Steps _ w2 := hb2
 have Bn : Below w.heap.size w w2 := belowA st
 have kp : Keeps w1 w2 := Keeps.then_ keepsB st
 replace oa : Blk w2 (w.heap.size) 28 #[.bool a1, .slice a2 a3 a4, .bool a5, .slice a6 a7 a8] := Blk.stepsK st
 replace ob : Blk w2 (w.heap.size + 1) 28 #[.bool b1, .slice b2 b3 b4, .bool b5, .slice b6 b7 b8] := Blk.stepsK st
 replace oi : Blk w2 (w.heap.size + 1 + 1) 23 #[.int .i64 px, .int .i64 py] := Blk.stepsK st
 replace or : Blk w2 (w.heap.size + 1 + 1 + 1) 28 #[.bool false, .slice none 0 0, .bool false, .slice none 0 0] := Blk.stepsK st
 replace odx : Blk w2 (p9) 28 #[.bool false, .slice dx2 dx3 dx4, .bool dx5, .slice dx6 dx7 dx8] := Blk.stepsK st
 replace ody : Blk w2 (p10) 28 #[.bool false, .slice dy2 dy3 dy4, .bool dy5, .slice dy6 dy7 dy8] := Blk.stepsK st
 clear cdx0 cdx1 cdx2 cdx3 fdx ldx cdy0 cdy1 cdy2 cdy3 fdy ldy
 replace B := Bn
 replace Fa := Hid.mk_ (Fa.out.keeps kp)
 replace Fb := Hid.mk_ (Fb.out.keeps kp)
 replace Fdx := Hid.mk_ (Fdx.out.keeps kp)
 replace Fdy := Hid.mk_ (Fdy.out.keeps kp)
 replace Gdx := Hid.mk_ (Gdx.out.keeps kp)
 replace Gdy := Hid.mk_ (Gdy.out.keeps kp)
 clear kp
 clear st
 have la := oa.lt
 have lb := ob.lt
 have li := oi.lt
 obtain ⟨cr0, cr1, cr2, cr3, fr, lr⟩ := or.s3
 obtain ⟨cdx0, cdx1, cdx2, cdx3⟩ := odx.r3
 have ldx := odx.lt
 obtain ⟨cdy0, cdy1, cdy2, cdy3⟩ := ody.r3
 have ldy := ody.lt
 rcases Int.lt_or_le c 0 with hc | hc
 ·
  have E0 := LT' hc
  clear LT' GE' CM
  go_wp2_with fail
  refine bodyPost_ret (by simp [results, Tryz.results101, go_sem, la, lb, li, cr0, cr1, cr2, cr3, fr, lr, cdx0, cdx1, cdx2, cdx3, ldx, cdy0, cdy1, cdy2, cdy3, ldy]; rfl) rfl ?_
  exact ⟨_, rfl, by rw [E0]; exact Gdy.out.keeps keepsB, belowB⟩
 ·
  have hc2 : ¬ c < 0 := by omega
  have E0 : R = absQ (x - pX) := by first | exact GE' hc2 | exact GE' hc
  clear LT' GE' CM
  go_wp2_with fail
  refine bodyPost_ret (by simp [results, Tryz.results101, go_sem, la, lb, li, cr0, cr1, cr2, cr3, fr, lr, cdx0, cdx1, cdx2, cdx3, ldx, cdy0, cdy1, cdy2, cdy3, ldy]; rfl) rfl ?_
  exact ⟨_, rfl, by rw [E0]; exact Gdx.out.keeps keepsB, belowB⟩
theorem prapart {va vb : Value} {x y : Rat} (px py : Int) (w : World) (ha : FR w va x) (hb : FR w vb y) (sx : sz x 300) (sy : sz y 300) (hp : okP (px, py)) :
  Calls Tryz.prog 30 #[va, vb, .agg #[.int .i64 px, .int .i64 py]] w fun e w' => ∃ u, e = .returned u ∧ FR w' u (apartQ x y (px, py)) ∧ Steps w w' := by
 obtain ⟨p0, p1, p2, p3⟩ := hp
 dsimp only at p0 p1 p2 p3
 have ofx : ∀ w', Calls Tryz.prog 47 #[.int .i64 px] w' fun e w2 => ∃ v, e = .returned v ∧ FR w2 v (px : Rat) ∧ Steps w' w2 := fun w' => rwhole px w' (by omega) (by omega)
 have ofy : ∀ w', Calls Tryz.prog 47 #[.int .i64 py] w' fun e w2 => ∃ v, e = .returned v ∧ FR w2 v (py : Rat) ∧ Steps w' w2 := fun w' => rwhole py w' (by omega) (by omega)
 have s1 : sz (px : Rat) 2 := sz_coord ⟨p0, p1⟩
 have s2 : sz (py : Rat) 2 := sz_coord ⟨p2, p3⟩
 have LT := fun h => apart_lt (x := x) (y := y) (q := (px, py)) h
 have GE := fun h => apart_ge (x := x) (y := y) (q := (px, py)) h
 generalize apartQ x y (px, py) = R at *
 dsimp only at LT GE
 generalize (px : Rat) = pX at *
 generalize (py : Rat) = pY at *
 obtain ⟨a1, a2, a3, a4, a5, a6, a7, a8, rfl⟩ := ha.shape
 obtain ⟨b1, b2, b3, b4, b5, b6, b7, b8, rfl⟩ := hb.shape
 have Fa := Hid.mk_ ha
 have Fb := Hid.mk_ hb
 clear ha hb p0 p1 p2 p3
 go_enter Tryz.func30, Tryz.ntmps30
 go_upto_region 1 with fail
 refine Reg.wp_chain_n (fun N0 D v W => Below w.heap.size w W ∧ Keeps w W ∧ N0 ≤ W.heap.size ∧ Blk W (w.heap.size) 28 #[.bool a1, .slice a2 a3 a4, .bool a5, .slice a6 a7 a8] ∧ Blk W (w.heap.size + 1) 28 #[.bool b1, .slice b2 b3 b4, .bool b5, .slice b6 b7 b8] ∧ Blk W (w.heap.size + 1 + 1) 23 #[.int .i64 px, .int .i64 py] ∧ Blk W (w.heap.size + 1 + 1 + 1) 28 #[.bool false, .slice none 0 0, .bool false, .slice none 0 0] ∧ (D 10 = true → ∃ g : Nat, v 10 = .pointer (some ⟨g, 0, none⟩) ∧ N0 ≤ g ∧ g < W.heap.size ∧ (D 12 = false → Blk W g 28 #[.bool false, .slice none 0 0, .bool false, .slice none 0 0]) ∧ (D 12 = true → D 4 = true ∧ ∃ cs, v 4 = .agg cs ∧ Blk W g 28 cs)) ∧ (D 11 = true → ∃ g : Nat, v 11 = .pointer (some ⟨g, 0, none⟩) ∧ N0 ≤ g ∧ g < W.heap.size ∧ (D 13 = false → Blk W g 28 #[.bool false, .slice none 0 0, .bool false, .slice none 0 0]) ∧ (D 13 = true → D 9 = true ∧ ∃ cs, v 9 = .agg cs ∧ Blk W g 28 cs)) ∧ (D 10 = true → D 11 = true → v 10 ≠ v 11))
  (Reg.inl [3, 4, 8, 9, 10, 11, 12, 13]) (Reg.gv [(3, IsFr), (4, IsFr), (8, IsFr), (9, IsFr), (10, IsPtr), (11, IsPtr)]) (gw [(3, GFr (pX)), (4, GFr ((x - pX))), (8, GFr (pY)), (9, GFr ((y - pY)))]) (fun _ => Keeps) (fun _ _ => False) (Reg.pl [(4, [(3, some 12)]), (9, [(8, some 17)]), (12, [(4, some 13), (10, some 7)]), (13, [(9, some 18), (11, some 8)]), (14, [(3, some 12), (4, some 13), (8, some 17), (9, some 18), (10, some 7), (11, some 8)])]) (Reg.pl [(10, [12]), (4, [12]), (11, [13]), (9, [13])])
  (by kernel_rfl) (by kernel_rfl) (by kernel_rfl) (Reg.gvA _) (fun N0 hN0 => ⟨fun v => ?_, fun D v v' W hv hj => ?_, fun D v k j W W' x _ _ _ _ hk hg => gwA hk hg, fun _ _ _ _ h => h.elim, fun ops' Q' hops hQ => ?_⟩)
 · exact ⟨belowB, keepsB, Nat.le_of_eq hN0.out, ownK, ownK, ownK, ownK, (fun h => Bool.noConfusion h), (fun h => Bool.noConfusion h), (fun h => Bool.noConfusion h)⟩
 ·
  obtain ⟨j0, jk, jn, b_a, b_b, b_i, b_r, a_10, a_11, q_10_11⟩ := hj
  exact ⟨j0, jk, jn, b_a, b_b, b_i, b_r, fun h => by obtain ⟨g, e1, e2, e3, e4, e5⟩ := a_10 h; exact ⟨g, (hv 10 h) ▸ e1, e2, e3, e4, fun h => by obtain ⟨d, cs, e, hb⟩ := e5 h; exact ⟨d, cs, (hv 4 d) ▸ e, hb⟩⟩, fun h => by obtain ⟨g, e1, e2, e3, e4, e5⟩ := a_11 h; exact ⟨g, (hv 11 h) ▸ e1, e2, e3, e4, fun h => by obtain ⟨d, cs, e, hb⟩ := e5 h; exact ⟨d, cs, (hv 9 d) ▸ e, hb⟩⟩, fun h h' => (hv 10 h) ▸ (hv 11 h') ▸ q_10_11 h h'⟩
 have eN := hN0.out
 try simp only [World.size_alloc, World.size_setCell, World.size_drew, World.heap_drewN] at eN
 have i_a : w.heap.size < N0 := by first | omega | (have h := oa.lt; omega)
 have i_b : w.heap.size + 1 < N0 := by first | omega | (have h := ob.lt; omega)
 have i_i : w.heap.size + 1 + 1 < N0 := by first | omega | (have h := oi.lt; omega)
 have i_r : w.heap.size + 1 + 1 + 1 < N0 := by first | omega | (have h := or.lt; omega)
 have iw : w.heap.size ≤ N0 := by first | omega | (have h := B.size; omega)
 clear hN0 eN
 apply Reg.RP rfl rfl rfl 9 rfl rfl
 ·
  intro D v' W' hc hj hf K hK
  obtain ⟨j0, jk, jn, b_a, b_b, b_i, b_r, a_10, a_11, q_10_11⟩ := hj
  obtain ⟨c0, c1, c2, c3⟩ := b_a.r3
  go_step
  exact hK.out
 · rfl
 refine Reg.RP0 10 ?_
 apply Reg.RP rfl rfl rfl 11 rfl rfl
 ·
  intro D v' W' hc hj hf K hK
  obtain ⟨j0, jk, jn, b_a, b_b, b_i, b_r, a_10, a_11, q_10_11⟩ := hj
  have c0 := b_i.q0
  go_step
  exact hK.out
 · rfl
 refine Reg.RC_call rfl (tlt rfl) rfl (fun D v' W' hc hj hf K hK => ?_) ?_
 ·
  obtain ⟨j0, jk, jn, b_a, b_b, b_i, b_r, a_10, a_11, q_10_11⟩ := hj
  clear hf
  go_step
  refine (ofx W').mono ?_
  rintro e W2 ⟨u, rfl, hu, hs⟩
  obtain ⟨kx1, kx2, kx3, kx4, kx5, kx6, kx7, kx8, rfl⟩ := hu.shape
  exact hK.out _ W2 (Keeps.steps hs) ⟨jst j0 hs, jk.then_ hs, jsz jn hs, b_a.steps hs, b_b.steps hs, b_i.steps hs, b_r.steps hs, fun h => by obtain ⟨g, e1, e2, e3, e4, e5⟩ := a_10 h; exact ⟨g, e1, e2, Nat.lt_of_lt_of_le e3 (hs).size, fun h => (e4 h).steps hs, fun h => by obtain ⟨d, cs, e, hb⟩ := e5 h; exact ⟨d, cs, e, hb.steps hs⟩⟩, fun h => by obtain ⟨g, e1, e2, e3, e4, e5⟩ := a_11 h; exact ⟨g, e1, e2, Nat.lt_of_lt_of_le e3 (hs).size, fun h => (e4 h).steps hs, fun h => by obtain ⟨d, cs, e, hb⟩ := e5 h; exact ⟨d, cs, e, hb.steps hs⟩⟩, q_10_11⟩ hu ⟨_, _, _, _, _, _, _, _, rfl⟩
 rintro _ ⟨kx1, kx2, kx3, kx4, kx5, kx6, kx7, kx8, rfl⟩
 refine Reg.RC_at (b := ⟨#[_,_,_,_,_,_,_,_,_,_,_,_,_,_,_,_,_,_,_,_,_,_,_,_,_,_,_,_,_], _⟩) rfl ?_
 refine Reg.RC_call rfl (tlt rfl) rfl (fun D v' W' hc hj hf K hK => ?_) ?_
 ·
  obtain ⟨j0, jk, jn, b_a, b_b, b_i, b_r, a_10, a_11, q_10_11⟩ := hj
  have g3 : GFr (pX) _ W' := (hf (3, some 12) (.head _) rfl).2.2
  have g3 : FR W' _ (pX) := g3
  clear hf
  go_step
  refine (prsub W' (Fa.out.keeps jk) g3 sx s1 (by omega)).mono ?_
  rintro e W2 ⟨u, rfl, hu, hs⟩
  obtain ⟨dx1, dx2, dx3, dx4, dx5, dx6, dx7, dx8, rfl⟩ := hu.shape
  exact hK.out _ W2 (Keeps.steps hs) ⟨jst j0 hs, jk.then_ hs, jsz jn hs, b_a.steps hs, b_b.steps hs, b_i.steps hs, b_r.steps hs, fun h => by obtain ⟨g, e1, e2, e3, e4, e5⟩ := a_10 h; exact ⟨g, e1, e2, Nat.lt_of_lt_of_le e3 (hs).size, fun h => (e4 h).steps hs, fun h => Bool.noConfusion ((hc.2 12 (by decide)).symm.trans h)⟩, fun h => by obtain ⟨g, e1, e2, e3, e4, e5⟩ := a_11 h; exact ⟨g, e1, e2, Nat.lt_of_lt_of_le e3 (hs).size, fun h => (e4 h).steps hs, fun h => by obtain ⟨d, cs, e, hb⟩ := e5 h; exact ⟨d, cs, e, hb.steps hs⟩⟩, q_10_11⟩ hu ⟨_, _, _, _, _, _, _, _, rfl⟩
 rintro _ ⟨dx1, dx2, dx3, dx4, dx5, dx6, dx7, dx8, rfl⟩
 refine Reg.RC_at (b := ⟨#[_,_,_,_,_,_,_,_,_,_,_,_,_,_,_,_,_,_,_,_,_,_,_,_,_,_,_,_,_], _⟩) rfl ?_
 apply Reg.RP rfl rfl rfl 14 rfl rfl
 ·
  intro D v' W' hc hj hf K hK
  obtain ⟨j0, jk, jn, b_a, b_b, b_i, b_r, a_10, a_11, q_10_11⟩ := hj
  obtain ⟨c0, c1, c2, c3⟩ := b_b.r3
  go_step
  exact hK.out
 · rfl
 refine Reg.RP0 15 ?_
 apply Reg.RP rfl rfl rfl 16 rfl rfl
 ·
  intro D v' W' hc hj hf K hK
  obtain ⟨j0, jk, jn, b_a, b_b, b_i, b_r, a_10, a_11, q_10_11⟩ := hj
  have c1 := b_i.q1
  go_step
  exact hK.out
 · rfl
 refine Reg.RC_call rfl (tlt rfl) rfl (fun D v' W' hc hj hf K hK => ?_) ?_
 ·
  obtain ⟨j0, jk, jn, b_a, b_b, b_i, b_r, a_10, a_11, q_10_11⟩ := hj
  clear hf
  go_step
  refine (ofy W').mono ?_
  rintro e W2 ⟨u, rfl, hu, hs⟩
  obtain ⟨ky1, ky2, ky3, ky4, ky5, ky6, ky7, ky8, rfl⟩ := hu.shape
  exact hK.out _ W2 (Keeps.steps hs) ⟨jst j0 hs, jk.then_ hs, jsz jn hs, b_a.steps hs, b_b.steps hs, b_i.steps hs, b_r.steps hs, fun h => by obtain ⟨g, e1, e2, e3, e4, e5⟩ := a_10 h; exact ⟨g, e1, e2, Nat.lt_of_lt_of_le e3 (hs).size, fun h => (e4 h).steps hs, fun h => by obtain ⟨d, cs, e, hb⟩ := e5 h; exact ⟨d, cs, e, hb.steps hs⟩⟩, fun h => by obtain ⟨g, e1, e2, e3, e4, e5⟩ := a_11 h; exact ⟨g, e1, e2, Nat.lt_of_lt_of_le e3 (hs).size, fun h => (e4 h).steps hs, fun h => by obtain ⟨d, cs, e, hb⟩ := e5 h; exact ⟨d, cs, e, hb.steps hs⟩⟩, q_10_11⟩ hu ⟨_, _, _, _, _, _, _, _, rfl⟩
 rintro _ ⟨ky1, ky2, ky3, ky4, ky5, ky6, ky7, ky8, rfl⟩
 refine Reg.RC_at (b := ⟨#[_,_,_,_,_,_,_,_,_,_,_,_,_,_,_,_,_,_,_,_,_,_,_,_,_,_,_,_,_], _⟩) rfl ?_
 refine Reg.RC_call rfl (tlt rfl) rfl (fun D v' W' hc hj hf K hK => ?_) ?_
 ·
  obtain ⟨j0, jk, jn, b_a, b_b, b_i, b_r, a_10, a_11, q_10_11⟩ := hj
  have g8 : GFr (pY) _ W' := (hf (8, some 17) (.head _) rfl).2.2
  have g8 : FR W' _ (pY) := g8
  clear hf
  go_step
  refine (prsub W' (Fb.out.keeps jk) g8 sy s2 (by omega)).mono ?_
  rintro e W2 ⟨u, rfl, hu, hs⟩
  obtain ⟨dy1, dy2, dy3, dy4, dy5, dy6, dy7, dy8, rfl⟩ := hu.shape
  exact hK.out _ W2 (Keeps.steps hs) ⟨jst j0 hs, jk.then_ hs, jsz jn hs, b_a.steps hs, b_b.steps hs, b_i.steps hs, b_r.steps hs, fun h => by obtain ⟨g, e1, e2, e3, e4, e5⟩ := a_10 h; exact ⟨g, e1, e2, Nat.lt_of_lt_of_le e3 (hs).size, fun h => (e4 h).steps hs, fun h => by obtain ⟨d, cs, e, hb⟩ := e5 h; exact ⟨d, cs, e, hb.steps hs⟩⟩, fun h => by obtain ⟨g, e1, e2, e3, e4, e5⟩ := a_11 h; exact ⟨g, e1, e2, Nat.lt_of_lt_of_le e3 (hs).size, fun h => (e4 h).steps hs, fun h => Bool.noConfusion ((hc.2 13 (by decide)).symm.trans h)⟩, q_10_11⟩ hu ⟨_, _, _, _, _, _, _, _, rfl⟩
 rintro _ ⟨dy1, dy2, dy3, dy4, dy5, dy6, dy7, dy8, rfl⟩
 refine Reg.RC_at (b := ⟨#[_,_,_,_,_,_,_,_,_,_,_,_,_,_,_,_,_,_,_,_,_,_,_,_,_,_,_,_,_], _⟩) rfl ?_
 refine Reg.RC_call rfl (tlt rfl) rfl (fun D v' W' hc hj hf K hK => ?_) ?_
 ·
  obtain ⟨j0, jk, jn, b_a, b_b, b_i, b_r, a_10, a_11, q_10_11⟩ := hj
  go_step
  have hs : ∀ o : Obj, Steps W' (W'.alloc o) := fun o => (Below.refl _ _).alloc (Nat.le_refl _) o
  exact hK.out _ _ (Keeps.steps (hs _)) ⟨jst j0 (hs _), jk.then_ (hs _), jsz jn (hs _), b_a.steps (hs _), b_b.steps (hs _), b_i.steps (hs _), b_r.steps (hs _), fun _ => ⟨W'.heap.size, rfl, jn, by rw [World.size_alloc]; omega, fun _ => Blk.new _ _ _, fun h => Bool.noConfusion ((hc.2 12 (by decide)).symm.trans h)⟩, fun h => by obtain ⟨g, e1, e2, e3, e4, e5⟩ := a_11 h; exact ⟨g, e1, e2, Nat.lt_of_lt_of_le e3 ((hs _)).size, fun h => (e4 h).steps (hs _), fun h => by obtain ⟨d, cs, e, hb⟩ := e5 h; exact ⟨d, cs, e, hb.steps (hs _)⟩⟩, fun _ h' => by obtain ⟨g, e1, e2, e3, e4, e5⟩ := a_11 h'; exact fun e => Reg.ptr_ne e3 (e.trans e1)⟩ trivial ⟨_, rfl⟩
 rintro _ ⟨p7, rfl⟩
 refine Reg.RC_at (b := ⟨#[_,_,_,_,_,_,_,_,_,_,_,_,_,_,_,_,_,_,_,_,_,_,_,_,_,_,_,_,_], _⟩) rfl ?_
 refine Reg.RC_call rfl (tlt rfl) rfl (fun D v' W' hc hj hf K hK => ?_) ?_
 ·
  obtain ⟨j0, jk, jn, b_a, b_b, b_i, b_r, a_10, a_11, q_10_11⟩ := hj
  go_step
  have hs : ∀ o : Obj, Steps W' (W'.alloc o) := fun o => (Below.refl _ _).alloc (Nat.le_refl _) o
  exact hK.out _ _ (Keeps.steps (hs _)) ⟨jst j0 (hs _), jk.then_ (hs _), jsz jn (hs _), b_a.steps (hs _), b_b.steps (hs _), b_i.steps (hs _), b_r.steps (hs _), fun h => by obtain ⟨g, e1, e2, e3, e4, e5⟩ := a_10 h; exact ⟨g, e1, e2, Nat.lt_of_lt_of_le e3 ((hs _)).size, fun h => (e4 h).steps (hs _), fun h => by obtain ⟨d, cs, e, hb⟩ := e5 h; exact ⟨d, cs, e, hb.steps (hs _)⟩⟩, fun _ => ⟨W'.heap.size, rfl, jn, by rw [World.size_alloc]; omega, fun _ => Blk.new _ _ _, fun h => Bool.noConfusion ((hc.2 13 (by decide)).symm.trans h)⟩, fun h _ => by obtain ⟨g, e1, e2, e3, e4, e5⟩ := a_10 h; exact fun e => Reg.ptr_ne e3 (e.symm.trans e1)⟩ trivial ⟨_, rfl⟩
 rintro _ ⟨p8, rfl⟩
 refine Reg.RC_at (b := ⟨#[_,_,_,_,_,_,_,_,_,_,_,_,_,_,_,_,_,_,_,_,_,_,_,_,_,_,_,_,_], _⟩) rfl ?_
 refine Reg.RC_call rfl (by intro t ht; cases ht) rfl (fun D v' W' hc hj hf K hK => ?_) (fun _ _ => Reg.RC_at (b := ⟨_, _⟩) rfl ?_)
 ·
  obtain ⟨j0, jk, jn, b_a, b_b, b_i, b_r, a_10, a_11, q_10_11⟩ := hj
  have f := hf (10, some 7) (.tail _ (.head _)) rfl
  have e6 : v' 10 = .pointer (some ⟨p7, 0, none⟩) := f.2.1
  obtain ⟨g, e1, e2, e3, e4, e5⟩ := a_10 f.1
  obtain rfl : p7 = g := Reg.ptr_eq (e6.symm.trans e1)
  have hb := e4 hc.1
  clear e4 e5
  have fc := hf (4, some 13) (.head _) rfl
  have ec : v' 4 = .agg #[.bool dx1, .slice dx2 dx3 dx4, .bool dx5, .slice dx6 dx7 dx8] := fc.2.1
  have ff := hb.fr
  obtain ⟨cc0, cc1, cc2, cc3⟩ := hb.r3
  go_step
  exact hK.out undef _ (keeps4 hb rfl) ⟨(below4 j0 (by show w.heap.size ≤ p7; omega)), jk.trans (keeps4 hb rfl), by simpa using jn, (b_a).far4 (show w.heap.size ≠ p7 by omega), (b_b).far4 (show w.heap.size + 1 ≠ p7 by omega), (b_i).far4 (show w.heap.size + 1 + 1 ≠ p7 by omega), (b_r).far4 (show w.heap.size + 1 + 1 + 1 ≠ p7 by omega), fun _ => ⟨p7, e1, e2, by simpa using e3, fun h => Bool.noConfusion h, fun _ => ⟨fc.1, _, ec, (Blk.set2 (cs' := #[.bool dx1, .slice dx2 dx3 dx4, .bool dx5, .slice dx6 dx7 dx8]) (Blk.set2 (cs' := #[.bool dx1, .slice dx2 dx3 dx4, .bool dx5, .slice none 0 0]) (Blk.set2 (cs' := #[.bool dx1, .slice dx2 dx3 dx4, .bool false, .slice none 0 0]) (Blk.set2 (cs' := #[.bool dx1, .slice none 0 0, .bool false, .slice none 0 0]) hb (i := 0) rfl) (i := 1) rfl) (i := 2) rfl) (i := 3) rfl)⟩⟩, fun h => by obtain ⟨g, k1, k2, k3, k4, k5⟩ := a_11 h; have hne : g ≠ p7 := fun e => (q_10_11 f.1 h) (by rw [e6, k1, e]); exact ⟨g, k1, k2, by simpa using k3, fun h => (k4 h).far4 hne, fun h => by obtain ⟨d, cs, e, hb2⟩ := k5 h; exact ⟨d, cs, e, (hb2).far4 hne⟩⟩, q_10_11⟩ trivial trivial
 refine Reg.RC_call rfl (by intro t ht; cases ht) rfl (fun D v' W' hc hj hf K hK => ?_) (fun _ _ => Reg.RC_at (b := ⟨_, _⟩) rfl ?_)
 ·
  obtain ⟨j0, jk, jn, b_a, b_b, b_i, b_r, a_10, a_11, q_10_11⟩ := hj
  have f := hf (11, some 8) (.tail _ (.head _)) rfl
  have e6 : v' 11 = .pointer (some ⟨p8, 0, none⟩) := f.2.1
  obtain ⟨g, e1, e2, e3, e4, e5⟩ := a_11 f.1
  obtain rfl : p8 = g := Reg.ptr_eq (e6.symm.trans e1)
  have hb := e4 hc.1
  clear e4 e5
  have fc := hf (9, some 18) (.head _) rfl
  have ec : v' 9 = .agg #[.bool dy1, .slice dy2 dy3 dy4, .bool dy5, .slice dy6 dy7 dy8] := fc.2.1
  have ff := hb.fr
  obtain ⟨cc0, cc1, cc2, cc3⟩ := hb.r3
  go_step
  exact hK.out undef _ (keeps4 hb rfl) ⟨(below4 j0 (by show w.heap.size ≤ p8; omega)), jk.trans (keeps4 hb rfl), by simpa using jn, (b_a).far4 (show w.heap.size ≠ p8 by omega), (b_b).far4 (show w.heap.size + 1 ≠ p8 by omega), (b_i).far4 (show w.heap.size + 1 + 1 ≠ p8 by omega), (b_r).far4 (show w.heap.size + 1 + 1 + 1 ≠ p8 by omega), fun h => by obtain ⟨g, k1, k2, k3, k4, k5⟩ := a_10 h; have hne : g ≠ p8 := fun e => (q_10_11 h f.1) (by rw [e6, k1, e]); exact ⟨g, k1, k2, by simpa using k3, fun h => (k4 h).far4 hne, fun h => by obtain ⟨d, cs, e, hb2⟩ := k5 h; exact ⟨d, cs, e, (hb2).far4 hne⟩⟩, fun _ => ⟨p8, e1, e2, by simpa using e3, fun h => Bool.noConfusion h, fun _ => ⟨fc.1, _, ec, (Blk.set2 (cs' := #[.bool dy1, .slice dy2 dy3 dy4, .bool dy5, .slice dy6 dy7 dy8]) (Blk.set2 (cs' := #[.bool dy1, .slice dy2 dy3 dy4, .bool dy5, .slice none 0 0]) (Blk.set2 (cs' := #[.bool dy1, .slice dy2 dy3 dy4, .bool false, .slice none 0 0]) (Blk.set2 (cs' := #[.bool dy1, .slice none 0 0, .bool false, .slice none 0 0]) hb (i := 0) rfl) (i := 1) rfl) (i := 2) rfl) (i := 3) rfl)⟩⟩, q_10_11⟩ trivial trivial
 refine Reg.RC_end (fun Dn v' w1 hd hj hf => ?_)
 obtain ⟨j0, jk, jn, b_a, b_b, b_i, b_r, a_10, a_11, q_10_11⟩ := hj
 have B := j0
 have oa := b_a
 clear b_a
 have ob := b_b
 clear b_b
 have oi := b_i
 clear b_i
 have or := b_r
 clear b_r
 have f := hf (10, some 7) (.tail _ (.tail _ (.tail _ (.tail _ (.head _))))) rfl
 have e6_ : v' 10 = .pointer (some ⟨p7, 0, none⟩) := f.2.1
 obtain ⟨g, e1_, zdx, -, -, e5_⟩ := a_10 f.1
 obtain rfl : p7 = g := Reg.ptr_eq (e6_.symm.trans e1_)
 obtain ⟨-, cs_, ee, odx⟩ := e5_ (hd 12 (Nat.le_of_ble_eq_true rfl))
 have ef : v' 4 = .agg #[.bool dx1, .slice dx2 dx3 dx4, .bool dx5, .slice dx6 dx7 dx8] := (hf (4, some 13) (.tail _ (.head _)) rfl).2.1
 obtain rfl : #[.bool dx1, .slice dx2 dx3 dx4, .bool dx5, .slice dx6 dx7 dx8] = cs_ := by have := ef.symm.trans ee; simpa only [Value.tuple.injEq, Value.agg.injEq, Array.mk.injEq, List.cons.injEq, and_true, true_and] using this
 clear ee ef f e5_ e1_ e6_
 have f := hf (11, some 8) (.tail _ (.tail _ (.tail _ (.tail _ (.tail _ (.head _)))))) rfl
 have e6_ : v' 11 = .pointer (some ⟨p8, 0, none⟩) := f.2.1
 obtain ⟨g, e1_, zdy, -, -, e5_⟩ := a_11 f.1
 obtain rfl : p8 = g := Reg.ptr_eq (e6_.symm.trans e1_)
 obtain ⟨-, cs_, ee, ody⟩ := e5_ (hd 13 (Nat.le_of_ble_eq_true rfl))
 have ef : v' 9 = .agg #[.bool dy1, .slice dy2 dy3 dy4, .bool dy5, .slice dy6 dy7 dy8] := (hf (9, some 18) (.tail _ (.tail _ (.tail _ (.head _)))) rfl).2.1
 obtain rfl : #[.bool dy1, .slice dy2 dy3 dy4, .bool dy5, .slice dy6 dy7 dy8] = cs_ := by have := ef.symm.trans ee; simpa only [Value.tuple.injEq, Value.agg.injEq, Array.mk.injEq, List.cons.injEq, and_true, true_and] using this
 clear ee ef f e5_ e1_ e6_
 have y_10_11 : p7 ≠ p8 := fun e => q_10_11 (hf (10, some 7) (.tail _ (.tail _ (.tail _ (.tail _ (.head _))))) rfl).1 (hf (11, some 8) (.tail _ (.tail _ (.tail _ (.tail _ (.tail _ (.head _)))))) rfl).1 (by have h1 := (hf (10, some 7) (.tail _ (.tail _ (.tail _ (.tail _ (.head _))))) rfl).2.1; have h2 := (hf (11, some 8) (.tail _ (.tail _ (.tail _ (.tail _ (.tail _ (.head _)))))) rfl).2.1; rw [h1, h2]; show Value.pointer _ = .pointer _; rw [e])
 have Fdx : Hid (FR w1 (.agg #[.bool dx1, .slice dx2 dx3 dx4, .bool dx5, .slice dx6 dx7 dx8]) ((x - pX))) := (hf (4, some 13) (.tail _ (.head _)) rfl).2.2
 have Fdy : Hid (FR w1 (.agg #[.bool dy1, .slice dy2 dy3 dy4, .bool dy5, .slice dy6 dy7 dy8]) ((y - pY))) := (hf (9, some 18) (.tail _ (.tail _ (.tail _ (.head _)))) rfl).2.2
 replace Fa := Hid.mk_ (Fa.out.keeps jk)
 replace Fb := Hid.mk_ (Fb.out.keeps jk)
 clear hd hf jk j0 q_10_11
 refine hQ _ _ ?_
 clear hQ hops Q' ops'
 obtain ⟨cdx0, cdx1, cdx2, cdx3, fdx, ldx⟩ := odx.s3
 obtain ⟨cdy0, cdy1, cdy2, cdy3, fdy, ldy⟩ := ody.s3
 have Gdx : Hid (FR _ (.agg #[.bool false, .slice dx2 dx3 dx4, .bool dx5, .slice dx6 dx7 dx8]) (absQ (x - pX))) := Hid.mk_ Fdx.out.abs
 have Gdy : Hid (FR _ (.agg #[.bool false, .slice dy2 dy3 dy4, .bool dy5, .slice dy6 dy7 dy8]) (absQ (y - pY))) := Hid.mk_ Fdy.out.abs
 have LT' : cmpQ (absQ (x - pX)) (absQ (y - pY)) < 0 → R = absQ (y - pY) := fun h => LT (cmpQ_lt.1 h)
 have GE' : ¬ cmpQ (absQ (x - pX)) (absQ (y - pY)) < 0 → R = absQ (x - pX) := fun h => GE (fun g => h (cmpQ_lt.2 g))
 have CM := fun (w' : World) (u v : Value) (h1 : FR w' u (absQ (x - pX))) (h2 : FR w' v (absQ (y - pY))) => prcmp w' h1 h2 (sx.sub s1).abs (sy.sub s2).abs (by omega)
 obtain ⟨c, hc⟩ : ∃ c, cmpQ (absQ (x - pX)) (absQ (y - pY)) = c := ⟨_, rfl⟩
 rw [hc] at CM LT' GE'
 clear hc LT GE
 go_wp2_with fail
 refine (CM _ _ _ (Gdx.out.keeps keepsB) (Gdy.out.keeps keepsB)).mono ?_
 rintro e w2 ⟨rfl, hb2⟩
 have st : Steps _ w2 := hb2
 have Bn : Below w.heap.size w w2 := belowA st
 have kp : Keeps w1 w2 := Keeps.then_ keepsB st
 replace oa : Blk w2 (w.heap.size) 28 #[.bool a1, .slice a2 a3 a4, .bool a5, .slice a6 a7 a8] := Blk.stepsK st
 replace ob : Blk w2 (w.heap.size + 1) 28 #[.bool b1, .slice b2 b3 b4, .bool b5, .slice b6 b7 b8] := Blk.stepsK st
 replace oi : Blk w2 (w.heap.size + 1 + 1) 23 #[.int .i64 px, .int .i64 py] := Blk.stepsK st
 replace or : Blk w2 (w.heap.size + 1 + 1 + 1) 28 #[.bool false, .slice none 0 0, .bool false, .slice none 0 0] := Blk.stepsK st
 replace odx : Blk w2 (p7) 28 #[.bool false, .slice dx2 dx3 dx4, .bool dx5, .slice dx6 dx7 dx8] := Blk.stepsK st
 replace ody : Blk w2 (p8) 28 #[.bool false, .slice dy2 dy3 dy4, .bool dy5, .slice dy6 dy7 dy8] := Blk.stepsK st
 clear cdx0 cdx1 cdx2 cdx3 fdx ldx cdy0 cdy1 cdy2 cdy3 fdy ldy
 replace B := Bn
 replace Fa := Hid.mk_ (Fa.out.keeps kp)
 replace Fb := Hid.mk_ (Fb.out.keeps kp)
 replace Fdx := Hid.mk_ (Fdx.out.keeps kp)
 replace Fdy := Hid.mk_ (Fdy.out.keeps kp)
 replace Gdx := Hid.mk_ (Gdx.out.keeps kp)
 replace Gdy := Hid.mk_ (Gdy.out.keeps kp)
 clear kp
 clear st
 have la := oa.lt
 have lb := ob.lt
 have li := oi.lt
 obtain ⟨cr0, cr1, cr2, cr3, fr, lr⟩ := or.s3
 obtain ⟨cdx0, cdx1, cdx2, cdx3⟩ := odx.r3
 have ldx := odx.lt
 obtain ⟨cdy0, cdy1, cdy2, cdy3⟩ := ody.r3
 have ldy := ody.lt
 rcases Int.lt_or_le c 0 with hc | hc
 ·
  have E0 := LT' hc
  clear LT' GE' CM
  go_wp2_with fail
  refine bodyPost_ret (by simp [results, Tryz.results30, go_sem, la, lb, li, cr0, cr1, cr2, cr3, fr, lr, cdx0, cdx1, cdx2, cdx3, ldx, cdy0, cdy1, cdy2, cdy3, ldy]; rfl) rfl ?_
  exact ⟨_, rfl, by rw [E0]; exact Gdy.out.keeps keepsB, belowB⟩
 ·
  have hc2 : ¬ c < 0 := by omega
  have E0 : R = absQ (x - pX) := by first | exact GE' hc2 | exact GE' hc
  clear LT' GE' CM
  go_wp2_with fail
  refine bodyPost_ret (by simp [results, Tryz.results30, go_sem, la, lb, li, cr0, cr1, cr2, cr3, fr, lr, cdx0, cdx1, cdx2, cdx3, ldx, cdy0, cdy1, cdy2, cdy3, ldy]; rfl) rfl ?_
  exact ⟨_, rfl, by rw [E0]; exact Gdx.out.keeps keepsB, belowB⟩
theorem sz_chance {R A n : Int} (r0 : 1 ≤ R) (r1 : R ≤ 65536) (a0 : 1 ≤ A) (a1 : A ≤ 17592186044416) (n0 : 0 ≤ n) (n1 : n ≤ 200) : sz (chanceQ R A n) 2 ∧ (0 ≤ n * 4 * R * R ∧ n * 4 * R * R ≤ 3435973836800) ∧ (0 ≤ n * 4 * R ∧ n * 4 * R ≤ 52428800) := by
 have h1 : 0 ≤ n * 4 * R ∧ n * 4 * R ≤ 52428800 := by
  have p := mul_bound (a := n * 4) (b := R) (m := 800) (n := 65536) (by omega) (by omega) (by omega) (by omega)
  exact ⟨Int.mul_nonneg (by omega) (by omega), by omega⟩
 have h2 : 0 ≤ n * 4 * R * R ∧ n * 4 * R * R ≤ 3435973836800 := by
  have p := mul_bound (a := n * 4 * R) (b := R) (m := 52428800) (n := 65536) (by omega) (by omega) (by omega) (by omega)
  exact ⟨Int.mul_nonneg (by omega) (by omega), by omega⟩
 exact ⟨sz_frac (by omega) (by rw [bp_two]; unfold absN; omega) (by rw [bp_two]; unfold absN; omega), h2, h1⟩
theorem chance_pos {R A n : Int} (r0 : 1 ≤ R) (a0 : 1 ≤ A) (n0 : 1 ≤ n) : 0 < chanceQ R A n := by
 unfold chanceQ
 have h : 0 < n * 4 * R * R := Int.mul_pos (Int.mul_pos (by omega) (by omega)) (by omega)
 rw [Rat.div_def]
 exact Rat.mul_pos (Rat.intCast_pos.2 h) (Rat.inv_pos.2 (Rat.intCast_pos.2 (by omega)))
theorem sz_one : sz ((1 : Int) : Rat) 2 := sz_coord (by decide)
theorem one_cast : ((1 : Int) : Rat) = 1 := rfl
theorem mchance {ua1 ua5 ub1 ub5 uc1 uc5 : Bool} {ua2 ua6 ub2 ub6 uc2 uc6 : Option Addr} {ua3 ua4 ua7 ua8 ub3 ub4 ub7 ub8 uc3 uc4 uc7 uc8 : Nat} (R A n : Int) {gc : Nat} {tc : TypeId} (w : World) (hc : Blk w gc tc #[.int .i64 0]) (r0 : 1 ≤ R) (r1 : R ≤ 65536) (a0 : 1 ≤ A) (a1 : A ≤ 17592186044416) (n0 : 0 ≤ n) (n1 : n ≤ 200) :
  Calls Tryz.prog 50 #[.pointer (some ⟨gc, 0, none⟩), .agg #[.bool ua1, .slice ua2 ua3 ua4, .bool ua5, .slice ua6 ua7 ua8, .int .i64 R, .int .i64 A, .bool ub1, .slice ub2 ub3 ub4, .bool ub5, .slice ub6 ub7 ub8, .bool uc1, .slice uc2 uc3 uc4, .bool uc5, .slice uc6 uc7 uc8], .int .i64 n] w fun e w' => ∃ v, e = .returned (.tuple #[v, .bool (decide (chanceQ R A n < 1))]) ∧ FR w' v (chanceQ R A n) ∧ Steps w w' := by
 obtain ⟨sc, m2, m1⟩ := sz_chance r0 r1 a0 a1 n0 n1
 obtain ⟨x1, e1⟩ : ∃ x, n * 4 = x := ⟨_, rfl⟩
 have v1 : wrap64 (n * 4) = x1 := by rw [← e1]; unfold wrap64; omega
 have eC : chanceQ R A n = ((n * 4 * R * R : Int) : Rat) / (A : Rat) := rfl
 rw [e1] at m1 m2 eC
 obtain ⟨x2, e2⟩ : ∃ x, x1 * R = x := ⟨_, rfl⟩
 rw [e2] at m1 m2 eC
 have v2 : wrap64 (x1 * R) = x2 := by rw [e2]; unfold wrap64; omega
 obtain ⟨x3, e3⟩ : ∃ x, x2 * R = x := ⟨_, rfl⟩
 rw [e3] at m2 eC
 have v3 : wrap64 (x2 * R) = x3 := by rw [e3]; unfold wrap64; omega
 have KC : ∀ w', Below w.heap.size w w' → Blk w' gc tc #[.int .i64 0] := fun w' s => hc.steps s
 have OF := fun w' => fofQ x3 A w' (by omega) (by omega) (by omega) (by omega) (by omega)
 rw [← eC] at OF
 have O1 : ∀ w', Below w.heap.size w w' → Calls Tryz.prog 66 #[.pointer (some ⟨gc, 0, none⟩), .int .i64 1] w' fun e w2 => ∃ v, e = .returned v ∧ FR w2 v (1 : Rat) ∧ Steps w' w2 := fun w' s => by have := mof 1 w' (KC w' s) (by decide) (by decide); rw [one_cast] at this; exact this
 have CM : ∀ w' u v, Below w.heap.size w w' → FR w' u (chanceQ R A n) → FR w' v 1 → Calls Tryz.prog 67 #[.pointer (some ⟨gc, 0, none⟩), u, v] w' fun e w2 => e = .returned (.int .i64 (cmpQ (chanceQ R A n) 1)) ∧ Steps w' w2 := fun w' u v s h1 h2 => mcompare w' (KC w' s) h1 h2 sc sz_one (by omega)
 have ED : decide (chanceQ R A n < 1) = decide (cmpQ (chanceQ R A n) 1 < 0) := decide_eq_decide.2 cmpQ_lt.symm
 rw [ED]
 have KP : ∀ w' u, Below w.heap.size w w' → FR w' u (chanceQ R A n) → Calls Tryz.prog 76 #[.pointer (some ⟨gc, 0, none⟩), u, .int .i64 0] w' fun e w2 => ∃ v, e = .returned v ∧ FR w2 v (chanceQ R A n) ∧ Steps w' w2 := fun w' u s h => mkeepQ w' (KC w' s) h
 obtain ⟨c, hcc⟩ : ∃ c, cmpQ (chanceQ R A n) 1 = c := ⟨_, rfl⟩
 rw [hcc] at CM ⊢
 generalize chanceQ R A n = q at *
 clear eC e1 e2 e3 m1 m2 r0 r1 a0 a1 n0 n1 hc ED hcc sc
 go_enter Tryz.func50, Tryz.ntmps50
 go_wp2_with fail
 refine (OF _).mono ?_
 rintro e w1 ⟨vya, rfl, hvya, hb1⟩
 have st : Steps _ w1 := hb1
 have B : Below w.heap.size w w1 := belowA st
 have ou : Blk w1 (w.heap.size) 45 #[.bool ua1, .slice ua2 ua3 ua4, .bool ua5, .slice ua6 ua7 ua8, .int .i64 R, .int .i64 A, .bool ub1, .slice ub2 ub3 ub4, .bool ub5, .slice ub6 ub7 ub8, .bool uc1, .slice uc2 uc3 uc4, .bool uc5, .slice uc6 uc7 uc8] := Blk.stepsK st
 have or : Blk w1 (w.heap.size + 1) 28 #[.bool false, .slice none 0 0, .bool false, .slice none 0 0] := Blk.stepsK st
 clear st
 obtain ⟨ya1, ya2, ya3, ya4, ya5, ya6, ya7, ya8, rfl⟩ := hvya.shape
 have Fya := Hid.mk_ hvya
 clear hvya
 go_wp2_with fail
 refine (KP _ _ belowB (Fya.out.keeps keepsB)).mono ?_
 rintro e w2 ⟨vh_, rfl, hvh_, hb2⟩
 have st : Steps _ w2 := hb2
 have sk : Below w1.heap.size w1 w2 := belowA st
 replace B := below_steps B (Nat.le_refl _) sk
 replace ou := ou.steps sk
 replace or := or.steps sk
 replace Fya := Hid.mk_ (Fya.out.steps sk)
 clear st sk
 obtain ⟨h_1, h_2, h_3, h_4, h_5, h_6, h_7, h_8, rfl⟩ := hvh_.shape
 have Fh_ := Hid.mk_ hvh_
 clear hvh_
 have zr_2 : w.heap.size + 1 < w2.heap.size := or.lt
 have zz2 := B.size
 go_wp2_with fail
 go_upto_region 2 with fail
 refine Reg.wp_chain_n (fun N0 D v W => Below w.heap.size w W ∧ Keeps w2 W ∧ N0 ≤ W.heap.size ∧ Blk W (w.heap.size) 45 #[.bool ua1, .slice ua2 ua3 ua4, .bool ua5, .slice ua6 ua7 ua8, .int .i64 R, .int .i64 A, .bool ub1, .slice ub2 ub3 ub4, .bool ub5, .slice ub6 ub7 ub8, .bool uc1, .slice uc2 uc3 uc4, .bool uc5, .slice uc6 uc7 uc8] ∧ ((D 7 = false → Blk W (w.heap.size + 1) 28 #[.bool false, .slice none 0 0, .bool false, .slice none 0 0]) ∧ (D 7 = true → Blk W (w.heap.size + 1) 28 #[.bool h_1, .slice h_2 h_3 h_4, .bool h_5, .slice h_6 h_7 h_8])) ∧ Blk W (w2.heap.size) 28 #[.bool h_1, .slice h_2 h_3 h_4, .bool h_5, .slice h_6 h_7 h_8])
  (Reg.inl [4, 5, 7]) (Reg.gv [(4, IsFr), (5, fun z_ => z_ = .int .i64 c)]) (gw [(4, GFr (1))]) (fun _ => Keeps) (fun _ _ => False) (Reg.pl [(5, [(4, some 28)]), (9, [(4, some 28), (5, some 29)])]) (Reg.pl [])
  (by kernel_rfl) (by kernel_rfl) (by kernel_rfl) (Reg.gvA _) (fun N0 hN0 => ⟨fun v => ?_, fun D v v' W hv hj => ?_, fun D v k j W W' x _ _ _ _ hk hg => gwA hk hg, fun _ _ _ _ h => h.elim, fun ops' Q' hops hQ => ?_⟩)
 · exact ⟨belowB, keepsB, Nat.le_of_eq hN0.out, ownK, ⟨fun _ => ownK, (fun h => Bool.noConfusion h)⟩, ownK⟩
 ·
  obtain ⟨j0, jk, jn, b_u, b_r, b_v8⟩ := hj
  exact ⟨j0, jk, jn, b_u, b_r, b_v8⟩
 have eN := hN0.out
 try simp only [World.size_alloc, World.size_setCell, World.size_drew, World.heap_drewN] at eN
 have i_u : w.heap.size < N0 := by first | omega | (have h := ou.lt; omega)
 have i_r : w.heap.size + 1 < N0 := by first | omega | (have h := or.lt; omega)
 have i_v8 : w2.heap.size < N0 := by first | omega | (have h := ov8.lt; omega)
 have iw : w.heap.size ≤ N0 := by first | omega | (have h := B.size; omega)
 clear hN0 eN
 apply Reg.RP rfl rfl rfl 24 rfl rfl
 ·
  intro D v' W' hc hj hf K hK
  obtain ⟨j0, jk, jn, b_u, b_r, b_v8⟩ := hj
  obtain ⟨c0, c1, c2, c3⟩ := b_v8.r3
  go_step
  exact hK.out
 · rfl
 refine Reg.RP0 25 ?_
 apply Reg.RP rfl rfl rfl 26 rfl rfl
 ·
  intro D v' W' hc hj hf K hK
  obtain ⟨j0, jk, jn, b_u, b_r, b_v8⟩ := hj
  obtain ⟨c0, c1, c2, c3⟩ := b_v8.r3
  go_step
  exact hK.out
 · rfl
 refine Reg.RP0 27 ?_
 refine Reg.RC_call rfl (tlt rfl) rfl (fun D v' W' hc hj hf K hK => ?_) ?_
 ·
  obtain ⟨j0, jk, jn, b_u, b_r, b_v8⟩ := hj
  clear hf
  go_step
  refine (O1 W' j0).mono ?_
  rintro e W2 ⟨u, rfl, hu, hs⟩
  obtain ⟨k_1, k_2, k_3, k_4, k_5, k_6, k_7, k_8, rfl⟩ := hu.shape
  exact hK.out _ W2 (Keeps.steps hs) ⟨jst j0 hs, jk.then_ hs, jsz jn hs, b_u.steps hs, ⟨fun h => (b_r.1 h).steps hs, fun h => (b_r.2 h).steps hs⟩, b_v8.steps hs⟩ hu ⟨_, _, _, _, _, _, _, _, rfl⟩
 rintro _ ⟨k_1, k_2, k_3, k_4, k_5, k_6, k_7, k_8, rfl⟩
 refine Reg.RC_at (b := ⟨#[_,_,_,_,_,_,_,_,_,_,_,_,_,_,_,_,_,_,_,_,_,_,_,_,_,_,_,_,_,_,_], _⟩) rfl ?_
 refine Reg.RC_call rfl (tlt rfl) rfl (fun D v' W' hc hj hf K hK => ?_) ?_
 ·
  obtain ⟨j0, jk, jn, b_u, b_r, b_v8⟩ := hj
  have g4 : GFr (1) _ W' := (hf (4, some 28) (.head _) rfl).2.2
  have g4 : FR W' _ (1) := g4
  clear hf
  go_step
  refine (CM W' _ _ j0 (Fh_.out.keeps jk) g4).mono ?_
  rintro e W2 ⟨rfl, hs⟩
  exact hK.out _ W2 (Keeps.steps hs) ⟨jst j0 hs, jk.then_ hs, jsz jn hs, b_u.steps hs, ⟨fun h => (b_r.1 h).steps hs, fun h => (b_r.2 h).steps hs⟩, b_v8.steps hs⟩ trivial rfl
 rintro _ rfl
 refine Reg.RC_at (b := ⟨#[_,_,_,_,_,_,_,_,_,_,_,_,_,_,_,_,_,_,_,_,_,_,_,_,_,_,_,_,_,_,_], _⟩) rfl ?_
 refine Reg.RP0 30 ?_
 refine Reg.RC_call rfl (by intro t ht; cases ht) rfl (fun D v' W' hc hj hf K hK => ?_) (fun _ _ => Reg.RC_at (b := ⟨_, _⟩) rfl ?_)
 ·
  obtain ⟨j0, jk, jn, b_u, b_r, b_v8⟩ := hj
  have hb := b_r.1 hc.1
  have e2 : w.heap.size ≤ w.heap.size + 1 := by omega
  have ff := hb.fr
  obtain ⟨cc0, cc1, cc2, cc3⟩ := hb.r3
  go_step
  exact hK.out undef _ (keeps4 hb rfl) ⟨(below4 j0 (by show w.heap.size ≤ w.heap.size + 1; omega)), jk.trans (keeps4 hb rfl), by simpa using jn, (b_u).far4 (show w.heap.size ≠ w.heap.size + 1 by omega), ⟨fun h => Bool.noConfusion h, fun _ => (Blk.set2 (cs' := #[.bool h_1, .slice h_2 h_3 h_4, .bool h_5, .slice h_6 h_7 h_8]) (Blk.set2 (cs' := #[.bool h_1, .slice h_2 h_3 h_4, .bool h_5, .slice none 0 0]) (Blk.set2 (cs' := #[.bool h_1, .slice h_2 h_3 h_4, .bool false, .slice none 0 0]) (Blk.set2 (cs' := #[.bool h_1, .slice none 0 0, .bool false, .slice none 0 0]) hb (i := 0) rfl) (i := 1) rfl) (i := 2) rfl) (i := 3) rfl)⟩, (b_v8).far4 (show w2.heap.size ≠ w.heap.size + 1 by omega)⟩ trivial trivial
 refine Reg.RP0 7 ?_
 refine Reg.RC_end (fun Dn v' w3 hd hj hf => ?_)
 obtain ⟨j0, jk, jn, b_u, b_r, b_v8⟩ := hj
 have B := j0
 have ou := b_u
 clear b_u
 have or := b_r.2 (hd 7 (Nat.le_of_ble_eq_true rfl))
 clear b_r
 have ov8 := b_v8
 clear b_v8
 replace Fya := Hid.mk_ (Fya.out.keeps jk)
 replace Fh_ := Hid.mk_ (Fh_.out.keeps jk)
 clear hd hf jk j0
 refine hQ _ _ ?_
 clear hQ hops Q' ops'
 have lu := ou.lt
 obtain ⟨cr0, cr1, cr2, cr3⟩ := or.r3
 have lr := or.lt
 go_wp2_with fail
 refine bodyPost_ret (by simp [results, Tryz.results50, go_sem, lu, cr0, cr1, cr2, cr3, lr]; rfl) rfl ?_
 exact ⟨_, rfl, Fh_.out.keeps keepsB, belowB⟩
end Go.Proofs.YtffmbepfbienaaaGreat
