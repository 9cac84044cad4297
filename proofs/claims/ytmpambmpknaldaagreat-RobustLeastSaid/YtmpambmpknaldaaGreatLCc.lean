import Derived.Test.YtmpambmpknaldaaGreatLRowU
import Derived.Test.YtmpambmpknaldaaGreatLVa
import Derived.Test.YtmpambmpknaldaaGreatLMb
set_option linter.unusedVariables false
set_option linter.unusedSimpArgs false
set_option maxHeartbeats 6400000
set_option maxRecDepth 1000000
namespace Go.Proofs.YtmpambmpknaldaaGreat
open Go.RowKit
theorem vkeep (a1 : Bool) (a2 : Option Addr) (a3 a4 : Nat) {gc : Nat} {tc : TypeId} (w : World) (hc : Blk w gc tc #[.int .i64 0]) :
  Calls Tryz.prog 70 #[.pointer (some ⟨gc, 0, none⟩), .agg #[.bool a1, .slice a2 a3 a4], .int .i64 0] w fun e w' => e = .returned (.agg #[.bool a1, .slice a2 a3 a4]) ∧ Steps w w' := by
 have hl := hc.lt
 have h1 : ¬ w.heap.size = gc := by omega
 have h2 : ¬ w.heap.size + 1 = gc := by omega
 have h3 : ¬ gc = w.heap.size := by omega
 have h4 : ¬ gc = w.heap.size + 1 := by omega
 have cc : w.cell? ⟨gc, 0, none⟩ = some (.int .i64 0) := hc.c 0 rfl
 have cf := hc.fr 0
 have HC := Hid.mk_ hc
 clear hc
 go_enter Tryz.func70, Tryz.ntmps70
 go_wp2_with fail
 refine bodyPost_ret (by simp [results, Tryz.results70, go_sem, h1, h2, h3, h4, cc, cf]; rfl) rfl ?_
 exact ⟨rfl, Below.alloc (Below.alloc (below_same (Below.refl _ _) HC.out rfl) (by simp) _) (by simp) _⟩
theorem vkeepN {va : Value} {z : Int} {gc : Nat} {tc : TypeId} (w : World) (hc : Blk w gc tc #[.int .i64 0]) (ha : Num w va z) :
  Calls Tryz.prog 70 #[.pointer (some ⟨gc, 0, none⟩), va, .int .i64 0] w fun e w' => ∃ v, e = .returned v ∧ Num w' v z ∧ Steps w w' := by
 obtain ⟨a1, a2, a3, a4, rfl⟩ := ha.shape
 refine (vkeep a1 a2 a3 a4 w hc).mono ?_
 rintro e w' ⟨rfl, hs⟩
 exact ⟨_, rfl, ha.keeps (Keeps.steps hs), hs⟩
theorem vadd {va vb : Value} {x y : Int} {gc : Nat} {tc : TypeId} (w : World) (hc : Blk w gc tc #[.int .i64 0]) (ha : Num w va x) (hb : Num w vb y) (fx : fits x) (fy : fits y) (fz : fits (x + y)) :
  Calls Tryz.prog 68 #[.pointer (some ⟨gc, 0, none⟩), va, vb] w fun e w' => ∃ v, e = .returned v ∧ Num w' v (x + y) ∧ Steps w w' := by
 have KP : ∀ w' u, Steps w w' → Num w' u (x + y) → Calls Tryz.prog 70 #[.pointer (some ⟨gc, 0, none⟩), u, .int .i64 0] w' fun e w2 => ∃ v, e = .returned v ∧ Num w2 v (x + y) ∧ Steps w' w2 := fun w' u st h => vkeepN w' (hc.steps st) h
 have CL : ∀ w', Steps w w' → Calls Tryz.prog 99 #[va, vb] w' fun e w2 => ∃ v, e = .returned (.tuple #[v, .int .i64 0]) ∧ Num w2 v (x + y) ∧ Steps w' w2 := fun w' st => by
  have := wAdd w' (ha.keeps (Keeps.steps st)) (hb.keeps (Keeps.steps st)) fx fy
  rw [errN_fits fz, clipN_fits fz] at this
  exact this
 obtain ⟨a1, a2, a3, a4, rfl⟩ := ha.shape
 obtain ⟨b1, b2, b3, b4, rfl⟩ := hb.shape
 clear ha hb fx fy fz hc
 generalize x + y = t at *
 go_enter Tryz.func68, Tryz.ntmps68
 go_wp2_with fail
 refine (CL _ belowB).mono ?_
 rintro e w1 ⟨vx_, rfl, hvx_, hb1⟩
 have st : Steps _ w1 := hb1
 have B : Below w.heap.size w w1 := belowA st
 have oa : Blk w1 (w.heap.size) 25 #[.bool a1, .slice a2 a3 a4] := Blk.stepsK st
 have ob : Blk w1 (w.heap.size + 1) 25 #[.bool b1, .slice b2 b3 b4] := Blk.stepsK st
 have or : Blk w1 (w.heap.size + 1 + 1) 25 #[.bool false, .slice none 0 0] := Blk.stepsK st
 clear st
 obtain ⟨x_1, x_2, x_3, x_4, rfl⟩ := hvx_.shape
 have Fx_ := Hid.mk_ hvx_
 clear hvx_
 go_wp2_with fail
 refine (KP _ _ belowB (Fx_.out.keeps keepsB)).mono ?_
 rintro e w2 ⟨vq, rfl, hvq, hb2⟩
 have st : Steps _ w2 := hb2
 have sk : Below w1.heap.size w1 w2 := belowA st
 replace B := below_steps B (Nat.le_refl _) sk
 replace oa := oa.steps sk
 replace ob := ob.steps sk
 replace or := or.steps sk
 replace Fx_ := Hid.mk_ (Fx_.out.steps sk)
 clear st sk
 have la := oa.lt
 have lb := ob.lt
 obtain ⟨cr0, cr1, fr, lr⟩ := or.s1
 obtain ⟨q1, q2, q3, q4, rfl⟩ := hvq.shape
 have Fq := Hid.mk_ hvq
 clear hvq
 go_wp2_with fail
 refine bodyPost_ret (by simp [results, Tryz.results68, go_sem, la, lb, cr0, cr1, fr, lr]; rfl) rfl ?_
 exact ⟨_, rfl, Fq.out.keeps keepsB, belowB⟩
theorem vsub {va vb : Value} {x y : Int} {gc : Nat} {tc : TypeId} (w : World) (hc : Blk w gc tc #[.int .i64 0]) (ha : Num w va x) (hb : Num w vb y) (fx : fits x) (fy : fits y) (fz : fits (x - y)) :
  Calls Tryz.prog 69 #[.pointer (some ⟨gc, 0, none⟩), va, vb] w fun e w' => ∃ v, e = .returned v ∧ Num w' v (x - y) ∧ Steps w w' := by
 have KP : ∀ w' u, Steps w w' → Num w' u (x - y) → Calls Tryz.prog 70 #[.pointer (some ⟨gc, 0, none⟩), u, .int .i64 0] w' fun e w2 => ∃ v, e = .returned v ∧ Num w2 v (x - y) ∧ Steps w' w2 := fun w' u st h => vkeepN w' (hc.steps st) h
 have CL : ∀ w', Steps w w' → Calls Tryz.prog 58 #[va, vb] w' fun e w2 => ∃ v, e = .returned (.tuple #[v, .int .i64 0]) ∧ Num w2 v (x - y) ∧ Steps w' w2 := fun w' st => by
  have := wSub w' (ha.keeps (Keeps.steps st)) (hb.keeps (Keeps.steps st)) fx fy
  rw [errN_fits fz, clipN_fits fz] at this
  exact this
 obtain ⟨a1, a2, a3, a4, rfl⟩ := ha.shape
 obtain ⟨b1, b2, b3, b4, rfl⟩ := hb.shape
 clear ha hb fx fy fz hc
 generalize x - y = t at *
 go_enter Tryz.func69, Tryz.ntmps69
 go_wp2_with fail
 refine (CL _ belowB).mono ?_
 rintro e w1 ⟨vx_, rfl, hvx_, hb1⟩
 have st : Steps _ w1 := hb1
 have B : Below w.heap.size w w1 := belowA st
 have oa : Blk w1 (w.heap.size) 25 #[.bool a1, .slice a2 a3 a4] := Blk.stepsK st
 have ob : Blk w1 (w.heap.size + 1) 25 #[.bool b1, .slice b2 b3 b4] := Blk.stepsK st
 have or : Blk w1 (w.heap.size + 1 + 1) 25 #[.bool false, .slice none 0 0] := Blk.stepsK st
 clear st
 obtain ⟨x_1, x_2, x_3, x_4, rfl⟩ := hvx_.shape
 have Fx_ := Hid.mk_ hvx_
 clear hvx_
 go_wp2_with fail
 refine (KP _ _ belowB (Fx_.out.keeps keepsB)).mono ?_
 rintro e w2 ⟨vq, rfl, hvq, hb2⟩
 have st : Steps _ w2 := hb2
 have sk : Below w1.heap.size w1 w2 := belowA st
 replace B := below_steps B (Nat.le_refl _) sk
 replace oa := oa.steps sk
 replace ob := ob.steps sk
 replace or := or.steps sk
 replace Fx_ := Hid.mk_ (Fx_.out.steps sk)
 clear st sk
 have la := oa.lt
 have lb := ob.lt
 obtain ⟨cr0, cr1, fr, lr⟩ := or.s1
 obtain ⟨q1, q2, q3, q4, rfl⟩ := hvq.shape
 have Fq := Hid.mk_ hvq
 clear hvq
 go_wp2_with fail
 refine bodyPost_ret (by simp [results, Tryz.results69, go_sem, la, lb, cr0, cr1, fr, lr]; rfl) rfl ?_
 exact ⟨_, rfl, Fq.out.keeps keepsB, belowB⟩
theorem vmul {va vb : Value} {x y : Int} {gc : Nat} {tc : TypeId} (w : World) (hc : Blk w gc tc #[.int .i64 0]) (ha : Num w va x) (hb : Num w vb y) (fx : fits x) (fy : fits y) (fz : fits (x * y)) :
  Calls Tryz.prog 40 #[.pointer (some ⟨gc, 0, none⟩), va, vb] w fun e w' => ∃ v, e = .returned v ∧ Num w' v (x * y) ∧ Steps w w' := by
 have KP : ∀ w' u, Steps w w' → Num w' u (x * y) → Calls Tryz.prog 70 #[.pointer (some ⟨gc, 0, none⟩), u, .int .i64 0] w' fun e w2 => ∃ v, e = .returned v ∧ Num w2 v (x * y) ∧ Steps w' w2 := fun w' u st h => vkeepN w' (hc.steps st) h
 have CL : ∀ w', Steps w w' → Calls Tryz.prog 60 #[va, vb] w' fun e w2 => ∃ v, e = .returned (.tuple #[v, .int .i64 0]) ∧ Num w2 v (x * y) ∧ Steps w' w2 := fun w' st => by
  have := wMul w' (ha.keeps (Keeps.steps st)) (hb.keeps (Keeps.steps st)) fx fy
  rw [errN_fits fz, clipN_fits fz] at this
  exact this
 obtain ⟨a1, a2, a3, a4, rfl⟩ := ha.shape
 obtain ⟨b1, b2, b3, b4, rfl⟩ := hb.shape
 clear ha hb fx fy fz hc
 generalize x * y = t at *
 go_enter Tryz.func40, Tryz.ntmps40
 go_wp2_with fail
 refine (CL _ belowB).mono ?_
 rintro e w1 ⟨vx_, rfl, hvx_, hb1⟩
 have st : Steps _ w1 := hb1
 have B : Below w.heap.size w w1 := belowA st
 have oa : Blk w1 (w.heap.size) 25 #[.bool a1, .slice a2 a3 a4] := Blk.stepsK st
 have ob : Blk w1 (w.heap.size + 1) 25 #[.bool b1, .slice b2 b3 b4] := Blk.stepsK st
 have or : Blk w1 (w.heap.size + 1 + 1) 25 #[.bool false, .slice none 0 0] := Blk.stepsK st
 clear st
 obtain ⟨x_1, x_2, x_3, x_4, rfl⟩ := hvx_.shape
 have Fx_ := Hid.mk_ hvx_
 clear hvx_
 go_wp2_with fail
 refine (KP _ _ belowB (Fx_.out.keeps keepsB)).mono ?_
 rintro e w2 ⟨vq, rfl, hvq, hb2⟩
 have st : Steps _ w2 := hb2
 have sk : Below w1.heap.size w1 w2 := belowA st
 replace B := below_steps B (Nat.le_refl _) sk
 replace oa := oa.steps sk
 replace ob := ob.steps sk
 replace or := or.steps sk
 replace Fx_ := Hid.mk_ (Fx_.out.steps sk)
 clear st sk
 have la := oa.lt
 have lb := ob.lt
 obtain ⟨cr0, cr1, fr, lr⟩ := or.s1
 obtain ⟨q1, q2, q3, q4, rfl⟩ := hvq.shape
 have Fq := Hid.mk_ hvq
 clear hvq
 go_wp2_with fail
 refine bodyPost_ret (by simp [results, Tryz.results40, go_sem, la, lb, cr0, cr1, fr, lr]; rfl) rfl ?_
 exact ⟨_, rfl, Fq.out.keeps keepsB, belowB⟩
def Sums (w : World) (v : Value) (l : List Int) : Prop := ∃ (n1 : Bool) (n2 : Option Addr) (n3 n4 : Nat) (s1 : Bool) (s2 : Option Addr) (s3 s4 : Nat) (q1 : Bool) (q2 : Option Addr) (q3 q4 : Nat), v = .agg #[.bool n1, .slice n2 n3 n4, .bool s1, .slice s2 s3 s4, .bool q1, .slice q2 q3 q4] ∧
 Num w (.agg #[.bool n1, .slice n2 n3 n4]) (nI l) ∧ Num w (.agg #[.bool s1, .slice s2 s3 s4]) (sumI l) ∧ Num w (.agg #[.bool q1, .slice q2 q3 q4]) (sqsI l)
theorem Sums.keeps {w w' : World} {v : Value} {l : List Int} (h : Sums w v l) (k : Keeps w w') : Sums w' v l := by
 obtain ⟨n1, n2, n3, n4, s1, s2, s3, s4, q1, q2, q3, q4, e, h1, h2, h3⟩ := h
 exact ⟨n1, n2, n3, n4, s1, s2, s3, s4, q1, q2, q3, q4, e, h1.keeps k, h2.keeps k, h3.keeps k⟩
theorem Sums.steps {w w' : World} {v : Value} {l : List Int} (h : Sums w v l) (k : Steps w w') : Sums w' v l := h.keeps (Keeps.steps k)
theorem valL.get {l : List Int} (h : valL l) {i : Nat} (hi : i < l.length) : -4294967296 ≤ l.getD i 0 ∧ l.getD i 0 ≤ 4294967296 := h.2 _ (getD_mem hi)
theorem Sums.shape {w : World} {v : Value} {l : List Int} (h : Sums w v l) : ∃ (n1 : Bool) (n2 : Option Addr) (n3 n4 : Nat) (s1 : Bool) (s2 : Option Addr) (s3 s4 : Nat) (q1 : Bool) (q2 : Option Addr) (q3 q4 : Nat), v = .agg #[.bool n1, .slice n2 n3 n4, .bool s1, .slice s2 s3 s4, .bool q1, .slice q2 q3 q4] ∧ Num w (.agg #[.bool n1, .slice n2 n3 n4]) (nI l) := by
 obtain ⟨n1, n2, n3, n4, s1, s2, s3, s4, q1, q2, q3, q4, e, h1, h2, h3⟩ := h
 exact ⟨n1, n2, n3, n4, s1, s2, s3, s4, q1, q2, q3, q4, e, h1⟩
theorem vtotal {vl : Value} {l : List Int} {gc : Nat} {tc : TypeId} (w : World) (hc : Blk w gc tc #[.int .i64 0]) (hl : IntsR w vl l) (hv : valL l) :
  Calls Tryz.prog 38 #[.pointer (some ⟨gc, 0, none⟩), vl] w fun e w' => ∃ v, e = .returned v ∧ Sums w' v l ∧ Steps w w' := by
 have KC : ∀ w', Steps w w' → Blk w' gc tc #[.int .i64 0] := fun w' s => hc.steps s
 have FN : ∀ w', Calls Tryz.prog 67 #[.int .i64 (l.length : Int)] w' fun e w2 => ∃ v, e = .returned v ∧ Num w2 v (nI l) ∧ Steps w' w2 := fun w' => wfrom (l.length : Int) w' (by omega) (by have := hv.1; omega)
 have FX : ∀ i, i < l.length → ∀ w', Calls Tryz.prog 67 #[.int .i64 (l.getD i 0)] w' fun e w2 => ∃ v, e = .returned v ∧ Num w2 v (l.getD i 0) ∧ Steps w' w2 := fun i hi w' => wfrom _ w' (by have := (hv.get hi).1; omega) (by have := (hv.get hi).2; omega)
 have fx : ∀ i, i < l.length → fits (l.getD i 0) := fun i hi => fits_bp (val_one hv (getD_mem hi)) (by omega)
 have fs : ∀ i, fits (sumI (l.take i)) := fun i => fits_bp (val_sum (hv.take i)) (by omega)
 have fq : ∀ i, fits (sqsI (l.take i)) := fun i => fits_bp (val_sqs (hv.take i)) (by omega)
 have AS : ∀ i, i < l.length → ∀ w' u v, Steps w w' → Num w' u (sumI (l.take i)) → Num w' v (l.getD i 0) → Calls Tryz.prog 68 #[.pointer (some ⟨gc, 0, none⟩), u, v] w' fun e w2 => ∃ v, e = .returned v ∧ Num w2 v (sumI (l.take (i + 1))) ∧ Steps w' w2 := fun i hi w' u v s h1 h2 => by
  rw [sum_step hi]
  exact vadd w' (KC w' s) h1 h2 (fs i) (fx i hi) (by rw [← sum_step hi]; exact fs (i + 1))
 have MX : ∀ i, i < l.length → ∀ w' u v, Steps w w' → Num w' u (l.getD i 0) → Num w' v (l.getD i 0) → Calls Tryz.prog 40 #[.pointer (some ⟨gc, 0, none⟩), u, v] w' fun e w2 => ∃ v, e = .returned v ∧ Num w2 v (l.getD i 0 * l.getD i 0) ∧ Steps w' w2 := fun i hi w' u v s h1 h2 =>
  vmul w' (KC w' s) h1 h2 (fx i hi) (fx i hi) (fits_bp (absN_mul_le (val_one hv (getD_mem hi)) (val_one hv (getD_mem hi))) (by omega))
 have AQ : ∀ i, i < l.length → ∀ w' u v, Steps w w' → Num w' u (sqsI (l.take i)) → Num w' v (l.getD i 0 * l.getD i 0) → Calls Tryz.prog 68 #[.pointer (some ⟨gc, 0, none⟩), u, v] w' fun e w2 => ∃ v, e = .returned v ∧ Num w2 v (sqsI (l.take (i + 1))) ∧ Steps w' w2 := fun i hi w' u v s h1 h2 => by
  rw [sqs_step hi]
  exact vadd w' (KC w' s) h1 h2 (fq i) (fits_bp (absN_mul_le (val_one hv (getD_mem hi)) (val_one hv (getD_mem hi))) (by omega)) (by rw [← sqs_step hi]; exact fq (i + 1))
 have eS : sumI (l.take l.length) = sumI l := by rw [List.take_length]
 have eQ : sqsI (l.take l.length) = sqsI l := by rw [List.take_length]
 have zS : sumI (l.take 0) = 0 := rfl
 have zQ : sqsI (l.take 0) = 0 := rfl
 have NB := hv.1
 unfold Sums
 obtain ⟨fS, hS⟩ : ∃ f : Nat → Int, ∀ i, sumI (l.take i) = f i := ⟨_, fun _ => rfl⟩
 obtain ⟨fQ, hQ⟩ : ∃ f : Nat → Int, ∀ i, sqsI (l.take i) = f i := ⟨_, fun _ => rfl⟩
 obtain ⟨fX, hX⟩ : ∃ f : Nat → Int, ∀ i, l.getD i 0 = f i := ⟨_, fun _ => rfl⟩
 simp only [hS, hQ, hX] at FX AS MX AQ eS eQ zS zQ
 rw [← eS, ← eQ]
 obtain ⟨la, lc, rfl⟩ := hl.shape
 have HL := Hid.mk_ hl
 obtain ⟨N, hN⟩ : ∃ n, l.length = n := ⟨_, rfl⟩
 have HN := Hid.mk_ hN
 have HX := Hid.mk_ hX
 rw [hN] at FN FX AS MX AQ HL NB ⊢
 generalize nI l = nl at *
 clear hc hl hv fx fs fq hN eS eQ hS hQ hX KC
 go_enter Tryz.func38, Tryz.ntmps38
 have kk := Keeps.refl w
 go_wp2_with fail
 refine (FN _).mono ?_
 rintro e w1 ⟨vn, rfl, hvn, hb1⟩
 have st : Steps _ w1 := hb1
 have B : Below w.heap.size w w1 := belowA st
 have kp : Keeps w w1 := Keeps.then_ keepsB st
 replace kk := kk.trans kp
 have ot : Blk w1 (w.heap.size) 67 #[.bool false, .slice none 0 0, .bool false, .slice none 0 0, .bool false, .slice none 0 0] := Blk.stepsK st
 clear kp
 clear st
 obtain ⟨n1, n2, n3, n4, rfl⟩ := hvn.shape
 have Fn := Hid.mk_ hvn
 clear hvn
 have zt_1 : w.heap.size < w1.heap.size := ot.lt
 have zz1 := B.size
 go_wp2_with fail
 go_loopw [15] (fun sl0 wr => ∃ (i : Nat) (y1 : Bool) (y2 : Option Addr) (y3 y4 : Nat) (z1 : Bool) (z2 : Option Addr) (z3 z4 : Nat), i ≤ N ∧ sl0 = .int .i64 i ∧ Blk wr (w1.heap.size) 67 #[.bool n1, .slice n2 n3 n4, .bool y1, .slice y2 y3 y4, .bool z1, .slice z2 z3 z4] ∧ Num wr (.agg #[.bool y1, .slice y2 y3 y4]) (fS i) ∧ Num wr (.agg #[.bool z1, .slice z2 z3 z4]) (fQ i) ∧ Blk wr (w.heap.size) 67 #[.bool false, .slice none 0 0, .bool false, .slice none 0 0, .bool false, .slice none 0 0] ∧ Below w.heap.size w wr ∧ Keeps w1 wr) (fun sl0 _ => N - (intOf sl0).toNat)
 case atStart => exact ⟨0, _, _, _, _, _, _, _, _, by omega, rfl, ownK, (by rw [zS]; exact Num.zero _), (by rw [zQ]; exact Num.zero _), ownK, belowB, keepsB⟩
 case round =>
  clear ot
  try clear B
  try clear kk
  obtain ⟨i, y1, y2, y3, y4, z1, z2, z3, z4, hi, rfl, os, fy, fz, ot, B, kk⟩ := hrel
  replace Fn := Hid.mk_ (Fn.out.keeps kk)
  have Fy := Hid.mk_ fy
  have Fz := Hid.mk_ fz
  clear fy fz
  obtain ⟨ct0, ct1, ct2, ct3, ct4, ct5, ft, lt⟩ := ot.s5
  obtain ⟨cs0, cs1, cs2, cs3, cs4, cs5⟩ := os.r5
  have ls := os.lt
  rcases Nat.lt_or_ge i N with i4 | i4
  ·
   have hlt : decide ((i : Int) < (N : Int)) = true := decide_eq_true (by omega)
   obtain ⟨b, of, rfl, hbl, hx0⟩ := HL.out.at' (t := i) (by have := HN.out; omega)
   rw [HX.out] at hx0
   have c0 : wr.cell? ⟨b, of + i, none⟩ = some (.int .i64 (fX i)) := (B.cell (p := ⟨b, _, none⟩) hbl).trans hx0
   have fxi := FX i i4
   have asi := AS i i4
   have mxi := MX i i4
   have aqi := AQ i i4
   clear hx0
   go_wp2_with fail
   refine (fxi _).mono ?_
   rintro e w2 ⟨vx, rfl, hvx, hb2⟩
   have st : Steps _ w2 := hb2
   have sk : Below wr.heap.size wr w2 := belowA st
   replace B := below_steps B (Nat.le_refl _) sk
   replace ot := ot.steps sk
   replace os := os.steps sk
   replace Fn := Hid.mk_ (Fn.out.steps sk)
   replace Fy := Hid.mk_ (Fy.out.steps sk)
   replace Fz := Hid.mk_ (Fz.out.steps sk)
   replace kk := kk.then_ sk
   clear st sk ct0 ct1 ct2 ct3 ct4 ct5 ft lt cs0 cs1 cs2 cs3 cs4 cs5 ls
   obtain ⟨cs0, cs1, cs2, cs3, cs4, cs5⟩ := os.r5
   have ls := os.lt
   obtain ⟨x1, x2, x3, x4, rfl⟩ := hvx.shape
   have Fx := Hid.mk_ hvx
   clear hvx
   have zs_2 : w1.heap.size < w2.heap.size := os.lt
   have zz2 := B.size
   go_wp2_with fail
   refine (asi _ _ _ belowB (Fy.out.keeps keepsB) (Fx.out.keeps keepsB)).mono ?_
   rintro e w3 ⟨vu, rfl, hvu, hb3⟩
   have st : Steps _ w3 := hb3
   have sk : Below w2.heap.size w2 w3 := belowA st
   replace B := below_steps B (Nat.le_refl _) sk
   have ox : Blk w3 (w2.heap.size) 25 #[.bool x1, .slice x2 x3 x4] := Blk.stepsK st
   replace ot := ot.steps sk
   replace os := os.steps sk
   replace Fn := Hid.mk_ (Fn.out.steps sk)
   replace Fy := Hid.mk_ (Fy.out.steps sk)
   replace Fz := Hid.mk_ (Fz.out.steps sk)
   replace Fx := Hid.mk_ (Fx.out.steps sk)
   replace kk := kk.then_ sk
   clear st sk cs0 cs1 cs2 cs3 cs4 cs5 ls
   obtain ⟨cs0, cs1, cs2, cs3, cs4, cs5, fs, ls⟩ := os.s5
   obtain ⟨cx0, cx1⟩ := ox.r1
   have lx := ox.lt
   obtain ⟨u1, u2, u3, u4, rfl⟩ := hvu.shape
   have Fu := Hid.mk_ hvu
   clear hvu
   go_wp2_with fail
   have zx_3 : w2.heap.size < w3.heap.size := ox.lt
   have zz3 := B.size
   go_upto_region 7 with fail
   refine Reg.wp_chain_n (fun N0 D v W => Below w.heap.size w W ∧ Keeps w3 W ∧ N0 ≤ W.heap.size ∧ Blk W (w.heap.size) 67 #[.bool false, .slice none 0 0, .bool false, .slice none 0 0, .bool false, .slice none 0 0] ∧ (D 9 = false → Blk W (w1.heap.size) 67 #[.bool n1, .slice n2 n3 n4, .bool u1, .slice u2 u3 u4, .bool z1, .slice z2 z3 z4]) ∧ (D 9 = true → D 7 = true ∧ ∃ (y7_1 : Bool) (y7_2 : Option Addr) (y7_3 y7_4 : Nat), v 7 = .agg #[.bool y7_1, .slice y7_2 y7_3 y7_4] ∧ Blk W (w1.heap.size) 67 #[.bool n1, .slice n2 n3 n4, .bool u1, .slice u2 u3 u4, .bool y7_1, .slice y7_2 y7_3 y7_4]) ∧ Blk W (w2.heap.size) 25 #[.bool x1, .slice x2 x3 x4])
    (Reg.inl [6, 7, 9]) (Reg.gv [(6, IsNu), (7, IsNu)]) (gw [(6, GNu ((fX i * fX i))), (7, GNu ((fQ (i + 1))))]) (fun _ => Keeps) (fun _ _ => False) (Reg.pl [(7, [(6, some 33)]), (9, [(7, some 34)]), (10, [(6, some 33), (7, some 34)])]) (Reg.pl [(7, [9]), (2, [9])])
    (by kernel_rfl) (by kernel_rfl) (by kernel_rfl) (Reg.gvA _) (fun N0 hN0 => ⟨fun v => ?_, fun D v v' W hv hj => ?_, fun D v k j W W' x _ _ _ _ hk hg => gwA hk hg, fun _ _ _ _ h => h.elim, fun ops' Q' hops hQ => ?_⟩)
   · exact ⟨belowB, keepsB, by first | with_reducible exact Nat.le_of_eq hN0.out | (simp only [World.size_drew]; with_reducible exact Nat.le_of_eq hN0.out), ownK, fun q0 => ownD, fun q0 => Bool.noConfusion q0, ownK⟩
   ·
    obtain ⟨j0, jk, jn, b_t, b_s_0, b_s_1, b_x⟩ := hj
    exact ⟨j0, jk, jn, b_t, fun q0 => (b_s_0 q0), fun q0 => by obtain ⟨d_7, y7_1, y7_2, y7_3, y7_4, e_7, hb⟩ := b_s_1 q0; exact ⟨d_7, _, _, _, _, (hv 7 d_7) ▸ e_7, hb⟩, b_x⟩
   have eN := hN0.out
   try simp only [World.size_alloc, World.size_setCell, World.size_drew, World.heap_drewN] at eN
   have i_t : w.heap.size < N0 := by first | omega | (have h := ot.lt; omega)
   have i_s : w1.heap.size < N0 := by first | omega | (have h := os.lt; omega)
   have i_x : w2.heap.size < N0 := by first | omega | (have h := ox.lt; omega)
   have iw : w.heap.size ≤ N0 := by first | omega | (have h := B.size; omega)
   clear cs0 cs1 cs2 cs3 cs4 cs5 fs ls cx0 cx1 lx
   clear hN0
   refine Reg.RP0 27 ?_
   refine Reg.RP0 28 ?_
   apply Reg.RP rfl rfl rfl 29 rfl rfl
   ·
    intro D v' W' hc hj hf K hK
    obtain ⟨j0, jk, jn, b_t, b_s_0, b_s_1, b_x⟩ := hj
    have b_s := b_s_0 (hc.2 9 (by decide))
    have c4 := b_s.q4
    have c5 := b_s.q5
    go_step
    exact hK.out
   · rfl
   refine Reg.RP0 30 ?_
   apply Reg.RP rfl rfl rfl 31 rfl rfl
   ·
    intro D v' W' hc hj hf K hK
    obtain ⟨j0, jk, jn, b_t, b_s_0, b_s_1, b_x⟩ := hj
    obtain ⟨c0, c1⟩ := b_x.r1
    go_step
    exact hK.out
   · rfl
   apply Reg.RP rfl rfl rfl 32 rfl rfl
   ·
    intro D v' W' hc hj hf K hK
    obtain ⟨j0, jk, jn, b_t, b_s_0, b_s_1, b_x⟩ := hj
    obtain ⟨c0, c1⟩ := b_x.r1
    go_step
    exact hK.out
   · rfl
   refine Reg.RC_call rfl (tlt rfl) rfl (fun D v' W' hc hj hf K hK => ?_) ?_
   ·
    obtain ⟨j0, jk, jn, b_t, b_s_0, b_s_1, b_x⟩ := hj
    clear hf
    go_step
    refine (mxi W' _ _ j0 (Fx.out.keeps jk) (Fx.out.keeps jk)).mono ?_
    rintro e W2 ⟨u, rfl, hu, hs⟩
    obtain ⟨p1, p2, p3, p4, rfl⟩ := hu.shape
    exact hK.out _ W2 (Keeps.steps hs) ⟨jst j0 hs, jk.then_ hs, jsz jn hs, b_t.steps hs, fun q0 => ((b_s_0 q0)).steps hs, fun q0 => by obtain ⟨d_7, y7_1, y7_2, y7_3, y7_4, e_7, hb⟩ := b_s_1 q0; exact ⟨d_7, _, _, _, _, e_7, (hb).steps hs⟩, b_x.steps hs⟩ hu ⟨_, _, _, _, rfl⟩
   rintro _ ⟨p1, p2, p3, p4, rfl⟩
   refine Reg.RC_at (b := ⟨#[_,_,_,_,_,_,_,_,_,_,_,_,_,_,_,_,_,_,_,_,_,_,_,_,_,_,_,_,_,_,_,_,_,_,_,_,_,_], _⟩) rfl ?_
   refine Reg.RC_call rfl (tlt rfl) rfl (fun D v' W' hc hj hf K hK => ?_) ?_
   ·
    obtain ⟨j0, jk, jn, b_t, b_s_0, b_s_1, b_x⟩ := hj
    have g6 : GNu ((fX i * fX i)) _ W' := (hf (6, some 33) (.head _) rfl).2.2
    have g6 : Num W' _ ((fX i * fX i)) := g6
    clear hf
    go_step
    refine (aqi W' _ _ j0 (Fz.out.keeps jk) g6).mono ?_
    rintro e W2 ⟨u, rfl, hu, hs⟩
    obtain ⟨q1, q2, q3, q4, rfl⟩ := hu.shape
    exact hK.out _ W2 (Keeps.steps hs) ⟨jst j0 hs, jk.then_ hs, jsz jn hs, b_t.steps hs, fun q0 => ((b_s_0 q0)).steps hs, fun q0 => Bool.noConfusion ((hc.2 9 (by decide)).symm.trans q0), b_x.steps hs⟩ hu ⟨_, _, _, _, rfl⟩
   rintro _ ⟨q1, q2, q3, q4, rfl⟩
   refine Reg.RC_at (b := ⟨#[_,_,_,_,_,_,_,_,_,_,_,_,_,_,_,_,_,_,_,_,_,_,_,_,_,_,_,_,_,_,_,_,_,_,_,_,_,_], _⟩) rfl ?_
   refine Reg.RP0 35 ?_
   refine Reg.RC_call rfl (by intro t ht; cases ht) rfl (fun D v' W' hc hj hf K hK => ?_) (fun _ _ => Reg.RC_at (b := ⟨_, _⟩) rfl ?_)
   ·
    obtain ⟨j0, jk, jn, b_t, b_s_0, b_s_1, b_x⟩ := hj
    have e2 : w.heap.size ≤ w1.heap.size := by omega
    have fc := hf (7, some 34) (.head _) rfl
    have ec : v' 7 = .agg #[.bool q1, .slice q2 q3 q4] := fc.2.1
    have cc0 : W'.cell? ⟨w1.heap.size, 4, none⟩ = some (.bool z1) := (b_s_0 hc.1).c 4 rfl
    have cc1 : W'.cell? ⟨w1.heap.size, 5, none⟩ = some (.slice z2 z3 z4) := (b_s_0 hc.1).c 5 rfl
    have ff : ∀ j, W'.frozen? ⟨w1.heap.size, j, none⟩ = false := (b_s_0 hc.1).fr
    have kp : Keeps W' ((W'.setCell ⟨w1.heap.size, 4, none⟩ (.bool q1)).setCell ⟨w1.heap.size, 5, none⟩ (.slice q2 q3 q4)) := (Keeps.only (b_s_0 hc.1) rfl ((Only.refl _ _).set.set))
    go_step
    exact hK.out undef _ kp ⟨(Below.setCell (p := ⟨w1.heap.size, 5, none⟩) (Below.setCell (p := ⟨w1.heap.size, 4, none⟩) j0 (by show w.heap.size ≤ w1.heap.size; omega) _) (by show w.heap.size ≤ w1.heap.size; omega) _), jk.trans kp, by simpa using jn, ((b_t).far' (show w.heap.size ≠ w1.heap.size by omega)).far' (show w.heap.size ≠ w1.heap.size by omega), fun q0 => Bool.noConfusion q0, fun q0 => by have hb := b_s_0 hc.1; exact ⟨fc.1, _, _, _, _, ec, (Blk.set2 (cs' := #[.bool n1, .slice n2 n3 n4, .bool u1, .slice u2 u3 u4, .bool q1, .slice q2 q3 q4]) (Blk.set2 (cs' := #[.bool n1, .slice n2 n3 n4, .bool u1, .slice u2 u3 u4, .bool q1, .slice z2 z3 z4]) hb (i := 4) rfl) (i := 5) rfl)⟩, ((b_x).far' (show w2.heap.size ≠ w1.heap.size by omega)).far' (show w2.heap.size ≠ w1.heap.size by omega)⟩ trivial trivial
   refine Reg.RC_end (fun Dn v' w4 hd hj hf => ?_)
   obtain ⟨j0, jk, jn, b_t, b_s_0, b_s_1, b_x⟩ := hj
   have B := j0
   have ot := b_t
   clear b_t
   obtain ⟨dd_7, y7_1, y7_2, y7_3, y7_4, ee_7, os⟩ := b_s_1 (hd 9 (Nat.le_of_ble_eq_true rfl))
   have ef : v' 7 = .agg #[.bool q1, .slice q2 q3 q4] := (hf (7, some 34) (.tail _ (.head _)) rfl).2.1
   have eq_ := ef.symm.trans ee_7
   simp only [Value.tuple.injEq, Value.agg.injEq, Array.mk.injEq, List.cons.injEq, Value.bool.injEq, Value.slice.injEq, and_true, true_and] at eq_
   obtain ⟨rfl, rfl, rfl, rfl⟩ := eq_
   clear ef ee_7 dd_7
   clear b_s_0 b_s_1
   have ox := b_x
   clear b_x
   have Fq : Hid (Num w4 (.agg #[.bool q1, .slice q2 q3 q4]) ((fQ (i + 1)))) := (hf (7, some 34) (.tail _ (.head _)) rfl).2.2
   replace Fn := Hid.mk_ (Fn.out.keeps jk)
   replace Fy := Hid.mk_ (Fy.out.keeps jk)
   replace Fz := Hid.mk_ (Fz.out.keeps jk)
   replace Fx := Hid.mk_ (Fx.out.keeps jk)
   replace Fu := Hid.mk_ (Fu.out.keeps jk)
   replace kk := kk.trans jk
   clear hd hf jk j0
   refine hQ _ _ ?_
   clear hQ hops Q' ops'
   go_wp2_with fail
   go_roundw
   case rel => exact ⟨i + 1, _, _, _, _, _, _, _, _, by omega, by go_num, ownK, Fu.out.keeps keepsB, Fq.out.keeps keepsB, ownK, belowB, kk.trans keepsB⟩
   case measure => simp [intOf]; omega
  ·
   obtain rfl : i = N := by omega
   have hlt : decide ((i : Int) < (i : Int)) = false := decide_eq_false (by omega)
   go_wp2_with fail
   refine bodyPost_ret (by simp [results, Tryz.results38, go_sem, ct0, ct1, ct2, ct3, ct4, ct5, ft, lt, cs0, cs1, cs2, cs3, cs4, cs5, ls]; rfl) rfl ?_
   exact ⟨_, rfl, ⟨_, _, _, _, _, _, _, _, _, _, _, _, rfl, Fn.out.keeps keepsB, Fy.out.keeps keepsB, Fz.out.keeps keepsB⟩, belowB⟩
theorem vspread {vs : Value} {l : List Int} {gc : Nat} {tc : TypeId} (w : World) (hc : Blk w gc tc #[.int .i64 0]) (h : Sums w vs l) (hv : valL l) :
  Calls Tryz.prog 39 #[.pointer (some ⟨gc, 0, none⟩), vs] w fun e w' => ∃ v, e = .returned v ∧ Num w' v (sprI l) ∧ Steps w w' := by
 have KC : ∀ w', Steps w w' → Blk w' gc tc #[.int .i64 0] := fun w' s => hc.steps s
 have f1 : absN (nI l * sqsI l) ≤ bp 4 := absN_mul_le (i := 1) (j := 3) (val_n hv) (val_sqs hv)
 have f2 : absN (sumI l * sumI l) ≤ bp 4 := absN_mul_le (i := 2) (j := 2) (val_sum hv) (val_sum hv)
 have M1 : ∀ w' u v, Steps w w' → Num w' u (nI l) → Num w' v (sqsI l) → Calls Tryz.prog 40 #[.pointer (some ⟨gc, 0, none⟩), u, v] w' fun e w2 => ∃ v, e = .returned v ∧ Num w2 v (nI l * sqsI l) ∧ Steps w' w2 := fun w' u v s h1 h2 =>
  vmul w' (KC w' s) h1 h2 (fits_bp (val_n hv) (by omega)) (fits_bp (val_sqs hv) (by omega)) (fits_bp f1 (by omega))
 have M2 : ∀ w' u v, Steps w w' → Num w' u (sumI l) → Num w' v (sumI l) → Calls Tryz.prog 40 #[.pointer (some ⟨gc, 0, none⟩), u, v] w' fun e w2 => ∃ v, e = .returned v ∧ Num w2 v (sumI l * sumI l) ∧ Steps w' w2 := fun w' u v s h1 h2 =>
  vmul w' (KC w' s) h1 h2 (fits_bp (val_sum hv) (by omega)) (fits_bp (val_sum hv) (by omega)) (fits_bp f2 (by omega))
 have SB : ∀ w' u v, Steps w w' → Num w' u (nI l * sqsI l) → Num w' v (sumI l * sumI l) → Calls Tryz.prog 69 #[.pointer (some ⟨gc, 0, none⟩), u, v] w' fun e w2 => ∃ v, e = .returned v ∧ Num w2 v (sprI l) ∧ Steps w' w2 := fun w' u v s h1 h2 =>
  vsub w' (KC w' s) h1 h2 (fits_bp f1 (by omega)) (fits_bp f2 (by omega)) (fits_bp (val_spr hv) (by omega))
 obtain ⟨n1, n2, n3, n4, s1, s2, s3, s4, q1, q2, q3, q4, rfl, h1, h2, h3⟩ := h
 have Fn := Hid.mk_ h1
 have Fs := Hid.mk_ h2
 have Fq := Hid.mk_ h3
 generalize sprI l = p at *
 generalize nI l = n at *
 generalize sumI l = s at *
 generalize sqsI l = q at *
 clear h1 h2 h3 hc hv f1 f2 KC
 go_enter Tryz.func39, Tryz.ntmps39
 go_wp2_with fail
 go_upto_region 1 with fail
 refine Reg.wp_chain_n (fun N0 D v W => Below w.heap.size w W ∧ Keeps w W ∧ N0 ≤ W.heap.size ∧ Blk W (w.heap.size) 67 #[.bool n1, .slice n2 n3 n4, .bool s1, .slice s2 s3 s4, .bool q1, .slice q2 q3 q4] ∧ ((D 14 = false → Blk W (w.heap.size + 1) 25 #[.bool false, .slice none 0 0]) ∧ (D 14 = true → D 13 = true ∧ ∃ cs, v 13 = .agg cs ∧ Blk W (w.heap.size + 1) 25 cs)))
  (Reg.inl [6, 12, 13, 14]) (Reg.gv [(6, IsNu), (12, IsNu), (13, IsNu)]) (gw [(6, GNu ((n * q))), (12, GNu ((s * s))), (13, GNu (p))]) (fun _ => Keeps) (fun _ _ => False) (Reg.pl [(13, [(6, some 11), (12, some 17)]), (14, [(13, some 18)]), (15, [(6, some 11), (12, some 17), (13, some 18)])]) (Reg.pl [(13, [14])])
  (by kernel_rfl) (by kernel_rfl) (by kernel_rfl) (Reg.gvA _) (fun N0 hN0 => ⟨fun v => ?_, fun D v v' W hv hj => ?_, fun D v k j W W' x _ _ _ _ hk hg => gwA hk hg, fun _ _ _ _ h => h.elim, fun ops' Q' hops hQ => ?_⟩)
 · exact ⟨belowB, keepsB, by first | with_reducible exact Nat.le_of_eq hN0.out | (simp only [World.size_drew]; with_reducible exact Nat.le_of_eq hN0.out), ownK, ⟨fun _ => ownK, (fun h => Bool.noConfusion h)⟩⟩
 ·
  obtain ⟨j0, jk, jn, b_s, b_r⟩ := hj
  exact ⟨j0, jk, jn, b_s, ⟨b_r.1, fun h => by obtain ⟨d, cs, e, hb⟩ := b_r.2 h; exact ⟨d, cs, (hv 13 d) ▸ e, hb⟩⟩⟩
 have eN := hN0.out
 try simp only [World.size_alloc, World.size_setCell, World.size_drew, World.heap_drewN] at eN
 have i_s : w.heap.size < N0 := by first | omega | (have h := os.lt; omega)
 have i_r : w.heap.size + 1 < N0 := by first | omega | (have h := or.lt; omega)
 have iw : w.heap.size ≤ N0 := by first | omega | (have h := B.size; omega)
 clear hN0 eN
 refine Reg.RP0 5 ?_
 refine Reg.RP0 6 ?_
 refine Reg.RP0 7 ?_
 apply Reg.RP rfl rfl rfl 8 rfl rfl
 ·
  intro D v' W' hc hj hf K hK
  obtain ⟨j0, jk, jn, b_s, b_r⟩ := hj
  obtain ⟨c0, c1⟩ := b_s.r1
  go_step
  exact hK.out
 · rfl
 refine Reg.RP0 9 ?_
 apply Reg.RP rfl rfl rfl 10 rfl rfl
 ·
  intro D v' W' hc hj hf K hK
  obtain ⟨j0, jk, jn, b_s, b_r⟩ := hj
  have c4 := b_s.q4
  have c5 := b_s.q5
  go_step
  exact hK.out
 · rfl
 refine Reg.RC_call rfl (tlt rfl) rfl (fun D v' W' hc hj hf K hK => ?_) ?_
 ·
  obtain ⟨j0, jk, jn, b_s, b_r⟩ := hj
  clear hf
  go_step
  refine (M1 W' _ _ j0 (Fn.out.keeps jk) (Fq.out.keeps jk)).mono ?_
  rintro e W2 ⟨u, rfl, hu, hs⟩
  obtain ⟨x1, x2, x3, x4, rfl⟩ := hu.shape
  exact hK.out _ W2 (Keeps.steps hs) ⟨jst j0 hs, jk.then_ hs, jsz jn hs, b_s.steps hs, ⟨fun h => (b_r.1 h).steps hs, fun h => by obtain ⟨d, cs, e, hb⟩ := b_r.2 h; exact ⟨d, cs, e, hb.steps hs⟩⟩⟩ hu ⟨_, _, _, _, rfl⟩
 rintro _ ⟨x1, x2, x3, x4, rfl⟩
 refine Reg.RC_at (b := ⟨#[_,_,_,_,_,_,_,_,_,_,_,_,_,_,_,_,_,_,_], _⟩) rfl ?_
 refine Reg.RP0 12 ?_
 refine Reg.RP0 13 ?_
 apply Reg.RP rfl rfl rfl 14 rfl rfl
 ·
  intro D v' W' hc hj hf K hK
  obtain ⟨j0, jk, jn, b_s, b_r⟩ := hj
  have c2 := b_s.q2
  have c3 := b_s.q3
  go_step
  exact hK.out
 · rfl
 refine Reg.RP0 15 ?_
 apply Reg.RP rfl rfl rfl 16 rfl rfl
 ·
  intro D v' W' hc hj hf K hK
  obtain ⟨j0, jk, jn, b_s, b_r⟩ := hj
  have c2 := b_s.q2
  have c3 := b_s.q3
  go_step
  exact hK.out
 · rfl
 refine Reg.RC_call rfl (tlt rfl) rfl (fun D v' W' hc hj hf K hK => ?_) ?_
 ·
  obtain ⟨j0, jk, jn, b_s, b_r⟩ := hj
  clear hf
  go_step
  refine (M2 W' _ _ j0 (Fs.out.keeps jk) (Fs.out.keeps jk)).mono ?_
  rintro e W2 ⟨u, rfl, hu, hs⟩
  obtain ⟨y1, y2, y3, y4, rfl⟩ := hu.shape
  exact hK.out _ W2 (Keeps.steps hs) ⟨jst j0 hs, jk.then_ hs, jsz jn hs, b_s.steps hs, ⟨fun h => (b_r.1 h).steps hs, fun h => by obtain ⟨d, cs, e, hb⟩ := b_r.2 h; exact ⟨d, cs, e, hb.steps hs⟩⟩⟩ hu ⟨_, _, _, _, rfl⟩
 rintro _ ⟨y1, y2, y3, y4, rfl⟩
 refine Reg.RC_at (b := ⟨#[_,_,_,_,_,_,_,_,_,_,_,_,_,_,_,_,_,_,_], _⟩) rfl ?_
 refine Reg.RC_call rfl (tlt rfl) rfl (fun D v' W' hc hj hf K hK => ?_) ?_
 ·
  obtain ⟨j0, jk, jn, b_s, b_r⟩ := hj
  have g6 : GNu ((n * q)) _ W' := (hf (6, some 11) (.head _) rfl).2.2
  have g6 : Num W' _ ((n * q)) := g6
  have g12 : GNu ((s * s)) _ W' := (hf (12, some 17) (.tail _ (.head _)) rfl).2.2
  have g12 : Num W' _ ((s * s)) := g12
  clear hf
  go_step
  refine (SB W' _ _ j0 g6 g12).mono ?_
  rintro e W2 ⟨u, rfl, hu, hs⟩
  obtain ⟨z1, z2, z3, z4, rfl⟩ := hu.shape
  exact hK.out _ W2 (Keeps.steps hs) ⟨jst j0 hs, jk.then_ hs, jsz jn hs, b_s.steps hs, ⟨fun h => (b_r.1 h).steps hs, fun h => Bool.noConfusion ((hc.2 14 (by decide)).symm.trans h)⟩⟩ hu ⟨_, _, _, _, rfl⟩
 rintro _ ⟨z1, z2, z3, z4, rfl⟩
 refine Reg.RC_at (b := ⟨#[_,_,_,_,_,_,_,_,_,_,_,_,_,_,_,_,_,_,_], _⟩) rfl ?_
 refine Reg.RC_call rfl (by intro t ht; cases ht) rfl (fun D v' W' hc hj hf K hK => ?_) (fun _ _ => Reg.RC_at (b := ⟨_, _⟩) rfl ?_)
 ·
  obtain ⟨j0, jk, jn, b_s, b_r⟩ := hj
  have hb := b_r.1 hc.1
  have e2 : w.heap.size ≤ w.heap.size + 1 := by omega
  have fc := hf (13, some 18) (.head _) rfl
  have ec : v' 13 = .agg #[.bool z1, .slice z2 z3 z4] := fc.2.1
  have ff := hb.fr
  obtain ⟨cc0, cc1⟩ := hb.r1
  go_step
  exact hK.out undef _ (Keeps.only hb rfl ((Only.refl _ _).set.set)) ⟨(Below.setCell (p := ⟨w.heap.size + 1, 1, none⟩) (Below.setCell (p := ⟨w.heap.size + 1, 0, none⟩) j0 (by show w.heap.size ≤ w.heap.size + 1; omega) _) (by show w.heap.size ≤ w.heap.size + 1; omega) _), jk.trans (Keeps.only hb rfl ((Only.refl _ _).set.set)), by simpa using jn, ((b_s).far' (show w.heap.size ≠ w.heap.size + 1 by omega)).far' (show w.heap.size ≠ w.heap.size + 1 by omega), ⟨fun h => Bool.noConfusion h, fun _ => ⟨fc.1, _, ec, (Blk.set2 (cs' := #[.bool z1, .slice z2 z3 z4]) (Blk.set2 (cs' := #[.bool z1, .slice none 0 0]) hb (i := 0) rfl) (i := 1) rfl)⟩⟩⟩ trivial trivial
 refine Reg.RC_end (fun Dn v' w1 hd hj hf => ?_)
 obtain ⟨j0, jk, jn, b_s, b_r⟩ := hj
 have B := j0
 have os := b_s
 clear b_s
 obtain ⟨-, cs_, ee, or⟩ := b_r.2 (hd 14 (Nat.le_of_ble_eq_true rfl))
 have ef : v' 13 = .agg #[.bool z1, .slice z2 z3 z4] := (hf (13, some 18) (.tail _ (.tail _ (.head _))) rfl).2.1
 obtain rfl : #[.bool z1, .slice z2 z3 z4] = cs_ := by have := ef.symm.trans ee; simpa only [Value.tuple.injEq, Value.agg.injEq, Array.mk.injEq, List.cons.injEq, and_true, true_and] using this
 clear b_r ee ef
 have Fz : Hid (Num w1 (.agg #[.bool z1, .slice z2 z3 z4]) (p)) := (hf (13, some 18) (.tail _ (.tail _ (.head _))) rfl).2.2
 replace Fn := Hid.mk_ (Fn.out.keeps jk)
 replace Fs := Hid.mk_ (Fs.out.keeps jk)
 replace Fq := Hid.mk_ (Fq.out.keeps jk)
 clear hd hf jk j0
 refine hQ _ _ ?_
 clear hQ hops Q' ops'
 have ls := os.lt
 obtain ⟨cr0, cr1⟩ := or.r1
 have lr := or.lt
 go_wp2_with fail
 refine bodyPost_ret (by simp [results, Tryz.results39, go_sem, ls, cr0, cr1, lr]; rfl) rfl ?_
 exact ⟨_, rfl, Fz.out.keeps keepsB, belowB⟩
def FE (w : World) (v : Value) (c : Int) (r : Rat) : Prop := if c = 0 then FR w v r else v = .agg #[.bool false, .slice none 0 0, .bool false, .slice none 0 0]
theorem FE.ok {w : World} {v : Value} {r : Rat} (h : FR w v r) : FE w v 0 r := by unfold FE; rw [if_pos rfl]; exact h
theorem FE.bad {w : World} {c : Int} {r : Rat} (h : c ≠ 0) : FE w (.agg #[.bool false, .slice none 0 0, .bool false, .slice none 0 0]) c r := by unfold FE; rw [if_neg h]
theorem askV_val {l : List Int} (h : askV l = 0) : valL l ∧ l ≠ [] := by
 obtain ⟨h1, h2, h3⟩ := askV_ok h
 refine ⟨⟨h2, fun x hx => ?_⟩, h1⟩
 obtain ⟨i, hi, rfl⟩ := List.getElem_of_mem hx
 have := h3 i hi
 rw [List.getD, List.getElem?_eq_getElem hi] at this
 exact this
theorem sum_i64 {l : List Int} (h : valL l) (i : Nat) : -4294967296000 ≤ sumI (l.take i) ∧ sumI (l.take i) ≤ 4294967296000 := by
 have h1 := sum_range (h.take i).2
 have h2 := (h.take i).1
 omega
theorem vMean {vl : Value} {l : List Int} (w : World) (hl : IntsR w vl l) (hn : l.length ≤ 100000) :
  Calls Tryz.prog 10 #[vl] w fun e w' => ∃ v, e = .returned (.tuple #[v, .int .i64 (askV l)]) ∧ FE w' v (askV l) (meanQ l) ∧ Steps w w' := by
 have CS : ∀ w', Steps w w' → Calls Tryz.prog 35 #[vl] w' fun e w2 => e = .returned (.int .i64 (askV l)) ∧ Steps w' w2 := fun w' s => vstart w' (hl.steps s) hn
 by_cases hk : askV l = 0
 ·
  rw [hk] at CS ⊢
  obtain ⟨hv, h0⟩ := askV_val hk
  have eS : sumI (l.take l.length) = sumI l := by rw [List.take_length]
  have zS : sumI (l.take 0) = 0 := rfl
  have NB := hv.1
  have OF : ∀ w', Calls Tryz.prog 36 #[.int .i64 (sumI (l.take l.length)), .int .i64 (l.length : Int)] w' fun e w2 => ∃ v, e = .returned (.tuple #[v, .int .i64 0]) ∧ FR w2 v (meanQ l) ∧ Steps w' w2 := fun w' => by
   have h1 := sum_i64 hv l.length
   have h2 := hv.1
   have h3 : (l.length : Int) ≠ 0 := nI_ne0 h0
   have := fofQ (sumI (l.take l.length)) (l.length : Int) w' (by omega) (by omega) (by omega) (by omega) h3
   rw [eS] at this ⊢
   exact this
  have ST : ∀ i, i < l.length → sumI (l.take (i + 1)) = sumI (l.take i) + l.getD i 0 := fun i hi => sum_step hi
  have SR : ∀ i, -4294967296000 ≤ sumI (l.take i) ∧ sumI (l.take i) ≤ 4294967296000 := sum_i64 hv
  obtain ⟨fS, hS⟩ : ∃ f : Nat → Int, ∀ i, sumI (l.take i) = f i := ⟨_, fun _ => rfl⟩
  obtain ⟨fX, hX⟩ : ∃ f : Nat → Int, ∀ i, l.getD i 0 = f i := ⟨_, fun _ => rfl⟩
  simp only [hS, hX] at OF ST SR zS
  have HX := Hid.mk_ hX
  generalize meanQ l = mq at *
  obtain ⟨la, lc, rfl⟩ := hl.shape
  have HL := Hid.mk_ hl
  obtain ⟨N, hN⟩ : ∃ n, l.length = n := ⟨_, rfl⟩
  have HN := Hid.mk_ hN
  rw [hN] at CS OF ST HL NB ⊢
  have SR0 := SR
  clear SR0 hl hn hk hv h0 hN eS hS hX
  go_enter Tryz.func10, Tryz.ntmps10
  go_wp2_with fail
  refine (CS _ belowB).mono ?_
  rintro e w1 ⟨rfl, hb1⟩
  have st : Steps _ w1 := hb1
  have B : Below w.heap.size w w1 := belowA st
  have or : Blk w1 (w.heap.size) 27 #[.bool false, .slice none 0 0, .bool false, .slice none 0 0] := Blk.stepsK st
  clear st
  go_wp2_with fail
  have kk := Keeps.refl w1
  skip
  go_loopw [16, 5] (fun sl0 sl1 wr => ∃ (i : Nat), i ≤ N ∧ sl0 = .int .i64 i ∧ sl1 = .int .i64 (fS i) ∧ Blk wr (w.heap.size) 27 #[.bool false, .slice none 0 0, .bool false, .slice none 0 0] ∧ Below w.heap.size w wr ∧ Keeps w1 wr) (fun sl0 sl1 _ => N - (intOf sl0).toNat)
  case atStart => exact ⟨0, by omega, rfl, (by rw [zS]), ownK, belowB, keepsB⟩
  case round =>
   clear or
   try clear B
   try clear kk
   obtain ⟨i, hi, rfl, rfl, or, B, kk⟩ := hrel
   rcases Nat.lt_or_ge i N with i4 | i4
   ·
    have hlt : decide ((i : Int) < (N : Int)) = true := decide_eq_true (by omega)
    obtain ⟨b, of, rfl, hbl, hx0⟩ := HL.out.at' (t := i) (by have := HN.out; omega)
    rw [HX.out] at hx0
    have c0 : wr.cell? ⟨b, of + i, none⟩ = some (.int .i64 (fX i)) := (B.cell (p := ⟨b, _, none⟩) hbl).trans hx0
    have sti := ST i i4
    have sri := SR i
    have sri1 := SR (i + 1)
    rw [sti] at sri1
    clear hx0
    go_wp2_with fail
    go_roundw
    case rel => exact ⟨i + 1, by omega, by go_num, by rw [sti], ownK, belowB, kk.trans keepsB⟩
    case measure => simp [intOf]; omega
   ·
    obtain rfl : i = N := by omega
    have hlt : decide ((i : Int) < (i : Int)) = false := decide_eq_false (by omega)
    go_wp2_with fail
    refine (OF _).mono ?_
    rintro e w2 ⟨vq, rfl, hvq, hb2⟩
    have st : Steps _ w2 := hb2
    have sk : Below wr.heap.size wr w2 := belowA st
    replace B := below_steps B (Nat.le_refl _) sk
    replace or := or.steps sk
    replace kk := kk.then_ sk
    clear st sk
    obtain ⟨cr0, cr1, cr2, cr3, fr, lr⟩ := or.s3
    obtain ⟨q1, q2, q3, q4, q5, q6, q7, q8, rfl⟩ := hvq.shape
    have Fq := Hid.mk_ hvq
    clear hvq
    go_wp2_with fail
    refine bodyPost_ret (by simp [results, Tryz.results10, go_sem, cr0, cr1, cr2, cr3, fr, lr]; rfl) rfl ?_
    exact ⟨_, rfl, FE.ok (Fq.out.keeps keepsB), belowB⟩
 ·
  obtain ⟨la, lc, rfl⟩ := hl.shape
  generalize meanQ l = mq at *
  generalize askV l = c at *
  have h3 : (c == 0) = false := by simpa using hk
  have h4 : (c != 0) = true := by simpa using hk
  have HK := Hid.mk_ hk
  clear hl hn hk
  go_enter Tryz.func10, Tryz.ntmps10
  go_wp2_with fail
  refine (CS _ belowB).mono ?_
  rintro e w1 ⟨rfl, hb1⟩
  have st : Steps _ w1 := hb1
  have B : Below w.heap.size w w1 := belowA st
  have or : Blk w1 (w.heap.size) 27 #[.bool false, .slice none 0 0, .bool false, .slice none 0 0] := Blk.stepsK st
  clear st
  obtain ⟨cr0, cr1, cr2, cr3, fr, lr⟩ := or.s3
  go_wp2_with fail
  refine bodyPost_ret (by simp [results, Tryz.results10, go_sem, cr0, cr1, cr2, cr3, fr, lr]; rfl) rfl ?_
  exact ⟨_, rfl, FE.bad HK.out, belowB⟩
theorem vVariance {vl : Value} {l : List Int} (w : World) (hl : IntsR w vl l) (hn : l.length ≤ 100000) :
  Calls Tryz.prog 12 #[vl] w fun e w' => ∃ v, e = .returned (.tuple #[v, .int .i64 (askV l)]) ∧ FE w' v (askV l) (varQ l) ∧ Steps w w' := by
 have CS : ∀ w', Steps w w' → Calls Tryz.prog 35 #[vl] w' fun e w2 => e = .returned (.int .i64 (askV l)) ∧ Steps w' w2 := fun w' s => vstart w' (hl.steps s) hn
 by_cases hk : askV l = 0
 ·
  rw [hk] at CS ⊢
  obtain ⟨hv, h0⟩ := askV_val hk
  have TT : ∀ w' g, Steps w w' → Blk w' g 65 #[.int .i64 0] → Calls Tryz.prog 38 #[.pointer (some ⟨g, 0, none⟩), vl] w' fun e w2 => ∃ v, e = .returned v ∧ Sums w2 v l ∧ Steps w' w2 := fun w' g s hb => vtotal w' hb (hl.steps s) hv
  have SP : ∀ w' g v, Blk w' g 65 #[.int .i64 0] → Sums w' v l → Calls Tryz.prog 39 #[.pointer (some ⟨g, 0, none⟩), v] w' fun e w2 => ∃ v, e = .returned v ∧ Num w2 v (sprI l) ∧ Steps w' w2 := fun w' g v hb h => vspread w' hb h hv
  have MM : ∀ w' g u v, Blk w' g 65 #[.int .i64 0] → Num w' u (nI l) → Num w' v (nI l) → Calls Tryz.prog 40 #[.pointer (some ⟨g, 0, none⟩), u, v] w' fun e w2 => ∃ v, e = .returned v ∧ Num w2 v (nI l * nI l) ∧ Steps w' w2 := fun w' g u v hb h1 h2 =>
   vmul w' hb h1 h2 (fits_bp (val_n hv) (by omega)) (fits_bp (val_n hv) (by omega)) (fits_bp (val_nn hv) (by omega))
  have MK : ∀ w' u v, Num w' u (sprI l) → Num w' v (nI l * nI l) → Calls Tryz.prog 41 #[u, v] w' fun e w2 => ∃ v, e = .returned (.tuple #[v, .int .i64 0]) ∧ FR w2 v (varQ l) ∧ Steps w' w2 := fun w' u v h1 h2 => by
   unfold varQ
   exact fmake w' h1 h2 (fits_bp (val_spr hv) (by omega)) (fits_bp (val_nn hv) (by omega)) (Int.mul_ne_zero (nI_ne0 h0) (nI_ne0 h0))
  obtain ⟨la, lc, rfl⟩ := hl.shape
  obtain ⟨N, hN⟩ : ∃ n, l.length = n := ⟨_, rfl⟩
  rw [hN] at CS TT ⊢
  generalize varQ l = vq at *
  clear hl hn hk hv h0 hN
  go_enter Tryz.func12, Tryz.ntmps12
  go_wp2_with fail
  refine (CS _ belowB).mono ?_
  rintro e w1 ⟨rfl, hb1⟩
  have st : Steps _ w1 := hb1
  have B : Below w.heap.size w w1 := belowA st
  have or : Blk w1 (w.heap.size) 27 #[.bool false, .slice none 0 0, .bool false, .slice none 0 0] := Blk.stepsK st
  clear st
  have zr_1 : w.heap.size < w1.heap.size := or.lt
  have zz1 := B.size
  go_wp2_with fail
  refine (TT _ _ belowB ownK).mono ?_
  rintro e w2 ⟨vs, rfl, hvs, hb2⟩
  have st : Steps _ w2 := hb2
  have sk : Below w1.heap.size w1 w2 := belowA st
  replace B := below_steps B (Nat.le_refl _) sk
  have oc : Blk w2 (w1.heap.size) 65 #[.int .i64 0] := Blk.stepsK st
  replace or := or.steps sk
  clear st sk
  obtain ⟨n1, n2, n3, n4, s1, s2, s3, s4, q1, q2, q3, q4, rfl, hn_⟩ := hvs.shape
  have Fs := Hid.mk_ hvs
  have Fn := Hid.mk_ hn_
  clear hvs hn_
  have zc_2 : w1.heap.size < w2.heap.size := oc.lt
  have zz2 := B.size
  go_wp2_with fail
  go_upto_region 6 with fail
  refine Reg.wp_chain_n (fun N0 D v W => Below w.heap.size w W ∧ Keeps w2 W ∧ N0 ≤ W.heap.size ∧ Blk W (w.heap.size) 27 #[.bool false, .slice none 0 0, .bool false, .slice none 0 0] ∧ Blk W (w1.heap.size) 65 #[.int .i64 0] ∧ Blk W (w2.heap.size) 67 #[.bool n1, .slice n2 n3 n4, .bool s1, .slice s2 s3 s4, .bool q1, .slice q2 q3 q4] ∧ (D 7 = true → ∃ g : Nat, v 7 = .pointer (some ⟨g, 0, none⟩) ∧ N0 ≤ g ∧ g < W.heap.size ∧ (D 9 = false → Blk W g 25 #[.bool false, .slice none 0 0]) ∧ (D 9 = true → D 1 = true ∧ ∃ cs, v 1 = .agg cs ∧ Blk W g 25 cs)) ∧ (D 8 = true → ∃ g : Nat, v 8 = .pointer (some ⟨g, 0, none⟩) ∧ N0 ≤ g ∧ g < W.heap.size ∧ (D 10 = false → Blk W g 25 #[.bool false, .slice none 0 0]) ∧ (D 10 = true → D 6 = true ∧ ∃ cs, v 6 = .agg cs ∧ Blk W g 25 cs)) ∧ (D 7 = true → D 8 = true → v 7 ≠ v 8))
   (Reg.inl [1, 6, 7, 8, 9, 10]) (Reg.gv [(1, IsNu), (6, IsNu), (7, IsPtr), (8, IsPtr)]) (gw [(1, GNu ((sprI l))), (6, GNu ((nI l * nI l)))]) (fun _ => Keeps) (fun _ _ => False) (Reg.pl [(9, [(1, some 18), (7, some 7)]), (10, [(6, some 23), (8, some 8)]), (11, [(1, some 18), (6, some 23), (7, some 7), (8, some 8)])]) (Reg.pl [(7, [9]), (1, [9]), (8, [10]), (6, [10])])
   (by kernel_rfl) (by kernel_rfl) (by kernel_rfl) (Reg.gvA _) (fun N0 hN0 => ⟨fun v => ?_, fun D v v' W hv hj => ?_, fun D v k j W W' x _ _ _ _ hk hg => gwA hk hg, fun _ _ _ _ h => h.elim, fun ops' Q' hops hQ => ?_⟩)
  · exact ⟨belowB, keepsB, by first | with_reducible exact Nat.le_of_eq hN0.out | (simp only [World.size_drew]; with_reducible exact Nat.le_of_eq hN0.out), ownK, ownK, ownK, (fun h => Bool.noConfusion h), (fun h => Bool.noConfusion h), (fun h => Bool.noConfusion h)⟩
  ·
   obtain ⟨j0, jk, jn, b_r, b_c, b_s, a_7, a_8, q_7_8⟩ := hj
   exact ⟨j0, jk, jn, b_r, b_c, b_s, fun h => by obtain ⟨g, e1, e2, e3, e4, e5⟩ := a_7 h; exact ⟨g, (hv 7 h) ▸ e1, e2, e3, e4, fun h => by obtain ⟨d, cs, e, hb⟩ := e5 h; exact ⟨d, cs, (hv 1 d) ▸ e, hb⟩⟩, fun h => by obtain ⟨g, e1, e2, e3, e4, e5⟩ := a_8 h; exact ⟨g, (hv 8 h) ▸ e1, e2, e3, e4, fun h => by obtain ⟨d, cs, e, hb⟩ := e5 h; exact ⟨d, cs, (hv 6 d) ▸ e, hb⟩⟩, fun h h' => (hv 7 h) ▸ (hv 8 h') ▸ q_7_8 h h'⟩
  have eN := hN0.out
  try simp only [World.size_alloc, World.size_setCell, World.size_drew, World.heap_drewN] at eN
  have i_r : w.heap.size < N0 := by first | omega | (have h := or.lt; omega)
  have i_c : w1.heap.size < N0 := by first | omega | (have h := oc.lt; omega)
  have i_s : w2.heap.size < N0 := by first | omega | (have h := os.lt; omega)
  have iw : w.heap.size ≤ N0 := by first | omega | (have h := B.size; omega)
  clear hN0 eN
  apply Reg.RP rfl rfl rfl 17 rfl rfl
  ·
   intro D v' W' hc hj hf K hK
   obtain ⟨j0, jk, jn, b_r, b_c, b_s, a_7, a_8, q_7_8⟩ := hj
   obtain ⟨c0, c1, c2, c3, c4, c5⟩ := b_s.r5
   go_step
   exact hK.out
  · rfl
  refine Reg.RC_call rfl (tlt rfl) rfl (fun D v' W' hc hj hf K hK => ?_) ?_
  ·
   obtain ⟨j0, jk, jn, b_r, b_c, b_s, a_7, a_8, q_7_8⟩ := hj
   clear hf
   go_step
   refine (SP W' _ _ b_c (Fs.out.keeps jk)).mono ?_
   rintro e W2 ⟨u, rfl, hu, hs⟩
   obtain ⟨x1, x2, x3, x4, rfl⟩ := hu.shape
   exact hK.out _ W2 (Keeps.steps hs) ⟨jst j0 hs, jk.then_ hs, jsz jn hs, b_r.steps hs, b_c.steps hs, b_s.steps hs, fun h => by obtain ⟨g, e1, e2, e3, e4, e5⟩ := a_7 h; exact ⟨g, e1, e2, Nat.lt_of_lt_of_le e3 (hs).size, fun h => (e4 h).steps hs, fun h => Bool.noConfusion ((hc.2 9 (by decide)).symm.trans h)⟩, fun h => by obtain ⟨g, e1, e2, e3, e4, e5⟩ := a_8 h; exact ⟨g, e1, e2, Nat.lt_of_lt_of_le e3 (hs).size, fun h => (e4 h).steps hs, fun h => by obtain ⟨d, cs, e, hb⟩ := e5 h; exact ⟨d, cs, e, hb.steps hs⟩⟩, q_7_8⟩ hu ⟨_, _, _, _, rfl⟩
  rintro _ ⟨x1, x2, x3, x4, rfl⟩
  refine Reg.RC_at (b := ⟨#[_,_,_,_,_,_,_,_,_,_,_,_,_,_,_,_,_,_,_,_,_,_,_,_,_,_,_,_,_,_,_,_,_,_,_], _⟩) rfl ?_
  refine Reg.RP0 19 ?_
  apply Reg.RP rfl rfl rfl 20 rfl rfl
  ·
   intro D v' W' hc hj hf K hK
   obtain ⟨j0, jk, jn, b_r, b_c, b_s, a_7, a_8, q_7_8⟩ := hj
   obtain ⟨c0, c1⟩ := b_s.r1
   go_step
   exact hK.out
  · rfl
  refine Reg.RP0 21 ?_
  apply Reg.RP rfl rfl rfl 22 rfl rfl
  ·
   intro D v' W' hc hj hf K hK
   obtain ⟨j0, jk, jn, b_r, b_c, b_s, a_7, a_8, q_7_8⟩ := hj
   obtain ⟨c0, c1⟩ := b_s.r1
   go_step
   exact hK.out
  · rfl
  refine Reg.RC_call rfl (tlt rfl) rfl (fun D v' W' hc hj hf K hK => ?_) ?_
  ·
   obtain ⟨j0, jk, jn, b_r, b_c, b_s, a_7, a_8, q_7_8⟩ := hj
   clear hf
   go_step
   refine (MM W' _ _ _ b_c (Fn.out.keeps jk) (Fn.out.keeps jk)).mono ?_
   rintro e W2 ⟨u, rfl, hu, hs⟩
   obtain ⟨y1, y2, y3, y4, rfl⟩ := hu.shape
   exact hK.out _ W2 (Keeps.steps hs) ⟨jst j0 hs, jk.then_ hs, jsz jn hs, b_r.steps hs, b_c.steps hs, b_s.steps hs, fun h => by obtain ⟨g, e1, e2, e3, e4, e5⟩ := a_7 h; exact ⟨g, e1, e2, Nat.lt_of_lt_of_le e3 (hs).size, fun h => (e4 h).steps hs, fun h => by obtain ⟨d, cs, e, hb⟩ := e5 h; exact ⟨d, cs, e, hb.steps hs⟩⟩, fun h => by obtain ⟨g, e1, e2, e3, e4, e5⟩ := a_8 h; exact ⟨g, e1, e2, Nat.lt_of_lt_of_le e3 (hs).size, fun h => (e4 h).steps hs, fun h => Bool.noConfusion ((hc.2 10 (by decide)).symm.trans h)⟩, q_7_8⟩ hu ⟨_, _, _, _, rfl⟩
  rintro _ ⟨y1, y2, y3, y4, rfl⟩
  refine Reg.RC_at (b := ⟨#[_,_,_,_,_,_,_,_,_,_,_,_,_,_,_,_,_,_,_,_,_,_,_,_,_,_,_,_,_,_,_,_,_,_,_], _⟩) rfl ?_
  refine Reg.RC_call rfl (tlt rfl) rfl (fun D v' W' hc hj hf K hK => ?_) ?_
  ·
   obtain ⟨j0, jk, jn, b_r, b_c, b_s, a_7, a_8, q_7_8⟩ := hj
   go_step
   have hs : ∀ o : Obj, Steps W' (W'.alloc o) := fun o => (Below.refl _ _).alloc (Nat.le_refl _) o
   exact hK.out _ _ (Keeps.steps (hs _)) ⟨jst j0 (hs _), jk.then_ (hs _), jsz jn (hs _), b_r.steps (hs _), b_c.steps (hs _), b_s.steps (hs _), fun _ => ⟨W'.heap.size, rfl, jn, by rw [World.size_alloc]; omega, fun _ => Blk.new _ _ _, fun h => Bool.noConfusion ((hc.2 9 (by decide)).symm.trans h)⟩, fun h => by obtain ⟨g, e1, e2, e3, e4, e5⟩ := a_8 h; exact ⟨g, e1, e2, Nat.lt_of_lt_of_le e3 ((hs _)).size, fun h => (e4 h).steps (hs _), fun h => by obtain ⟨d, cs, e, hb⟩ := e5 h; exact ⟨d, cs, e, hb.steps (hs _)⟩⟩, fun _ h' => by obtain ⟨g, e1, e2, e3, e4, e5⟩ := a_8 h'; exact fun e => Reg.ptr_ne e3 (e.trans e1)⟩ trivial ⟨_, rfl⟩
  rintro _ ⟨p7, rfl⟩
  refine Reg.RC_at (b := ⟨#[_,_,_,_,_,_,_,_,_,_,_,_,_,_,_,_,_,_,_,_,_,_,_,_,_,_,_,_,_,_,_,_,_,_,_], _⟩) rfl ?_
  refine Reg.RC_call rfl (tlt rfl) rfl (fun D v' W' hc hj hf K hK => ?_) ?_
  ·
   obtain ⟨j0, jk, jn, b_r, b_c, b_s, a_7, a_8, q_7_8⟩ := hj
   go_step
   have hs : ∀ o : Obj, Steps W' (W'.alloc o) := fun o => (Below.refl _ _).alloc (Nat.le_refl _) o
   exact hK.out _ _ (Keeps.steps (hs _)) ⟨jst j0 (hs _), jk.then_ (hs _), jsz jn (hs _), b_r.steps (hs _), b_c.steps (hs _), b_s.steps (hs _), fun h => by obtain ⟨g, e1, e2, e3, e4, e5⟩ := a_7 h; exact ⟨g, e1, e2, Nat.lt_of_lt_of_le e3 ((hs _)).size, fun h => (e4 h).steps (hs _), fun h => by obtain ⟨d, cs, e, hb⟩ := e5 h; exact ⟨d, cs, e, hb.steps (hs _)⟩⟩, fun _ => ⟨W'.heap.size, rfl, jn, by rw [World.size_alloc]; omega, fun _ => Blk.new _ _ _, fun h => Bool.noConfusion ((hc.2 10 (by decide)).symm.trans h)⟩, fun h _ => by obtain ⟨g, e1, e2, e3, e4, e5⟩ := a_7 h; exact fun e => Reg.ptr_ne e3 (e.symm.trans e1)⟩ trivial ⟨_, rfl⟩
  rintro _ ⟨p8, rfl⟩
  refine Reg.RC_at (b := ⟨#[_,_,_,_,_,_,_,_,_,_,_,_,_,_,_,_,_,_,_,_,_,_,_,_,_,_,_,_,_,_,_,_,_,_,_], _⟩) rfl ?_
  refine Reg.RC_call rfl (by intro t ht; cases ht) rfl (fun D v' W' hc hj hf K hK => ?_) (fun _ _ => Reg.RC_at (b := ⟨_, _⟩) rfl ?_)
  ·
   obtain ⟨j0, jk, jn, b_r, b_c, b_s, a_7, a_8, q_7_8⟩ := hj
   have f := hf (7, some 7) (.tail _ (.head _)) rfl
   have e6 : v' 7 = .pointer (some ⟨p7, 0, none⟩) := f.2.1
   obtain ⟨g, e1, e2, e3, e4, e5⟩ := a_7 f.1
   obtain rfl : p7 = g := Reg.ptr_eq (e6.symm.trans e1)
   have hb := e4 hc.1
   clear e4 e5
   have fc := hf (1, some 18) (.head _) rfl
   have ec : v' 1 = .agg #[.bool x1, .slice x2 x3 x4] := fc.2.1
   have ff := hb.fr
   obtain ⟨cc0, cc1⟩ := hb.r1
   go_step
   exact hK.out undef _ (Keeps.only hb rfl ((Only.refl _ _).set.set)) ⟨(Below.setCell (p := ⟨p7, 1, none⟩) (Below.setCell (p := ⟨p7, 0, none⟩) j0 (by show w.heap.size ≤ p7; omega) _) (by show w.heap.size ≤ p7; omega) _), jk.trans (Keeps.only hb rfl ((Only.refl _ _).set.set)), by simpa using jn, ((b_r).far' (show w.heap.size ≠ p7 by omega)).far' (show w.heap.size ≠ p7 by omega), ((b_c).far' (show w1.heap.size ≠ p7 by omega)).far' (show w1.heap.size ≠ p7 by omega), ((b_s).far' (show w2.heap.size ≠ p7 by omega)).far' (show w2.heap.size ≠ p7 by omega), fun _ => ⟨p7, e1, e2, by simpa using e3, fun h => Bool.noConfusion h, fun _ => ⟨fc.1, _, ec, (Blk.set2 (cs' := #[.bool x1, .slice x2 x3 x4]) (Blk.set2 (cs' := #[.bool x1, .slice none 0 0]) hb (i := 0) rfl) (i := 1) rfl)⟩⟩, fun h => by obtain ⟨g, k1, k2, k3, k4, k5⟩ := a_8 h; have hne : g ≠ p7 := fun e => (q_7_8 f.1 h) (by rw [e6, k1, e]); exact ⟨g, k1, k2, by simpa using k3, fun h => ((k4 h).far' hne).far' hne, fun h => by obtain ⟨d, cs, e, hb2⟩ := k5 h; exact ⟨d, cs, e, ((hb2).far' hne).far' hne⟩⟩, q_7_8⟩ trivial trivial
  refine Reg.RC_call rfl (by intro t ht; cases ht) rfl (fun D v' W' hc hj hf K hK => ?_) (fun _ _ => Reg.RC_at (b := ⟨_, _⟩) rfl ?_)
  ·
   obtain ⟨j0, jk, jn, b_r, b_c, b_s, a_7, a_8, q_7_8⟩ := hj
   have f := hf (8, some 8) (.tail _ (.head _)) rfl
   have e6 : v' 8 = .pointer (some ⟨p8, 0, none⟩) := f.2.1
   obtain ⟨g, e1, e2, e3, e4, e5⟩ := a_8 f.1
   obtain rfl : p8 = g := Reg.ptr_eq (e6.symm.trans e1)
   have hb := e4 hc.1
   clear e4 e5
   have fc := hf (6, some 23) (.head _) rfl
   have ec : v' 6 = .agg #[.bool y1, .slice y2 y3 y4] := fc.2.1
   have ff := hb.fr
   obtain ⟨cc0, cc1⟩ := hb.r1
   go_step
   exact hK.out undef _ (Keeps.only hb rfl ((Only.refl _ _).set.set)) ⟨(Below.setCell (p := ⟨p8, 1, none⟩) (Below.setCell (p := ⟨p8, 0, none⟩) j0 (by show w.heap.size ≤ p8; omega) _) (by show w.heap.size ≤ p8; omega) _), jk.trans (Keeps.only hb rfl ((Only.refl _ _).set.set)), by simpa using jn, ((b_r).far' (show w.heap.size ≠ p8 by omega)).far' (show w.heap.size ≠ p8 by omega), ((b_c).far' (show w1.heap.size ≠ p8 by omega)).far' (show w1.heap.size ≠ p8 by omega), ((b_s).far' (show w2.heap.size ≠ p8 by omega)).far' (show w2.heap.size ≠ p8 by omega), fun h => by obtain ⟨g, k1, k2, k3, k4, k5⟩ := a_7 h; have hne : g ≠ p8 := fun e => (q_7_8 h f.1) (by rw [e6, k1, e]); exact ⟨g, k1, k2, by simpa using k3, fun h => ((k4 h).far' hne).far' hne, fun h => by obtain ⟨d, cs, e, hb2⟩ := k5 h; exact ⟨d, cs, e, ((hb2).far' hne).far' hne⟩⟩, fun _ => ⟨p8, e1, e2, by simpa using e3, fun h => Bool.noConfusion h, fun _ => ⟨fc.1, _, ec, (Blk.set2 (cs' := #[.bool y1, .slice y2 y3 y4]) (Blk.set2 (cs' := #[.bool y1, .slice none 0 0]) hb (i := 0) rfl) (i := 1) rfl)⟩⟩, q_7_8⟩ trivial trivial
  refine Reg.RC_end (fun Dn v' w3 hd hj hf => ?_)
  obtain ⟨j0, jk, jn, b_r, b_c, b_s, a_7, a_8, q_7_8⟩ := hj
  have B := j0
  have or := b_r
  clear b_r
  have oc := b_c
  clear b_c
  have os := b_s
  clear b_s
  have f := hf (7, some 7) (.tail _ (.tail _ (.head _))) rfl
  have e6_ : v' 7 = .pointer (some ⟨p7, 0, none⟩) := f.2.1
  obtain ⟨g, e1_, za, -, -, e5_⟩ := a_7 f.1
  obtain rfl : p7 = g := Reg.ptr_eq (e6_.symm.trans e1_)
  obtain ⟨-, cs_, ee, oa⟩ := e5_ (hd 9 (Nat.le_of_ble_eq_true rfl))
  have ef : v' 1 = .agg #[.bool x1, .slice x2 x3 x4] := (hf (1, some 18) (.head _) rfl).2.1
  obtain rfl : #[.bool x1, .slice x2 x3 x4] = cs_ := by have := ef.symm.trans ee; simpa only [Value.tuple.injEq, Value.agg.injEq, Array.mk.injEq, List.cons.injEq, and_true, true_and] using this
  clear ee ef f e5_ e1_ e6_
  have f := hf (8, some 8) (.tail _ (.tail _ (.tail _ (.head _)))) rfl
  have e6_ : v' 8 = .pointer (some ⟨p8, 0, none⟩) := f.2.1
  obtain ⟨g, e1_, zd, -, -, e5_⟩ := a_8 f.1
  obtain rfl : p8 = g := Reg.ptr_eq (e6_.symm.trans e1_)
  obtain ⟨-, cs_, ee, od⟩ := e5_ (hd 10 (Nat.le_of_ble_eq_true rfl))
  have ef : v' 6 = .agg #[.bool y1, .slice y2 y3 y4] := (hf (6, some 23) (.tail _ (.head _)) rfl).2.1
  obtain rfl : #[.bool y1, .slice y2 y3 y4] = cs_ := by have := ef.symm.trans ee; simpa only [Value.tuple.injEq, Value.agg.injEq, Array.mk.injEq, List.cons.injEq, and_true, true_and] using this
  clear ee ef f e5_ e1_ e6_
  have y_7_8 : p7 ≠ p8 := fun e => q_7_8 (hf (7, some 7) (.tail _ (.tail _ (.head _))) rfl).1 (hf (8, some 8) (.tail _ (.tail _ (.tail _ (.head _)))) rfl).1 (by have h1 := (hf (7, some 7) (.tail _ (.tail _ (.head _))) rfl).2.1; have h2 := (hf (8, some 8) (.tail _ (.tail _ (.tail _ (.head _)))) rfl).2.1; rw [h1, h2]; show Value.pointer _ = .pointer _; rw [e])
  have Fx : Hid (Num w3 (.agg #[.bool x1, .slice x2 x3 x4]) ((sprI l))) := (hf (1, some 18) (.head _) rfl).2.2
  have Fy : Hid (Num w3 (.agg #[.bool y1, .slice y2 y3 y4]) ((nI l * nI l))) := (hf (6, some 23) (.tail _ (.head _)) rfl).2.2
  replace Fs := Hid.mk_ (Fs.out.keeps jk)
  replace Fn := Hid.mk_ (Fn.out.keeps jk)
  clear hd hf jk j0 q_7_8
  refine hQ _ _ ?_
  clear hQ hops Q' ops'
  have cc0 := oc.q0
  have lc := oc.lt
  obtain ⟨ca0, ca1⟩ := oa.r1
  have la := oa.lt
  obtain ⟨cd0, cd1⟩ := od.r1
  have ld := od.lt
  go_wp2_with fail
  refine (MK _ _ _ (Fx.out.keeps keepsB) (Fy.out.keeps keepsB)).mono ?_
  rintro e w4 ⟨vf, rfl, hvf, hb4⟩
  have st : Steps _ w4 := hb4
  have sk : Below w3.heap.size w3 w4 := belowA st
  replace B := below_steps B (Nat.le_refl _) sk
  replace or := or.steps sk
  replace oc := oc.steps sk
  replace os := os.steps sk
  replace oa := oa.steps sk
  replace od := od.steps sk
  replace Fs := Hid.mk_ (Fs.out.steps sk)
  replace Fn := Hid.mk_ (Fn.out.steps sk)
  replace Fx := Hid.mk_ (Fx.out.steps sk)
  replace Fy := Hid.mk_ (Fy.out.steps sk)
  clear st sk cc0 lc ca0 ca1 la cd0 cd1 ld
  obtain ⟨cr0, cr1, cr2, cr3, fr, lr⟩ := or.s3
  obtain ⟨f1, f2, f3, f4, f5, f6, f7, f8, rfl⟩ := hvf.shape
  have Ff := Hid.mk_ hvf
  clear hvf
  go_wp2_with fail
  refine bodyPost_ret (by simp [results, Tryz.results12, go_sem, cr0, cr1, cr2, cr3, fr, lr]; rfl) rfl ?_
  exact ⟨_, rfl, FE.ok (Ff.out.keeps keepsB), belowB⟩
 ·
  obtain ⟨la, lc, rfl⟩ := hl.shape
  generalize varQ l = mq at *
  generalize askV l = c at *
  have h3 : (c == 0) = false := by simpa using hk
  have h4 : (c != 0) = true := by simpa using hk
  have HK := Hid.mk_ hk
  clear hl hn hk
  go_enter Tryz.func12, Tryz.ntmps12
  go_wp2_with fail
  refine (CS _ belowB).mono ?_
  rintro e w1 ⟨rfl, hb1⟩
  have st : Steps _ w1 := hb1
  have B : Below w.heap.size w w1 := belowA st
  have or : Blk w1 (w.heap.size) 27 #[.bool false, .slice none 0 0, .bool false, .slice none 0 0] := Blk.stepsK st
  clear st
  obtain ⟨cr0, cr1, cr2, cr3, fr, lr⟩ := or.s3
  go_wp2_with fail
  refine bodyPost_ret (by simp [results, Tryz.results12, go_sem, cr0, cr1, cr2, cr3, fr, lr]; rfl) rfl ?_
  exact ⟨_, rfl, FE.bad HK.out, belowB⟩
end Go.Proofs.YtmpambmpknaldaaGreat
