import Derived.Test.YtmpambmpknaldaaGreatLCc
import Derived.Test.YtmpambmpknaldaaGreatLMd
set_option linter.unusedVariables false
set_option linter.unusedSimpArgs false
set_option maxHeartbeats 6400000
set_option maxRecDepth 1000000
namespace Go.Proofs.YtmpambmpknaldaaGreat
open Go.RowKit
theorem fcmp_bad {va vb : Value} {s : Rat} (w : World) (ha : Bad w va) (hb : FR w vb s) :
  Calls Tryz.prog 34 #[va, vb] w fun e w' => e = .returned (.tuple #[.int .i64 0, .int .i64 8]) ∧ Steps w w' := by
 have ck : ∀ w', Keeps w w' → Calls Tryz.prog 65 #[va] w' fun e w2 => e = .returned (.int .i64 8) ∧ Steps w' w2 := fun w' k => fcheck_bad w' (ha.keeps k)
 obtain ⟨a1, a2, a3, a4, a5, a6, a7, a8, rfl⟩ := ha.shape
 obtain ⟨b1, b2, b3, b4, b5, b6, b7, b8, rfl⟩ := hb.shape
 clear ha hb
 go_enter_defers Tryz.func34, Tryz.ntmps34
 go_wp2_with fail
 refine (ck _ keepsB).mono ?_
 rintro e w1 ⟨rfl, hs⟩
 have oe : Blk w1 (w.heap.size + 1 + 1) 29 #[.int .i64 0] := Blk.stepsK hs
 have B : Below w.heap.size w w1 := belowA hs
 clear hs ck
 go_wp2_with fail
 refine (fwantE 8 _ rfl).mono ?_
 rintro r w2 ⟨rfl, rfl⟩
 dsimp only
 have le := oe.lt
 have ce := oe.c 0 rfl
 have fe := oe.fr 0
 refine leaves_cons (f := 63) (args := #[.pointer (some ⟨w.heap.size + 1 + 1, 0, none⟩)]) (by simp) (by simp [go_sem]) ?_
 refine (fcatch_fall (w.heap.size + 1 + 1) 0 8 0 [] _ ce fe le).mono ?_
 rintro e u' w'' ⟨rfl, rfl, rfl⟩
 have zz := B.size
 have oe2 : Blk ((w2.setCell ⟨w.heap.size + 1 + 1, 0, none⟩ (.int .i64 8)).alloc (.cells #[.int .i64 8] 118)) (w.heap.size + 1 + 1) 29 #[.int .i64 8] := (oe.set_ 0 (.int .i64 8)).alloc _
 have ce2 : World.cell? ((w2.setCell ⟨w.heap.size + 1 + 1, 0, none⟩ (.int .i64 8)).alloc (.cells #[.int .i64 8] 118)) ⟨w.heap.size + 1 + 1, 0, none⟩ = some (.int .i64 8) := oe2.c 0 rfl
 have B2 : Below w.heap.size w ((w2.setCell ⟨w.heap.size + 1 + 1, 0, none⟩ (.int .i64 8)).alloc (.cells #[.int .i64 8] 118)) := belowB
 have l2 := oe2.lt
 generalize ((w2.setCell ⟨w.heap.size + 1 + 1, 0, none⟩ (.int .i64 8)).alloc (.cells #[.int .i64 8] 118)) = w3 at *
 refine ⟨_, by simp [results, Tryz.results34, go_sem, ce2, l2]; rfl, ?_⟩
 exact ⟨rfl, B2⟩
def cmpO (o : Option Rat) (s : Rat) : Int × Int := match o with | some r => (cmpQ r s, 0) | none => (0, 8)
theorem fcmpO {va vb : Value} {o : Option Rat} {s : Rat} (w : World) (ha : FB w va o) (hb : FR w vb s) (hz : ∀ r, o = some r → sz r 4) (hs : sz s 2) :
  Calls Tryz.prog 34 #[va, vb] w fun e w' => e = .returned (.tuple #[.int .i64 (cmpO o s).1, .int .i64 (cmpO o s).2]) ∧ Steps w w' := by
 cases o with
 | none => exact fcmp_bad w ha hb
 | some r => exact fCmpQ w ha hb (hz r rfl) hs (by omega)
def facB : Option Rat → Bool
 | some r => decide (0 ≤ cmpQ r ((1 : Int) : Rat)) && decide (cmpQ r ((1000 : Int) : Rat) ≤ 0)
 | none => false
theorem facB_ok {o : Option Rat} (h : facB o = true) : ∃ r, o = some r ∧ 1 ≤ r ∧ r ≤ 1000 := by
 cases o with
 | none => cases h
 | some r =>
  unfold facB at h
  simp only [Bool.and_eq_true, decide_eq_true_eq] at h
  refine ⟨r, rfl, ?_, ?_⟩
  ·
   have h1 : ((1 : Int) : Rat) ≤ r := Rat.not_lt.1 (fun g => by have := cmpQ_lt.2 g; omega)
   simpa using h1
  ·
   have h1 := cmpQ_le.1 h.2
   simpa using h1
theorem vallowed {va : Value} {o : Option Rat} (w : World) (ha : FB w va o) (hz : ∀ r, o = some r → sz r 4) :
  Calls Tryz.prog 76 #[va] w fun e w' => e = .returned (.bool (facB o)) ∧ Steps w w' := by
 unfold facB
 have O1 : ∀ w', Calls Tryz.prog 36 #[.int .i64 1, .int .i64 1] w' fun e w2 => ∃ v, e = .returned (.tuple #[v, .int .i64 0]) ∧ FR w2 v ((1 : Int) : Rat) ∧ Steps w' w2 := fun w' => by have := fofQ 1 1 w' (by decide) (by decide) (by decide) (by decide) (by decide); rw [one_divQ] at this; exact this
 have O2 : ∀ w', Calls Tryz.prog 36 #[.int .i64 1000, .int .i64 1] w' fun e w2 => ∃ v, e = .returned (.tuple #[v, .int .i64 0]) ∧ FR w2 v ((1000 : Int) : Rat) ∧ Steps w' w2 := fun w' => by have := fofQ 1000 1 w' (by decide) (by decide) (by decide) (by decide) (by decide); rw [one_divQ] at this; exact this
 have s1 : sz ((1 : Int) : Rat) 2 := sz_val (by decide)
 have s2 : sz ((1000 : Int) : Rat) 2 := sz_val (by decide)
 have C1 : ∀ w' v, Keeps w w' → FR w' v ((1 : Int) : Rat) → Calls Tryz.prog 34 #[va, v] w' fun e w2 => e = .returned (.tuple #[.int .i64 (cmpO o ((1 : Int) : Rat)).1, .int .i64 (cmpO o ((1 : Int) : Rat)).2]) ∧ Steps w' w2 := fun w' v k h => fcmpO w' (ha.keeps k) h hz s1
 have C2 : ∀ w' v, Keeps w w' → FR w' v ((1000 : Int) : Rat) → Calls Tryz.prog 34 #[va, v] w' fun e w2 => e = .returned (.tuple #[.int .i64 (cmpO o ((1000 : Int) : Rat)).1, .int .i64 (cmpO o ((1000 : Int) : Rat)).2]) ∧ Steps w' w2 := fun w' v k h => fcmpO w' (ha.keeps k) h hz s2
 obtain ⟨a1, a2, a3, a4, a5, a6, a7, a8, rfl⟩ := ha.shape
 generalize ((1 : Int) : Rat) = RA_ at *
 generalize ((1000 : Int) : Rat) = RB_ at *
 clear ha hz s1 s2
 cases o with
 | none =>
  simp only [cmpO] at C1 C2
  go_enter Tryz.func76, Tryz.ntmps76
  have kk := Keeps.refl w
  go_wp2_with fail
  refine (O1 _).mono ?_
  rintro e w1 ⟨vp, rfl, hvp, hb1⟩
  have st : Steps _ w1 := hb1
  have B : Below w.heap.size w w1 := belowA st
  have kp : Keeps w w1 := Keeps.then_ keepsB st
  replace kk := kk.trans kp
  have ok : Blk w1 (w.heap.size) 27 #[.bool a1, .slice a2 a3 a4, .bool a5, .slice a6 a7 a8] := Blk.stepsK st
  clear kp
  clear st
  obtain ⟨p1, p2, p3, p4, p5, p6, p7, p8, rfl⟩ := hvp.shape
  have Fp := Hid.mk_ hvp
  clear hvp
  have zk_1 : w.heap.size < w1.heap.size := ok.lt
  have zz1 := B.size
  go_wp2_with fail
  refine (O2 _).mono ?_
  rintro e w2 ⟨vq, rfl, hvq, hb2⟩
  have st : Steps _ w2 := hb2
  have sk : Below w1.heap.size w1 w2 := belowA st
  replace B := below_steps B (Nat.le_refl _) sk
  have op : Blk w2 (w1.heap.size) 27 #[.bool p1, .slice p2 p3 p4, .bool p5, .slice p6 p7 p8] := Blk.stepsK st
  replace ok := ok.steps sk
  replace Fp := Hid.mk_ (Fp.out.steps sk)
  replace kk := kk.then_ sk
  clear st sk
  obtain ⟨ck0, ck1, ck2, ck3⟩ := ok.r3
  have lk := ok.lt
  obtain ⟨cp0, cp1, cp2, cp3⟩ := op.r3
  have lp := op.lt
  obtain ⟨q1, q2, q3, q4, q5, q6, q7, q8, rfl⟩ := hvq.shape
  have Fq := Hid.mk_ hvq
  clear hvq
  have zp_2 : w1.heap.size < w2.heap.size := op.lt
  have zz2 := B.size
  go_wp2_with fail
  refine (C1 _ _ (kk.trans keepsB) (Fp.out.keeps keepsB)).mono ?_
  rintro e w3 ⟨rfl, hb3⟩
  have st : Steps _ w3 := hb3
  have sk : Below w2.heap.size w2 w3 := belowA st
  replace B := below_steps B (Nat.le_refl _) sk
  have oq : Blk w3 (w2.heap.size) 27 #[.bool q1, .slice q2 q3 q4, .bool q5, .slice q6 q7 q8] := Blk.stepsK st
  replace ok := ok.steps sk
  replace op := op.steps sk
  replace Fp := Hid.mk_ (Fp.out.steps sk)
  replace Fq := Hid.mk_ (Fq.out.steps sk)
  replace kk := kk.then_ sk
  clear st sk ck0 ck1 ck2 ck3 lk cp0 cp1 cp2 cp3 lp
  obtain ⟨ck0, ck1, ck2, ck3⟩ := ok.r3
  have lk := ok.lt
  obtain ⟨cq0, cq1, cq2, cq3⟩ := oq.r3
  have lq := oq.lt
  go_wp2_with fail
  refine (C2 _ _ (kk.trans keepsB) (Fq.out.keeps keepsB)).mono ?_
  rintro e w4 ⟨rfl, hb4⟩
  have st : Steps _ w4 := hb4
  have sk : Below w3.heap.size w3 w4 := belowA st
  replace B := below_steps B (Nat.le_refl _) sk
  replace ok := ok.steps sk
  replace op := op.steps sk
  replace oq := oq.steps sk
  replace Fp := Hid.mk_ (Fp.out.steps sk)
  replace Fq := Hid.mk_ (Fq.out.steps sk)
  replace kk := kk.then_ sk
  clear st sk ck0 ck1 ck2 ck3 lk cq0 cq1 cq2 cq3 lq
  go_wp2_with fail
  refine bodyPost_ret (by simp [results, Tryz.results76, go_sem, ]; rfl) rfl ?_
  exact ⟨rfl, belowB⟩
 | some r =>
  obtain ⟨x, hx⟩ : ∃ x, cmpQ r RA_ = x := ⟨_, rfl⟩
  obtain ⟨y, hy⟩ : ∃ y, cmpQ r RB_ = y := ⟨_, rfl⟩
  simp only [cmpO, hx, hy] at C1 C2 ⊢
  clear hx hy
  by_cases x0 : 0 ≤ x
  ·
   have dx : decide (0 ≤ x) = true := decide_eq_true x0
   rw [dx, Bool.true_and]
   go_enter Tryz.func76, Tryz.ntmps76
   have kk := Keeps.refl w
   go_wp2_with fail
   refine (O1 _).mono ?_
   rintro e w1 ⟨vp, rfl, hvp, hb1⟩
   have st : Steps _ w1 := hb1
   have B : Below w.heap.size w w1 := belowA st
   have kp : Keeps w w1 := Keeps.then_ keepsB st
   replace kk := kk.trans kp
   have ok : Blk w1 (w.heap.size) 27 #[.bool a1, .slice a2 a3 a4, .bool a5, .slice a6 a7 a8] := Blk.stepsK st
   clear kp
   clear st
   obtain ⟨p1, p2, p3, p4, p5, p6, p7, p8, rfl⟩ := hvp.shape
   have Fp := Hid.mk_ hvp
   clear hvp
   have zk_1 : w.heap.size < w1.heap.size := ok.lt
   have zz1 := B.size
   go_wp2_with fail
   refine (O2 _).mono ?_
   rintro e w2 ⟨vq, rfl, hvq, hb2⟩
   have st : Steps _ w2 := hb2
   have sk : Below w1.heap.size w1 w2 := belowA st
   replace B := below_steps B (Nat.le_refl _) sk
   have op : Blk w2 (w1.heap.size) 27 #[.bool p1, .slice p2 p3 p4, .bool p5, .slice p6 p7 p8] := Blk.stepsK st
   replace ok := ok.steps sk
   replace Fp := Hid.mk_ (Fp.out.steps sk)
   replace kk := kk.then_ sk
   clear st sk
   obtain ⟨ck0, ck1, ck2, ck3⟩ := ok.r3
   have lk := ok.lt
   obtain ⟨cp0, cp1, cp2, cp3⟩ := op.r3
   have lp := op.lt
   obtain ⟨q1, q2, q3, q4, q5, q6, q7, q8, rfl⟩ := hvq.shape
   have Fq := Hid.mk_ hvq
   clear hvq
   have zp_2 : w1.heap.size < w2.heap.size := op.lt
   have zz2 := B.size
   go_wp2_with fail
   refine (C1 _ _ (kk.trans keepsB) (Fp.out.keeps keepsB)).mono ?_
   rintro e w3 ⟨rfl, hb3⟩
   have st : Steps _ w3 := hb3
   have sk : Below w2.heap.size w2 w3 := belowA st
   replace B := below_steps B (Nat.le_refl _) sk
   have oq : Blk w3 (w2.heap.size) 27 #[.bool q1, .slice q2 q3 q4, .bool q5, .slice q6 q7 q8] := Blk.stepsK st
   replace ok := ok.steps sk
   replace op := op.steps sk
   replace Fp := Hid.mk_ (Fp.out.steps sk)
   replace Fq := Hid.mk_ (Fq.out.steps sk)
   replace kk := kk.then_ sk
   clear st sk ck0 ck1 ck2 ck3 lk cp0 cp1 cp2 cp3 lp
   obtain ⟨ck0, ck1, ck2, ck3⟩ := ok.r3
   have lk := ok.lt
   obtain ⟨cq0, cq1, cq2, cq3⟩ := oq.r3
   have lq := oq.lt
   go_wp2_with fail
   refine (C2 _ _ (kk.trans keepsB) (Fq.out.keeps keepsB)).mono ?_
   rintro e w4 ⟨rfl, hb4⟩
   have st : Steps _ w4 := hb4
   have sk : Below w3.heap.size w3 w4 := belowA st
   replace B := below_steps B (Nat.le_refl _) sk
   replace ok := ok.steps sk
   replace op := op.steps sk
   replace oq := oq.steps sk
   replace Fp := Hid.mk_ (Fp.out.steps sk)
   replace Fq := Hid.mk_ (Fq.out.steps sk)
   replace kk := kk.then_ sk
   clear st sk ck0 ck1 ck2 ck3 lk cq0 cq1 cq2 cq3 lq
   go_wp2_with fail
   refine bodyPost_ret (by simp [results, Tryz.results76, go_sem, ]; rfl) rfl ?_
   exact ⟨rfl, belowB⟩
  ·
   have dx : decide (0 ≤ x) = false := decide_eq_false x0
   rw [dx, Bool.false_and]
   go_enter Tryz.func76, Tryz.ntmps76
   have kk := Keeps.refl w
   go_wp2_with fail
   refine (O1 _).mono ?_
   rintro e w1 ⟨vp, rfl, hvp, hb1⟩
   have st : Steps _ w1 := hb1
   have B : Below w.heap.size w w1 := belowA st
   have kp : Keeps w w1 := Keeps.then_ keepsB st
   replace kk := kk.trans kp
   have ok : Blk w1 (w.heap.size) 27 #[.bool a1, .slice a2 a3 a4, .bool a5, .slice a6 a7 a8] := Blk.stepsK st
   clear kp
   clear st
   obtain ⟨p1, p2, p3, p4, p5, p6, p7, p8, rfl⟩ := hvp.shape
   have Fp := Hid.mk_ hvp
   clear hvp
   have zk_1 : w.heap.size < w1.heap.size := ok.lt
   have zz1 := B.size
   go_wp2_with fail
   refine (O2 _).mono ?_
   rintro e w2 ⟨vq, rfl, hvq, hb2⟩
   have st : Steps _ w2 := hb2
   have sk : Below w1.heap.size w1 w2 := belowA st
   replace B := below_steps B (Nat.le_refl _) sk
   have op : Blk w2 (w1.heap.size) 27 #[.bool p1, .slice p2 p3 p4, .bool p5, .slice p6 p7 p8] := Blk.stepsK st
   replace ok := ok.steps sk
   replace Fp := Hid.mk_ (Fp.out.steps sk)
   replace kk := kk.then_ sk
   clear st sk
   obtain ⟨ck0, ck1, ck2, ck3⟩ := ok.r3
   have lk := ok.lt
   obtain ⟨cp0, cp1, cp2, cp3⟩ := op.r3
   have lp := op.lt
   obtain ⟨q1, q2, q3, q4, q5, q6, q7, q8, rfl⟩ := hvq.shape
   have Fq := Hid.mk_ hvq
   clear hvq
   have zp_2 : w1.heap.size < w2.heap.size := op.lt
   have zz2 := B.size
   go_wp2_with fail
   refine (C1 _ _ (kk.trans keepsB) (Fp.out.keeps keepsB)).mono ?_
   rintro e w3 ⟨rfl, hb3⟩
   have st : Steps _ w3 := hb3
   have sk : Below w2.heap.size w2 w3 := belowA st
   replace B := below_steps B (Nat.le_refl _) sk
   have oq : Blk w3 (w2.heap.size) 27 #[.bool q1, .slice q2 q3 q4, .bool q5, .slice q6 q7 q8] := Blk.stepsK st
   replace ok := ok.steps sk
   replace op := op.steps sk
   replace Fp := Hid.mk_ (Fp.out.steps sk)
   replace Fq := Hid.mk_ (Fq.out.steps sk)
   replace kk := kk.then_ sk
   clear st sk ck0 ck1 ck2 ck3 lk cp0 cp1 cp2 cp3 lp
   obtain ⟨ck0, ck1, ck2, ck3⟩ := ok.r3
   have lk := ok.lt
   obtain ⟨cq0, cq1, cq2, cq3⟩ := oq.r3
   have lq := oq.lt
   go_wp2_with fail
   refine (C2 _ _ (kk.trans keepsB) (Fq.out.keeps keepsB)).mono ?_
   rintro e w4 ⟨rfl, hb4⟩
   have st : Steps _ w4 := hb4
   have sk : Below w3.heap.size w3 w4 := belowA st
   replace B := below_steps B (Nat.le_refl _) sk
   replace ok := ok.steps sk
   replace op := op.steps sk
   replace oq := oq.steps sk
   replace Fp := Hid.mk_ (Fp.out.steps sk)
   replace Fq := Hid.mk_ (Fq.out.steps sk)
   replace kk := kk.then_ sk
   clear st sk ck0 ck1 ck2 ck3 lk cq0 cq1 cq2 cq3 lq
   go_wp2_with fail
   refine bodyPost_ret (by simp [results, Tryz.results76, go_sem, ]; rfl) rfl ?_
   exact ⟨rfl, belowB⟩
def FarOk (w : World) (gc p1 p2 p3 p4 : Nat) (l : List Int) (k : Rat) : Prop := Blk w p1 100 #[.pointer (some ⟨gc, 0, none⟩)] ∧
 (∃ (n1 : Bool) (n2 : Option Addr) (n3 n4 : Nat) (s1 : Bool) (s2 : Option Addr) (s3 s4 : Nat) (q1 : Bool) (q2 : Option Addr) (q3 q4 : Nat), Blk w p2 67 #[.bool n1, .slice n2 n3 n4, .bool s1, .slice s2 s3 s4, .bool q1, .slice q2 q3 q4] ∧
  Num w (.agg #[.bool n1, .slice n2 n3 n4]) (nI l) ∧ Num w (.agg #[.bool s1, .slice s2 s3 s4]) (sumI l)) ∧
 (∃ (k1 : Bool) (k2 : Option Addr) (k3 k4 : Nat) (k5 : Bool) (k6 : Option Addr) (k7 k8 : Nat), Blk w p3 27 #[.bool k1, .slice k2 k3 k4, .bool k5, .slice k6 k7 k8] ∧ Num w (.agg #[.bool k5, .slice k6 k7 k8]) k.den) ∧
 (∃ (m1 : Bool) (m2 : Option Addr) (m3 m4 : Nat), Blk w p4 25 #[.bool m1, .slice m2 m3 m4] ∧ Num w (.agg #[.bool m1, .slice m2 m3 m4]) (k.num * k.num * sprI l))
theorem FarOk.steps {w w' : World} {gc p1 p2 p3 p4 : Nat} {l : List Int} {k : Rat} (h : FarOk w gc p1 p2 p3 p4 l k) (s : Steps w w') : FarOk w' gc p1 p2 p3 p4 l k := by
 have kp := Keeps.steps s
 obtain ⟨h1, ⟨n1, n2, n3, n4, s1, s2, s3, s4, q1, q2, q3, q4, b2, f1, f2⟩, ⟨k1, k2, k3, k4, k5, k6, k7, k8, b3, f3⟩, m1, m2, m3, m4, b4, f4⟩ := h
 exact ⟨h1.steps s, ⟨n1, n2, n3, n4, s1, s2, s3, s4, q1, q2, q3, q4, b2.steps s, f1.keeps kp, f2.keeps kp⟩, ⟨k1, k2, k3, k4, k5, k6, k7, k8, b3.steps s, f3.keeps kp⟩, m1, m2, m3, m4, b4.steps s, f4.keeps kp⟩
theorem far_sizes {l : List Int} {k : Rat} {x : Int} (hv : valL l) (hk : sz k 4) (hx : -4294967296 ≤ x ∧ x ≤ 4294967296) : absN x ≤ bp 2 ∧ absN (nI l * x) ≤ bp 3 ∧ absN (nI l * x - sumI l) ≤ bp 4 ∧ absN (k.den : Int) ≤ bp 4 ∧ absN ((nI l * x - sumI l) * k.den) ≤ bp 8 ∧ absN (((nI l * x - sumI l) * k.den) * ((nI l * x - sumI l) * k.den)) ≤ bp 16 ∧ absN (k.num * k.num) ≤ bp 8 ∧ absN (k.num * k.num * sprI l) ≤ bp 13 := by
 have h0 : absN x ≤ bp 2 := by rw [bp2_]; unfold absN; omega
 have h1 : absN (nI l * x) ≤ bp 3 := absN_mul_le (i := 1) (j := 2) (val_n hv) h0
 have h2 : absN (nI l * x - sumI l) ≤ bp 4 := absN_sub_le h1 (Int.le_trans (val_sum hv) (bp_mono (by omega)))
 have h3 : absN (k.den : Int) ≤ bp 4 := by rw [den_abs]; exact hk.2
 have h4 : absN ((nI l * x - sumI l) * k.den) ≤ bp 8 := absN_mul_le (i := 4) (j := 4) h2 h3
 have h5 : absN (k.num * k.num) ≤ bp 8 := absN_mul_le (i := 4) (j := 4) hk.1 hk.1
 exact ⟨h0, h1, h2, h3, h4, absN_mul_le (i := 8) (j := 8) h4 h4, h5, absN_mul_le (i := 8) (j := 5) h5 (val_spr hv)⟩
theorem vfar1 {gc p1 p2 p3 p4 : Nat} {tc : TypeId} {l : List Int} {k : Rat} {x : Int} (w : World) (hc : Blk w gc tc #[.int .i64 0]) (h : FarOk w gc p1 p2 p3 p4 l k) (hv : valL l) (hl : l ≠ []) (hk : sz k 4) (hx : -4294967296 ≤ x ∧ x ≤ 4294967296) :
  Calls Tryz.prog 107 #[.int .i64 x, .pointer (some ⟨p1, 0, none⟩), .pointer (some ⟨p2, 0, none⟩), .pointer (some ⟨p3, 0, none⟩), .pointer (some ⟨p4, 0, none⟩)] w fun e w' => e = .returned (.bool (!keepB l k x)) ∧ Steps w w' := by
 obtain ⟨z0, z1, z2, z3, z4, z5, z6, z7⟩ := far_sizes hv hk hx
 have KC : ∀ w', Steps w w' → Blk w' gc tc #[.int .i64 0] := fun w' s => hc.steps s
 have fN : fits (nI l) := fits_bp (val_n hv) (by omega)
 have fS : fits (sumI l) := fits_bp (val_sum hv) (by omega)
 have f0 : fits x := fits_bp z0 (by omega)
 have f1 : fits (nI l * x) := fits_bp z1 (by omega)
 have f2 : fits (nI l * x - sumI l) := fits_bp z2 (by omega)
 have f3 : fits (k.den : Int) := fits_bp z3 (by omega)
 have f4 : fits ((nI l * x - sumI l) * k.den) := fits_bp z4 (by omega)
 have f5 : fits (((nI l * x - sumI l) * k.den) * ((nI l * x - sumI l) * k.den)) := fits_bp z5 (by omega)
 have f7 : fits (k.num * k.num * sprI l) := fits_bp z7 (by omega)
 have FX : ∀ w', Calls Tryz.prog 67 #[.int .i64 x] w' fun e w2 => ∃ v, e = .returned v ∧ Num w2 v x ∧ Steps w' w2 := fun w' => wfrom x w' (by omega) (by omega)
 have M1 : ∀ w' u v, Steps w w' → Num w' u (nI l) → Num w' v x → Calls Tryz.prog 40 #[.pointer (some ⟨gc, 0, none⟩), u, v] w' fun e w2 => ∃ v, e = .returned v ∧ Num w2 v (nI l * x) ∧ Steps w' w2 := fun w' u v s h1 h2 => vmul w' (KC w' s) h1 h2 fN f0 f1
 have SB : ∀ w' u v, Steps w w' → Num w' u (nI l * x) → Num w' v (sumI l) → Calls Tryz.prog 69 #[.pointer (some ⟨gc, 0, none⟩), u, v] w' fun e w2 => ∃ v, e = .returned v ∧ Num w2 v (nI l * x - sumI l) ∧ Steps w' w2 := fun w' u v s h1 h2 => vsub w' (KC w' s) h1 h2 f1 fS f2
 have M2 : ∀ w' u v, Steps w w' → Num w' u (nI l * x - sumI l) → Num w' v (k.den : Int) → Calls Tryz.prog 40 #[.pointer (some ⟨gc, 0, none⟩), u, v] w' fun e w2 => ∃ v, e = .returned v ∧ Num w2 v ((nI l * x - sumI l) * k.den) ∧ Steps w' w2 := fun w' u v s h1 h2 => vmul w' (KC w' s) h1 h2 f2 f3 f4
 have M3 : ∀ w' u v, Steps w w' → Num w' u ((nI l * x - sumI l) * k.den) → Num w' v ((nI l * x - sumI l) * k.den) → Calls Tryz.prog 40 #[.pointer (some ⟨gc, 0, none⟩), u, v] w' fun e w2 => ∃ v, e = .returned v ∧ Num w2 v (((nI l * x - sumI l) * k.den) * ((nI l * x - sumI l) * k.den)) ∧ Steps w' w2 := fun w' u v s h1 h2 => vmul w' (KC w' s) h1 h2 f4 f4 f5
 have CM : ∀ w' u v, Num w' u (((nI l * x - sumI l) * k.den) * ((nI l * x - sumI l) * k.den)) → Num w' v (k.num * k.num * sprI l) → Calls Tryz.prog 66 #[u, v] w' fun e w2 => e = .returned (.tuple #[.int .i64 (cmpI (((nI l * x - sumI l) * k.den) * ((nI l * x - sumI l) * k.den)) (k.num * k.num * sprI l)), .int .i64 0]) ∧ Steps w' w2 := fun w' u v h1 h2 => wCmp w' h1 h2 f5 f7
 have KE : ∀ w', Steps w w' → Calls Tryz.prog 70 #[.pointer (some ⟨gc, 0, none⟩), .agg #[.bool false, .slice none 0 0], .int .i64 0] w' fun e w2 => e = .returned (.agg #[.bool false, .slice none 0 0]) ∧ Steps w' w2 := fun w' s => vkeep _ _ _ _ w' (KC w' s)
 have RS : (!keepB l k x) = decide (0 < cmpI (((nI l * x - sumI l) * k.den) * ((nI l * x - sumI l) * k.den)) (k.num * k.num * sprI l)) := by
  rw [keep_prog hl]
  by_cases g : ((nI l * x - sumI l) * k.den) * ((nI l * x - sumI l) * k.den) ≤ k.num * k.num * sprI l
  · rw [decide_eq_true g, decide_eq_false (fun e => by have := cmpI_pos.1 e; omega)]; rfl
  · rw [decide_eq_false g, decide_eq_true (cmpI_pos.2 (by omega))]; rfl
 rw [RS]
 obtain ⟨b1, ⟨n1, n2, n3, n4, s1, s2, s3, s4, q1, q2, q3, q4, b2, g1, g2⟩, ⟨k1, k2, k3, k4, k5, k6, k7, k8, b3, g3⟩, m1, m2, m3, m4, b4, g4⟩ := h
 have Fn := Hid.mk_ g1
 have Fs := Hid.mk_ g2
 have Fkd := Hid.mk_ g3
 have Fm := Hid.mk_ g4
 have oc := b1
 have os := b2
 have ok := b3
 have om := b4
 generalize cmpI (((nI l * x - sumI l) * k.den) * ((nI l * x - sumI l) * k.den)) (k.num * k.num * sprI l) = C at *
 generalize ((nI l * x - sumI l) * k.den) * ((nI l * x - sumI l) * k.den) = DD at *
 generalize k.num * k.num * sprI l = MO at *
 generalize (nI l * x - sumI l) * k.den = D at *
 generalize (nI l * x - sumI l) = E at *
 generalize nI l * x = NX at *
 generalize nI l = NN at *
 generalize sumI l = SS at *
 generalize (k.den : Int) = KD at *
 clear z0 z1 z2 z3 z4 z5 z6 z7 fN fS f0 f1 f2 f3 f4 f5 f7 hv hl hk hx g1 g2 g3 g4 b1 b2 b3 b4 hc KC RS
 go_enter Tryz.func107, Tryz.ntmps107
 have kk := Keeps.refl w
 have B := Below.refl w.heap.size w
 have lc := oc.lt
 have ls := os.lt
 have lk := ok.lt
 have lm := om.lt
 go_wp2_with fail
 clear lc ls lk lm
 go_upto_region 1 with fail
 refine Reg.wp_chain_n (fun N0 D v W => Below w.heap.size w W ∧ Keeps w W ∧ N0 ≤ W.heap.size ∧ Blk W (p1) 100 #[.pointer (some ⟨gc, 0, none⟩)] ∧ Blk W (p2) 67 #[.bool n1, .slice n2 n3 n4, .bool s1, .slice s2 s3 s4, .bool q1, .slice q2 q3 q4] ∧ Blk W (p3) 27 #[.bool k1, .slice k2 k3 k4, .bool k5, .slice k6 k7 k8] ∧ Blk W (p4) 25 #[.bool m1, .slice m2 m3 m4] ∧ (D 14 = true → ∃ g : Nat, v 14 = .pointer (some ⟨g, 0, none⟩) ∧ N0 ≤ g ∧ g < W.heap.size ∧ (D 15 = false → Blk W g 25 #[.bool false, .slice none 0 0]) ∧ (D 15 = true → D 13 = true ∧ ∃ cs, v 13 = .agg cs ∧ Blk W g 25 cs)))
  (Reg.inl [6, 7, 10, 13, 14, 15]) (Reg.gv [(6, IsNu), (7, IsNu), (10, IsNu), (13, IsNu), (14, IsPtr)]) (gw [(6, GNu (x)), (7, GNu (NX)), (10, GNu (E)), (13, GNu (D))]) (fun _ => Keeps) (fun _ _ => False) (Reg.pl [(7, [(6, some 16)]), (10, [(7, some 17)]), (13, [(10, some 20)]), (15, [(13, some 23), (14, some 7)]), (16, [(6, some 16), (7, some 17), (10, some 20), (13, some 23), (14, some 7)])]) (Reg.pl [(14, [15]), (13, [15])])
  (by kernel_rfl) (by kernel_rfl) (by kernel_rfl) (Reg.gvA _) (fun N0 hN0 => ⟨fun v => ?_, fun D v v' W hv hj => ?_, fun D v k j W W' x _ _ _ _ hk hg => gwA hk hg, fun _ _ _ _ h => h.elim, fun ops' Q' hops hQ => ?_⟩)
 · exact ⟨belowB, keepsB, by first | with_reducible exact Nat.le_of_eq hN0.out | (simp only [World.size_drew]; with_reducible exact Nat.le_of_eq hN0.out), ownK, ownK, ownK, ownK, (fun h => Bool.noConfusion h)⟩
 ·
  obtain ⟨j0, jk, jn, b_c, b_s, b_k, b_m, a_14⟩ := hj
  exact ⟨j0, jk, jn, b_c, b_s, b_k, b_m, fun h => by obtain ⟨g, e1, e2, e3, e4, e5⟩ := a_14 h; exact ⟨g, (hv 14 h) ▸ e1, e2, e3, e4, fun h => by obtain ⟨d, cs, e, hb⟩ := e5 h; exact ⟨d, cs, (hv 13 d) ▸ e, hb⟩⟩⟩
 have eN := hN0.out
 try simp only [World.size_alloc, World.size_setCell, World.size_drew, World.heap_drewN] at eN
 have i_c : p1 < N0 := by first | omega | (have h := oc.lt; omega)
 have i_s : p2 < N0 := by first | omega | (have h := os.lt; omega)
 have i_k : p3 < N0 := by first | omega | (have h := ok.lt; omega)
 have i_m : p4 < N0 := by first | omega | (have h := om.lt; omega)
 have iw : w.heap.size ≤ N0 := by first | omega | (have h := B.size; omega)
 clear hN0 eN
 apply Reg.RP rfl rfl rfl 10 rfl rfl
 ·
  intro D v' W' hc hj hf K hK
  obtain ⟨j0, jk, jn, b_c, b_s, b_k, b_m, a_14⟩ := hj
  have c0 := b_c.q0
  go_step
  exact hK.out
 · rfl
 apply Reg.RP rfl rfl rfl 11 rfl rfl
 ·
  intro D v' W' hc hj hf K hK
  obtain ⟨j0, jk, jn, b_c, b_s, b_k, b_m, a_14⟩ := hj
  have c0 := b_c.q0
  go_step
  exact hK.out
 · rfl
 apply Reg.RP rfl rfl rfl 12 rfl rfl
 ·
  intro D v' W' hc hj hf K hK
  obtain ⟨j0, jk, jn, b_c, b_s, b_k, b_m, a_14⟩ := hj
  have c0 := b_c.q0
  go_step
  exact hK.out
 · rfl
 refine Reg.RP0 13 ?_
 apply Reg.RP rfl rfl rfl 14 rfl rfl
 ·
  intro D v' W' hc hj hf K hK
  obtain ⟨j0, jk, jn, b_c, b_s, b_k, b_m, a_14⟩ := hj
  obtain ⟨c0, c1⟩ := b_s.r1
  go_step
  exact hK.out
 · rfl
 refine Reg.RP0 15 ?_
 refine Reg.RC_call rfl (tlt rfl) rfl (fun D v' W' hc hj hf K hK => ?_) ?_
 ·
  obtain ⟨j0, jk, jn, b_c, b_s, b_k, b_m, a_14⟩ := hj
  clear hf
  go_step
  refine (FX W').mono ?_
  rintro e W2 ⟨u, rfl, hu, hs⟩
  obtain ⟨f1, f2, f3, f4, rfl⟩ := hu.shape
  exact hK.out _ W2 (Keeps.steps hs) ⟨jst j0 hs, jk.then_ hs, jsz jn hs, b_c.steps hs, b_s.steps hs, b_k.steps hs, b_m.steps hs, fun h => by obtain ⟨g, e1, e2, e3, e4, e5⟩ := a_14 h; exact ⟨g, e1, e2, Nat.lt_of_lt_of_le e3 (hs).size, fun h => (e4 h).steps hs, fun h => by obtain ⟨d, cs, e, hb⟩ := e5 h; exact ⟨d, cs, e, hb.steps hs⟩⟩⟩ hu ⟨_, _, _, _, rfl⟩
 rintro _ ⟨f1, f2, f3, f4, rfl⟩
 refine Reg.at39 rfl ?_
 refine Reg.RC_call rfl (tlt rfl) rfl (fun D v' W' hc hj hf K hK => ?_) ?_
 ·
  obtain ⟨j0, jk, jn, b_c, b_s, b_k, b_m, a_14⟩ := hj
  have g6 : GNu (x) _ W' := (hf (6, some 16) (.head _) rfl).2.2
  have g6 : Num W' _ (x) := g6
  clear hf
  go_step
  refine (M1 W' _ _ j0 (Fn.out.keeps jk) g6).mono ?_
  rintro e W2 ⟨u, rfl, hu, hs⟩
  obtain ⟨g1, g2, g3, g4, rfl⟩ := hu.shape
  exact hK.out _ W2 (Keeps.steps hs) ⟨jst j0 hs, jk.then_ hs, jsz jn hs, b_c.steps hs, b_s.steps hs, b_k.steps hs, b_m.steps hs, fun h => by obtain ⟨g, e1, e2, e3, e4, e5⟩ := a_14 h; exact ⟨g, e1, e2, Nat.lt_of_lt_of_le e3 (hs).size, fun h => (e4 h).steps hs, fun h => by obtain ⟨d, cs, e, hb⟩ := e5 h; exact ⟨d, cs, e, hb.steps hs⟩⟩⟩ hu ⟨_, _, _, _, rfl⟩
 rintro _ ⟨g1, g2, g3, g4, rfl⟩
 refine Reg.at39 rfl ?_
 refine Reg.RP0 18 ?_
 apply Reg.RP rfl rfl rfl 19 rfl rfl
 ·
  intro D v' W' hc hj hf K hK
  obtain ⟨j0, jk, jn, b_c, b_s, b_k, b_m, a_14⟩ := hj
  have c2 := b_s.q2
  have c3 := b_s.q3
  go_step
  exact hK.out
 · rfl
 refine Reg.RC_call rfl (tlt rfl) rfl (fun D v' W' hc hj hf K hK => ?_) ?_
 ·
  obtain ⟨j0, jk, jn, b_c, b_s, b_k, b_m, a_14⟩ := hj
  have g7 : GNu (NX) _ W' := (hf (7, some 17) (.head _) rfl).2.2
  have g7 : Num W' _ (NX) := g7
  clear hf
  go_step
  refine (SB W' _ _ j0 g7 (Fs.out.keeps jk)).mono ?_
  rintro e W2 ⟨u, rfl, hu, hs⟩
  obtain ⟨h1, h2, h3, h4, rfl⟩ := hu.shape
  exact hK.out _ W2 (Keeps.steps hs) ⟨jst j0 hs, jk.then_ hs, jsz jn hs, b_c.steps hs, b_s.steps hs, b_k.steps hs, b_m.steps hs, fun h => by obtain ⟨g, e1, e2, e3, e4, e5⟩ := a_14 h; exact ⟨g, e1, e2, Nat.lt_of_lt_of_le e3 (hs).size, fun h => (e4 h).steps hs, fun h => by obtain ⟨d, cs, e, hb⟩ := e5 h; exact ⟨d, cs, e, hb.steps hs⟩⟩⟩ hu ⟨_, _, _, _, rfl⟩
 rintro _ ⟨h1, h2, h3, h4, rfl⟩
 refine Reg.at39 rfl ?_
 refine Reg.RP0 21 ?_
 apply Reg.RP rfl rfl rfl 22 rfl rfl
 ·
  intro D v' W' hc hj hf K hK
  obtain ⟨j0, jk, jn, b_c, b_s, b_k, b_m, a_14⟩ := hj
  have c2 := b_k.q2
  have c3 := b_k.q3
  go_step
  exact hK.out
 · rfl
 refine Reg.RC_call rfl (tlt rfl) rfl (fun D v' W' hc hj hf K hK => ?_) ?_
 ·
  obtain ⟨j0, jk, jn, b_c, b_s, b_k, b_m, a_14⟩ := hj
  have g10 : GNu (E) _ W' := (hf (10, some 20) (.head _) rfl).2.2
  have g10 : Num W' _ (E) := g10
  clear hf
  go_step
  refine (M2 W' _ _ j0 g10 (Fkd.out.keeps jk)).mono ?_
  rintro e W2 ⟨u, rfl, hu, hs⟩
  obtain ⟨d1, d2, d3, d4, rfl⟩ := hu.shape
  exact hK.out _ W2 (Keeps.steps hs) ⟨jst j0 hs, jk.then_ hs, jsz jn hs, b_c.steps hs, b_s.steps hs, b_k.steps hs, b_m.steps hs, fun h => by obtain ⟨g, e1, e2, e3, e4, e5⟩ := a_14 h; exact ⟨g, e1, e2, Nat.lt_of_lt_of_le e3 (hs).size, fun h => (e4 h).steps hs, fun h => Bool.noConfusion ((hc.2 15 (by decide)).symm.trans h)⟩⟩ hu ⟨_, _, _, _, rfl⟩
 rintro _ ⟨d1, d2, d3, d4, rfl⟩
 refine Reg.at39 rfl ?_
 refine Reg.RC_call rfl (tlt rfl) rfl (fun D v' W' hc hj hf K hK => ?_) ?_
 ·
  obtain ⟨j0, jk, jn, b_c, b_s, b_k, b_m, a_14⟩ := hj
  go_step
  have hs : ∀ o : Obj, Steps W' (W'.alloc o) := fun o => (Below.refl _ _).alloc (Nat.le_refl _) o
  exact hK.out _ _ (Keeps.steps (hs _)) ⟨jst j0 (hs _), jk.then_ (hs _), jsz jn (hs _), b_c.steps (hs _), b_s.steps (hs _), b_k.steps (hs _), b_m.steps (hs _), fun _ => ⟨W'.heap.size, rfl, jn, by rw [World.size_alloc]; omega, fun _ => Blk.new _ _ _, fun h => Bool.noConfusion ((hc.2 15 (by decide)).symm.trans h)⟩⟩ trivial ⟨_, rfl⟩
 rintro _ ⟨p7, rfl⟩
 refine Reg.at39 rfl ?_
 refine Reg.RC_call rfl (by intro t ht; cases ht) rfl (fun D v' W' hc hj hf K hK => ?_) (fun _ _ => Reg.RC_at (b := ⟨_, _⟩) rfl ?_)
 ·
  obtain ⟨j0, jk, jn, b_c, b_s, b_k, b_m, a_14⟩ := hj
  have f := hf (14, some 7) (.tail _ (.head _)) rfl
  have e6 : v' 14 = .pointer (some ⟨p7, 0, none⟩) := f.2.1
  obtain ⟨g, e1, e2, e3, e4, e5⟩ := a_14 f.1
  obtain rfl : p7 = g := Reg.ptr_eq (e6.symm.trans e1)
  have hb := e4 hc.1
  clear e4 e5
  have fc := hf (13, some 23) (.head _) rfl
  have ec : v' 13 = .agg #[.bool d1, .slice d2 d3 d4] := fc.2.1
  have ff := hb.fr
  obtain ⟨cc0, cc1⟩ := hb.r1
  go_step
  exact hK.out undef _ (Keeps.only hb rfl ((Only.refl _ _).set.set)) ⟨(Below.setCell (p := ⟨p7, 1, none⟩) (Below.setCell (p := ⟨p7, 0, none⟩) j0 (by show w.heap.size ≤ p7; omega) _) (by show w.heap.size ≤ p7; omega) _), jk.trans (Keeps.only hb rfl ((Only.refl _ _).set.set)), by simpa using jn, ((b_c).far' (show p1 ≠ p7 by omega)).far' (show p1 ≠ p7 by omega), ((b_s).far' (show p2 ≠ p7 by omega)).far' (show p2 ≠ p7 by omega), ((b_k).far' (show p3 ≠ p7 by omega)).far' (show p3 ≠ p7 by omega), ((b_m).far' (show p4 ≠ p7 by omega)).far' (show p4 ≠ p7 by omega), fun _ => ⟨p7, e1, e2, by simpa using e3, fun h => Bool.noConfusion h, fun _ => ⟨fc.1, _, ec, (Blk.set2 (cs' := #[.bool d1, .slice d2 d3 d4]) (Blk.set2 (cs' := #[.bool d1, .slice none 0 0]) hb (i := 0) rfl) (i := 1) rfl)⟩⟩⟩ trivial trivial
 refine Reg.RC_end (fun Dn v' w1 hd hj hf => ?_)
 obtain ⟨j0, jk, jn, b_c, b_s, b_k, b_m, a_14⟩ := hj
 have B := j0
 have oc := b_c
 clear b_c
 have os := b_s
 clear b_s
 have ok := b_k
 clear b_k
 have om := b_m
 clear b_m
 have f := hf (14, some 7) (.tail _ (.tail _ (.tail _ (.tail _ (.head _))))) rfl
 have e6_ : v' 14 = .pointer (some ⟨p7, 0, none⟩) := f.2.1
 obtain ⟨g, e1_, zd, -, -, e5_⟩ := a_14 f.1
 obtain rfl : p7 = g := Reg.ptr_eq (e6_.symm.trans e1_)
 obtain ⟨-, cs_, ee, od⟩ := e5_ (hd 15 (Nat.le_of_ble_eq_true rfl))
 have ef : v' 13 = .agg #[.bool d1, .slice d2 d3 d4] := (hf (13, some 23) (.tail _ (.tail _ (.tail _ (.head _)))) rfl).2.1
 obtain rfl : #[.bool d1, .slice d2 d3 d4] = cs_ := by have := ef.symm.trans ee; simpa only [Value.tuple.injEq, Value.agg.injEq, Array.mk.injEq, List.cons.injEq, and_true, true_and] using this
 clear ee ef f e5_ e1_ e6_
 have Fd : Hid (Num w1 (.agg #[.bool d1, .slice d2 d3 d4]) (D)) := (hf (13, some 23) (.tail _ (.tail _ (.tail _ (.head _)))) rfl).2.2
 replace Fn := Hid.mk_ (Fn.out.keeps jk)
 replace Fs := Hid.mk_ (Fs.out.keeps jk)
 replace Fkd := Hid.mk_ (Fkd.out.keeps jk)
 replace Fm := Hid.mk_ (Fm.out.keeps jk)
 replace kk := kk.trans jk
 clear hd hf jk j0
 refine hQ _ _ ?_
 clear hQ hops Q' ops'
 have cc0 := oc.q0
 have lc := oc.lt
 obtain ⟨cm0, cm1⟩ := om.r1
 have lm := om.lt
 obtain ⟨cd0, cd1⟩ := od.r1
 have ld := od.lt
 go_wp2_with fail
 have zd_1 : p7 < w1.heap.size := od.lt
 have zc_1 : p1 < w1.heap.size := oc.lt
 have zs_1 : p2 < w1.heap.size := os.lt
 have zk_1 : p3 < w1.heap.size := ok.lt
 have zm_1 : p4 < w1.heap.size := om.lt
 have zz1 := B.size
 go_upto_region 2 with fail
 refine Reg.wp_chain_n (fun N0 D v W => Below w.heap.size w W ∧ Keeps w1 W ∧ N0 ≤ W.heap.size ∧ Blk W (p1) 100 #[.pointer (some ⟨gc, 0, none⟩)] ∧ Blk W (p2) 67 #[.bool n1, .slice n2 n3 n4, .bool s1, .slice s2 s3 s4, .bool q1, .slice q2 q3 q4] ∧ Blk W (p3) 27 #[.bool k1, .slice k2 k3 k4, .bool k5, .slice k6 k7 k8] ∧ Blk W (p4) 25 #[.bool m1, .slice m2 m3 m4] ∧ Blk W (p7) 25 #[.bool d1, .slice d2 d3 d4])
  (Reg.inl [3, 5]) (Reg.gv [(3, IsNu), (5, fun z_ => z_ = .tuple #[.int .i64 C, .int .i64 0])]) (gw [(3, GNu (DD))]) (fun _ => Keeps) (fun _ _ => False) (Reg.pl [(5, [(3, some 28)]), (11, [(3, some 28), (5, some 30)])]) (Reg.pl [])
  (by kernel_rfl) (by kernel_rfl) (by kernel_rfl) (Reg.gvA _) (fun N0 hN0 => ⟨fun v => ?_, fun D v v' W hv hj => ?_, fun D v k j W W' x _ _ _ _ hk hg => gwA hk hg, fun _ _ _ _ h => h.elim, fun ops' Q' hops hQ => ?_⟩)
 · exact ⟨belowB, keepsB, by first | with_reducible exact Nat.le_of_eq hN0.out | (simp only [World.size_drew]; with_reducible exact Nat.le_of_eq hN0.out), ownK, ownK, ownK, ownK, ownK⟩
 ·
  obtain ⟨j0, jk, jn, b_c, b_s, b_k, b_m, b_d⟩ := hj
  exact ⟨j0, jk, jn, b_c, b_s, b_k, b_m, b_d⟩
 have eN := hN0.out
 try simp only [World.size_alloc, World.size_setCell, World.size_drew, World.heap_drewN] at eN
 have i_c : p1 < N0 := by first | omega | (have h := oc.lt; omega)
 have i_s : p2 < N0 := by first | omega | (have h := os.lt; omega)
 have i_k : p3 < N0 := by first | omega | (have h := ok.lt; omega)
 have i_m : p4 < N0 := by first | omega | (have h := om.lt; omega)
 have i_d : p7 < N0 := by first | omega | (have h := od.lt; omega)
 have iw : w.heap.size ≤ N0 := by first | omega | (have h := B.size; omega)
 clear cc0 lc cm0 cm1 lm cd0 cd1 ld
 clear hN0
 apply Reg.RP rfl rfl rfl 25 rfl rfl
 ·
  intro D v' W' hc hj hf K hK
  obtain ⟨j0, jk, jn, b_c, b_s, b_k, b_m, b_d⟩ := hj
  have c0 := b_c.q0
  go_step
  exact hK.out
 · rfl
 apply Reg.RP rfl rfl rfl 26 rfl rfl
 ·
  intro D v' W' hc hj hf K hK
  obtain ⟨j0, jk, jn, b_c, b_s, b_k, b_m, b_d⟩ := hj
  obtain ⟨c0, c1⟩ := b_d.r1
  go_step
  exact hK.out
 · rfl
 apply Reg.RP rfl rfl rfl 27 rfl rfl
 ·
  intro D v' W' hc hj hf K hK
  obtain ⟨j0, jk, jn, b_c, b_s, b_k, b_m, b_d⟩ := hj
  obtain ⟨c0, c1⟩ := b_d.r1
  go_step
  exact hK.out
 · rfl
 refine Reg.RC_call rfl (tlt rfl) rfl (fun D v' W' hc hj hf K hK => ?_) ?_
 ·
  obtain ⟨j0, jk, jn, b_c, b_s, b_k, b_m, b_d⟩ := hj
  clear hf
  go_step
  refine (M3 W' _ _ j0 (Fd.out.keeps jk) (Fd.out.keeps jk)).mono ?_
  rintro e W2 ⟨u, rfl, hu, hs⟩
  obtain ⟨e1, e2, e3, e4, rfl⟩ := hu.shape
  exact hK.out _ W2 (Keeps.steps hs) ⟨jst j0 hs, jk.then_ hs, jsz jn hs, b_c.steps hs, b_s.steps hs, b_k.steps hs, b_m.steps hs, b_d.steps hs⟩ hu ⟨_, _, _, _, rfl⟩
 rintro _ ⟨e1, e2, e3, e4, rfl⟩
 refine Reg.at39 rfl ?_
 apply Reg.RP rfl rfl rfl 29 rfl rfl
 ·
  intro D v' W' hc hj hf K hK
  obtain ⟨j0, jk, jn, b_c, b_s, b_k, b_m, b_d⟩ := hj
  obtain ⟨c0, c1⟩ := b_m.r1
  go_step
  exact hK.out
 · rfl
 refine Reg.RC_call rfl (tlt rfl) rfl (fun D v' W' hc hj hf K hK => ?_) ?_
 ·
  obtain ⟨j0, jk, jn, b_c, b_s, b_k, b_m, b_d⟩ := hj
  have g3 : GNu (DD) _ W' := (hf (3, some 28) (.head _) rfl).2.2
  have g3 : Num W' _ (DD) := g3
  clear hf
  go_step
  refine (CM W' _ _ g3 (Fm.out.keeps jk)).mono ?_
  rintro e W2 ⟨rfl, hs⟩
  exact hK.out _ W2 (Keeps.steps hs) ⟨jst j0 hs, jk.then_ hs, jsz jn hs, b_c.steps hs, b_s.steps hs, b_k.steps hs, b_m.steps hs, b_d.steps hs⟩ trivial rfl
 rintro _ rfl
 refine Reg.at39 rfl ?_
 refine Reg.RP0 24 ?_
 refine Reg.RP0 31 ?_
 refine Reg.RP0 32 ?_
 refine Reg.RP0 8 ?_
 refine Reg.RP0 9 ?_
 refine Reg.RC_end (fun Dn v' w2 hd hj hf => ?_)
 obtain ⟨j0, jk, jn, b_c, b_s, b_k, b_m, b_d⟩ := hj
 have B := j0
 have oc := b_c
 clear b_c
 have os := b_s
 clear b_s
 have ok := b_k
 clear b_k
 have om := b_m
 clear b_m
 have od := b_d
 clear b_d
 replace Fn := Hid.mk_ (Fn.out.keeps jk)
 replace Fs := Hid.mk_ (Fs.out.keeps jk)
 replace Fkd := Hid.mk_ (Fkd.out.keeps jk)
 replace Fm := Hid.mk_ (Fm.out.keeps jk)
 replace Fd := Hid.mk_ (Fd.out.keeps jk)
 replace kk := kk.trans jk
 clear hd hf jk j0
 refine hQ _ _ ?_
 clear hQ hops Q' ops'
 have cc0 := oc.q0
 have lc := oc.lt
 go_wp2_with fail
 refine (KE _ belowB).mono ?_
 rintro e w3 ⟨rfl, hb3⟩
 have st : Steps _ w3 := hb3
 have sk : Below w2.heap.size w2 w3 := belowA st
 replace B := below_steps B (Nat.le_refl _) sk
 replace oc := oc.steps sk
 replace os := os.steps sk
 replace ok := ok.steps sk
 replace om := om.steps sk
 replace od := od.steps sk
 replace Fn := Hid.mk_ (Fn.out.steps sk)
 replace Fs := Hid.mk_ (Fs.out.steps sk)
 replace Fkd := Hid.mk_ (Fkd.out.steps sk)
 replace Fm := Hid.mk_ (Fm.out.steps sk)
 replace Fd := Hid.mk_ (Fd.out.steps sk)
 replace kk := kk.then_ sk
 clear st sk cc0 lc
 go_wp2_with fail
 refine bodyPost_ret (by simp [results, Tryz.results107, go_sem, ]; rfl) rfl ?_
 exact ⟨rfl, belowB⟩
theorem vfar {gc : Nat} {tc : TypeId} {vl vk : Value} {l : List Int} {k : Rat} (w : World) (hc : Blk w gc tc #[.int .i64 0]) (hl : IntsR w vl l) (hv : valL l) (hk : FR w vk k) (zk : sz k 4) :
  Calls Tryz.prog 78 #[.pointer (some ⟨gc, 0, none⟩), vl, vk] w fun e w' => ∃ p1 p2 p3 p4, e = .returned (.func (.func 107) #[] #[.pointer (some ⟨p1, 0, none⟩), .pointer (some ⟨p2, 0, none⟩), .pointer (some ⟨p3, 0, none⟩), .pointer (some ⟨p4, 0, none⟩)]) ∧ FarOk w' gc p1 p2 p3 p4 l k ∧ Steps w w' := by
 have KC : ∀ w', Steps w w' → Blk w' gc tc #[.int .i64 0] := fun w' s => hc.steps s
 have z5 : absN (k.num * k.num) ≤ bp 8 := absN_mul_le (i := 4) (j := 4) zk.1 zk.1
 have z6 : absN (k.num * k.num * sprI l) ≤ bp 13 := absN_mul_le (i := 8) (j := 5) z5 (val_spr hv)
 have fk : fits k.num := fits_bp zk.1 (by omega)
 have TT : ∀ w', Steps w w' → Calls Tryz.prog 38 #[.pointer (some ⟨gc, 0, none⟩), vl] w' fun e w2 => ∃ v, e = .returned v ∧ Sums w2 v l ∧ Steps w' w2 := fun w' s => vtotal w' (KC w' s) (hl.steps s) hv
 have SP : ∀ w' v, Steps w w' → Sums w' v l → Calls Tryz.prog 39 #[.pointer (some ⟨gc, 0, none⟩), v] w' fun e w2 => ∃ v, e = .returned v ∧ Num w2 v (sprI l) ∧ Steps w' w2 := fun w' v s h => vspread w' (KC w' s) h hv
 have M1 : ∀ w' u v, Steps w w' → Num w' u k.num → Num w' v k.num → Calls Tryz.prog 40 #[.pointer (some ⟨gc, 0, none⟩), u, v] w' fun e w2 => ∃ v, e = .returned v ∧ Num w2 v (k.num * k.num) ∧ Steps w' w2 := fun w' u v s h1 h2 => vmul w' (KC w' s) h1 h2 fk fk (fits_bp z5 (by omega))
 have M2 : ∀ w' u v, Steps w w' → Num w' u (k.num * k.num) → Num w' v (sprI l) → Calls Tryz.prog 40 #[.pointer (some ⟨gc, 0, none⟩), u, v] w' fun e w2 => ∃ v, e = .returned v ∧ Num w2 v (k.num * k.num * sprI l) ∧ Steps w' w2 := fun w' u v s h1 h2 => vmul w' (KC w' s) h1 h2 (fits_bp z5 (by omega)) (fits_bp (val_spr hv) (by omega)) (fits_bp z6 (by omega))
 obtain ⟨k2, k3, k4, k6, k7, k8, rfl, nk, dk, -⟩ := hk.nums
 obtain ⟨k1, hk1⟩ : ∃ g, decide (k < 0) = g := ⟨_, rfl⟩
 rw [hk1] at nk ⊢
 have Fk := Hid.mk_ nk
 have Fd := Hid.mk_ dk
 obtain ⟨la, lc, rfl⟩ := hl.shape
 unfold FarOk
 generalize k.num * k.num * sprI l = MO at *
 generalize k.num * k.num = KK at *
 generalize k.num = KN at *
 generalize (k.den : Int) = KD at *
 generalize sprI l = SPR at *
 clear hc hl hv hk zk z5 z6 fk nk dk hk1 KC
 go_enter Tryz.func78, Tryz.ntmps78
 have kk := Keeps.refl w
 go_wp2_with fail
 refine (TT _ belowB).mono ?_
 rintro e w1 ⟨vs, rfl, hvs, hb1⟩
 have st : Steps _ w1 := hb1
 have B : Below w.heap.size w w1 := belowA st
 have kp : Keeps w w1 := Keeps.then_ keepsB st
 replace kk := kk.trans kp
 have oc : Blk w1 (w.heap.size) 100 #[.pointer (some ⟨gc, 0, none⟩)] := Blk.stepsK st
 have ok : Blk w1 (w.heap.size + 1) 27 #[.bool k1, .slice k2 k3 k4, .bool false, .slice k6 k7 k8] := Blk.stepsK st
 replace Fk := Hid.mk_ (Fk.out.keeps kp)
 replace Fd := Hid.mk_ (Fd.out.keeps kp)
 clear kp
 clear st
 have cc0 := oc.q0
 have lc := oc.lt
 obtain ⟨ck0, ck1, ck2, ck3⟩ := ok.r3
 have lk := ok.lt
 have hvs0 := hvs
 obtain ⟨n1, n2, n3, n4, s1, s2, s3, s4, q1, q2, q3, q4, rfl, hn_, hs_, -⟩ := hvs0
 have Fs := Hid.mk_ hvs
 have Fn := Hid.mk_ hn_
 have Fu := Hid.mk_ hs_
 clear hvs hn_ hs_
 have zk_1 : w.heap.size + 1 < w1.heap.size := ok.lt
 have zz1 := B.size
 go_wp2_with fail
 go_upto_region 2 with fail
 refine Reg.wp_chain_n (fun N0 D v W => Below w.heap.size w W ∧ Keeps w1 W ∧ N0 ≤ W.heap.size ∧ Blk W (w.heap.size) 100 #[.pointer (some ⟨gc, 0, none⟩)] ∧ Blk W (w.heap.size + 1) 27 #[.bool k1, .slice k2 k3 k4, .bool false, .slice k6 k7 k8] ∧ Blk W (w1.heap.size) 67 #[.bool n1, .slice n2 n3 n4, .bool s1, .slice s2 s3 s4, .bool q1, .slice q2 q3 q4] ∧ (D 11 = true → ∃ g : Nat, v 11 = .pointer (some ⟨g, 0, none⟩) ∧ N0 ≤ g ∧ g < W.heap.size ∧ (D 12 = false → Blk W g 25 #[.bool false, .slice none 0 0]) ∧ (D 12 = true → D 10 = true ∧ ∃ cs, v 10 = .agg cs ∧ Blk W g 25 cs)))
  (Reg.inl [6, 9, 10, 11, 12]) (Reg.gv [(6, IsNu), (9, IsNu), (10, IsNu), (11, IsPtr)]) (gw [(6, GNu (KK)), (9, GNu (SPR)), (10, GNu (MO))]) (fun _ => Keeps) (fun _ _ => False) (Reg.pl [(10, [(6, some 18), (9, some 21)]), (12, [(10, some 22), (11, some 8)]), (13, [(6, some 18), (9, some 21), (10, some 22), (11, some 8)])]) (Reg.pl [(11, [12]), (10, [12])])
  (by kernel_rfl) (by kernel_rfl) (by kernel_rfl) (Reg.gvA _) (fun N0 hN0 => ⟨fun v => ?_, fun D v v' W hv hj => ?_, fun D v k j W W' x _ _ _ _ hk hg => gwA hk hg, fun _ _ _ _ h => h.elim, fun ops' Q' hops hQ => ?_⟩)
 · exact ⟨belowB, keepsB, by first | with_reducible exact Nat.le_of_eq hN0.out | (simp only [World.size_drew]; with_reducible exact Nat.le_of_eq hN0.out), ownK, ownK, ownK, (fun h => Bool.noConfusion h)⟩
 ·
  obtain ⟨j0, jk, jn, b_c, b_k, b_s, a_11⟩ := hj
  exact ⟨j0, jk, jn, b_c, b_k, b_s, fun h => by obtain ⟨g, e1, e2, e3, e4, e5⟩ := a_11 h; exact ⟨g, (hv 11 h) ▸ e1, e2, e3, e4, fun h => by obtain ⟨d, cs, e, hb⟩ := e5 h; exact ⟨d, cs, (hv 10 d) ▸ e, hb⟩⟩⟩
 have eN := hN0.out
 try simp only [World.size_alloc, World.size_setCell, World.size_drew, World.heap_drewN] at eN
 have i_c : w.heap.size < N0 := by first | omega | (have h := oc.lt; omega)
 have i_k : w.heap.size + 1 < N0 := by first | omega | (have h := ok.lt; omega)
 have i_s : w1.heap.size < N0 := by first | omega | (have h := os.lt; omega)
 have iw : w.heap.size ≤ N0 := by first | omega | (have h := B.size; omega)
 clear cc0 lc ck0 ck1 ck2 ck3 lk
 clear hN0
 apply Reg.RP rfl rfl rfl 12 rfl rfl
 ·
  intro D v' W' hc hj hf K hK
  obtain ⟨j0, jk, jn, b_c, b_k, b_s, a_11⟩ := hj
  have c0 := b_c.q0
  go_step
  exact hK.out
 · rfl
 apply Reg.RP rfl rfl rfl 13 rfl rfl
 ·
  intro D v' W' hc hj hf K hK
  obtain ⟨j0, jk, jn, b_c, b_k, b_s, a_11⟩ := hj
  have c0 := b_c.q0
  go_step
  exact hK.out
 · rfl
 refine Reg.RP0 14 ?_
 apply Reg.RP rfl rfl rfl 15 rfl rfl
 ·
  intro D v' W' hc hj hf K hK
  obtain ⟨j0, jk, jn, b_c, b_k, b_s, a_11⟩ := hj
  obtain ⟨c0, c1⟩ := b_k.r1
  go_step
  exact hK.out
 · rfl
 refine Reg.RP0 16 ?_
 apply Reg.RP rfl rfl rfl 17 rfl rfl
 ·
  intro D v' W' hc hj hf K hK
  obtain ⟨j0, jk, jn, b_c, b_k, b_s, a_11⟩ := hj
  obtain ⟨c0, c1⟩ := b_k.r1
  go_step
  exact hK.out
 · rfl
 refine Reg.RC_call rfl (tlt rfl) rfl (fun D v' W' hc hj hf K hK => ?_) ?_
 ·
  obtain ⟨j0, jk, jn, b_c, b_k, b_s, a_11⟩ := hj
  clear hf
  go_step
  refine (M1 W' _ _ j0 (Fk.out.keeps jk) (Fk.out.keeps jk)).mono ?_
  rintro e W2 ⟨u, rfl, hu, hs⟩
  obtain ⟨a1, a2, a3, a4, rfl⟩ := hu.shape
  exact hK.out _ W2 (Keeps.steps hs) ⟨jst j0 hs, jk.then_ hs, jsz jn hs, b_c.steps hs, b_k.steps hs, b_s.steps hs, fun h => by obtain ⟨g, e1, e2, e3, e4, e5⟩ := a_11 h; exact ⟨g, e1, e2, Nat.lt_of_lt_of_le e3 (hs).size, fun h => (e4 h).steps hs, fun h => by obtain ⟨d, cs, e, hb⟩ := e5 h; exact ⟨d, cs, e, hb.steps hs⟩⟩⟩ hu ⟨_, _, _, _, rfl⟩
 rintro _ ⟨a1, a2, a3, a4, rfl⟩
 refine Reg.at24 rfl ?_
 apply Reg.RP rfl rfl rfl 19 rfl rfl
 ·
  intro D v' W' hc hj hf K hK
  obtain ⟨j0, jk, jn, b_c, b_k, b_s, a_11⟩ := hj
  have c0 := b_c.q0
  go_step
  exact hK.out
 · rfl
 apply Reg.RP rfl rfl rfl 20 rfl rfl
 ·
  intro D v' W' hc hj hf K hK
  obtain ⟨j0, jk, jn, b_c, b_k, b_s, a_11⟩ := hj
  obtain ⟨c0, c1, c2, c3, c4, c5⟩ := b_s.r5
  go_step
  exact hK.out
 · rfl
 refine Reg.RC_call rfl (tlt rfl) rfl (fun D v' W' hc hj hf K hK => ?_) ?_
 ·
  obtain ⟨j0, jk, jn, b_c, b_k, b_s, a_11⟩ := hj
  clear hf
  go_step
  refine (SP W' _ j0 (Fs.out.keeps jk)).mono ?_
  rintro e W2 ⟨u, rfl, hu, hs⟩
  obtain ⟨b1, b2, b3, b4, rfl⟩ := hu.shape
  exact hK.out _ W2 (Keeps.steps hs) ⟨jst j0 hs, jk.then_ hs, jsz jn hs, b_c.steps hs, b_k.steps hs, b_s.steps hs, fun h => by obtain ⟨g, e1, e2, e3, e4, e5⟩ := a_11 h; exact ⟨g, e1, e2, Nat.lt_of_lt_of_le e3 (hs).size, fun h => (e4 h).steps hs, fun h => by obtain ⟨d, cs, e, hb⟩ := e5 h; exact ⟨d, cs, e, hb.steps hs⟩⟩⟩ hu ⟨_, _, _, _, rfl⟩
 rintro _ ⟨b1, b2, b3, b4, rfl⟩
 refine Reg.at24 rfl ?_
 refine Reg.RC_call rfl (tlt rfl) rfl (fun D v' W' hc hj hf K hK => ?_) ?_
 ·
  obtain ⟨j0, jk, jn, b_c, b_k, b_s, a_11⟩ := hj
  have g6 : GNu (KK) _ W' := (hf (6, some 18) (.head _) rfl).2.2
  have g6 : Num W' _ (KK) := g6
  have g9 : GNu (SPR) _ W' := (hf (9, some 21) (.tail _ (.head _)) rfl).2.2
  have g9 : Num W' _ (SPR) := g9
  clear hf
  go_step
  refine (M2 W' _ _ j0 g6 g9).mono ?_
  rintro e W2 ⟨u, rfl, hu, hs⟩
  obtain ⟨m1, m2, m3, m4, rfl⟩ := hu.shape
  exact hK.out _ W2 (Keeps.steps hs) ⟨jst j0 hs, jk.then_ hs, jsz jn hs, b_c.steps hs, b_k.steps hs, b_s.steps hs, fun h => by obtain ⟨g, e1, e2, e3, e4, e5⟩ := a_11 h; exact ⟨g, e1, e2, Nat.lt_of_lt_of_le e3 (hs).size, fun h => (e4 h).steps hs, fun h => Bool.noConfusion ((hc.2 12 (by decide)).symm.trans h)⟩⟩ hu ⟨_, _, _, _, rfl⟩
 rintro _ ⟨m1, m2, m3, m4, rfl⟩
 refine Reg.at24 rfl ?_
 refine Reg.RC_call rfl (tlt rfl) rfl (fun D v' W' hc hj hf K hK => ?_) ?_
 ·
  obtain ⟨j0, jk, jn, b_c, b_k, b_s, a_11⟩ := hj
  go_step
  have hs : ∀ o : Obj, Steps W' (W'.alloc o) := fun o => (Below.refl _ _).alloc (Nat.le_refl _) o
  exact hK.out _ _ (Keeps.steps (hs _)) ⟨jst j0 (hs _), jk.then_ (hs _), jsz jn (hs _), b_c.steps (hs _), b_k.steps (hs _), b_s.steps (hs _), fun _ => ⟨W'.heap.size, rfl, jn, by rw [World.size_alloc]; omega, fun _ => Blk.new _ _ _, fun h => Bool.noConfusion ((hc.2 12 (by decide)).symm.trans h)⟩⟩ trivial ⟨_, rfl⟩
 rintro _ ⟨p8, rfl⟩
 refine Reg.at24 rfl ?_
 refine Reg.RC_call rfl (by intro t ht; cases ht) rfl (fun D v' W' hc hj hf K hK => ?_) (fun _ _ => Reg.RC_at (b := ⟨_, _⟩) rfl ?_)
 ·
  obtain ⟨j0, jk, jn, b_c, b_k, b_s, a_11⟩ := hj
  have f := hf (11, some 8) (.tail _ (.head _)) rfl
  have e6 : v' 11 = .pointer (some ⟨p8, 0, none⟩) := f.2.1
  obtain ⟨g, e1, e2, e3, e4, e5⟩ := a_11 f.1
  obtain rfl : p8 = g := Reg.ptr_eq (e6.symm.trans e1)
  have hb := e4 hc.1
  clear e4 e5
  have fc := hf (10, some 22) (.head _) rfl
  have ec : v' 10 = .agg #[.bool m1, .slice m2 m3 m4] := fc.2.1
  have ff := hb.fr
  obtain ⟨cc0, cc1⟩ := hb.r1
  go_step
  exact hK.out undef _ (Keeps.only hb rfl ((Only.refl _ _).set.set)) ⟨(Below.setCell (p := ⟨p8, 1, none⟩) (Below.setCell (p := ⟨p8, 0, none⟩) j0 (by show w.heap.size ≤ p8; omega) _) (by show w.heap.size ≤ p8; omega) _), jk.trans (Keeps.only hb rfl ((Only.refl _ _).set.set)), by simpa using jn, ((b_c).far' (show w.heap.size ≠ p8 by omega)).far' (show w.heap.size ≠ p8 by omega), ((b_k).far' (show w.heap.size + 1 ≠ p8 by omega)).far' (show w.heap.size + 1 ≠ p8 by omega), ((b_s).far' (show w1.heap.size ≠ p8 by omega)).far' (show w1.heap.size ≠ p8 by omega), fun _ => ⟨p8, e1, e2, by simpa using e3, fun h => Bool.noConfusion h, fun _ => ⟨fc.1, _, ec, (Blk.set2 (cs' := #[.bool m1, .slice m2 m3 m4]) (Blk.set2 (cs' := #[.bool m1, .slice none 0 0]) hb (i := 0) rfl) (i := 1) rfl)⟩⟩⟩ trivial trivial
 refine Reg.RC_end (fun Dn v' w2 hd hj hf => ?_)
 obtain ⟨j0, jk, jn, b_c, b_k, b_s, a_11⟩ := hj
 have B := j0
 have oc := b_c
 clear b_c
 have ok := b_k
 clear b_k
 have os := b_s
 clear b_s
 have f := hf (11, some 8) (.tail _ (.tail _ (.tail _ (.head _)))) rfl
 have e6_ : v' 11 = .pointer (some ⟨p8, 0, none⟩) := f.2.1
 obtain ⟨g, e1_, zm, -, -, e5_⟩ := a_11 f.1
 obtain rfl : p8 = g := Reg.ptr_eq (e6_.symm.trans e1_)
 obtain ⟨-, cs_, ee, om⟩ := e5_ (hd 12 (Nat.le_of_ble_eq_true rfl))
 have ef : v' 10 = .agg #[.bool m1, .slice m2 m3 m4] := (hf (10, some 22) (.tail _ (.tail _ (.head _))) rfl).2.1
 obtain rfl : #[.bool m1, .slice m2 m3 m4] = cs_ := by have := ef.symm.trans ee; simpa only [Value.tuple.injEq, Value.agg.injEq, Array.mk.injEq, List.cons.injEq, and_true, true_and] using this
 clear ee ef f e5_ e1_ e6_
 have Fm : Hid (Num w2 (.agg #[.bool m1, .slice m2 m3 m4]) (MO)) := (hf (10, some 22) (.tail _ (.tail _ (.head _))) rfl).2.2
 replace Fk := Hid.mk_ (Fk.out.keeps jk)
 replace Fd := Hid.mk_ (Fd.out.keeps jk)
 replace Fs := Hid.mk_ (Fs.out.keeps jk)
 replace Fn := Hid.mk_ (Fn.out.keeps jk)
 replace Fu := Hid.mk_ (Fu.out.keeps jk)
 replace kk := kk.trans jk
 clear hd hf jk j0
 refine hQ _ _ ?_
 clear hQ hops Q' ops'
 go_wp2_with fail
 refine bodyPost_ret (by simp [results, Tryz.results78, go_sem]; rfl) rfl ?_
 exact ⟨_, _, _, _, rfl, ⟨ownK, ⟨_, _, _, _, _, _, _, _, _, _, _, _, ownK, Fn.out.keeps keepsB, Fu.out.keeps keepsB⟩, ⟨_, _, _, _, _, _, _, _, ownK, Fd.out.keeps keepsB⟩, _, _, _, _, ownK, Fm.out.keeps keepsB⟩, belowB⟩
end Go.Proofs.YtmpambmpknaldaaGreat
