import Derived.Test.YtmpambmpknaldaaGreatMCh
import Derived.Test.YtmpambmpknaldaaGreatMQu
import Derived.Deep.Upon
import Derived.Test.YtmpambmpknaldaaGreatMQj
set_option linter.unusedVariables false
set_option linter.unusedSimpArgs false
set_option maxHeartbeats 6400000
set_option maxRecDepth 1000000
namespace Go.Proofs.YtmpambmpknaldaaGreat
open Go.RowKit
def grB (n : Nat) : Bool := decide (1010 < n) || (decide (24 < n) && decide (n ≤ 1000))
theorem psameN {a b c d a' b' c' d' : Value} {x y : Int} (w : World) (h : Frn w x y a b c d) (h' : Frn w x y a' b' c' d') (fx : fits x) (fy : fits y) :
  Calls Tryz.prog 18 #[.agg #[a, b, c, d], .agg #[a', b', c', d']] w fun e w' => e = .returned (.bool true) ∧ Steps w w' := by
 obtain ⟨g1, s1, n1, c1, rfl, rfl⟩ := h.1.parts2
 obtain ⟨g2, s2, n2, c2, rfl, rfl⟩ := h.2.parts2
 obtain ⟨g3, s3, n3, c3, rfl, rfl⟩ := h'.1.parts2
 obtain ⟨g4, s4, n4, c4, rfl, rfl⟩ := h'.2.parts2
 have p1 : ∀ w', Keeps w w' → Calls Tryz.prog 47 #[.agg #[.bool g1, .slice s1 n1 c1], .agg #[.bool g3, .slice s3 n3 c3]] w' fun e w2 => e = .returned (.bool true) ∧ Steps w' w2 := fun w' k => by
  have := rsame w' (h.1.keeps k) (h'.1.keeps k) fx fx
  rwa [decide_eq_true rfl] at this
 have p2 : ∀ w', Keeps w w' → Calls Tryz.prog 47 #[.agg #[.bool g2, .slice s2 n2 c2], .agg #[.bool g4, .slice s4 n4 c4]] w' fun e w2 => e = .returned (.bool true) ∧ Steps w' w2 := fun w' k => by
  have := rsame w' (h.2.keeps k) (h'.2.keeps k) fy fy
  rwa [decide_eq_true rfl] at this
 clear h h' fx fy
 go_enter Tryz.func18, Tryz.ntmps18
 have kk := Keeps.refl w
 go_wp2_with fail
 refine (p1 _ (kk.trans keepsB)).mono ?_
 rintro e w1 ⟨rfl, hb1⟩
 have st : Steps _ w1 := hb1
 have B : Below w.heap.size w w1 := belowA st
 have kp : Keeps w w1 := Keeps.then_ keepsB st
 replace kk := kk.trans kp
 have oa : Blk w1 (w.heap.size) 27 #[.bool g1, .slice s1 n1 c1, .bool g2, .slice s2 n2 c2] := Blk.stepsK st
 have ob : Blk w1 (w.heap.size + 1) 27 #[.bool g3, .slice s3 n3 c3, .bool g4, .slice s4 n4 c4] := Blk.stepsK st
 clear kp
 clear st
 obtain ⟨ca0, ca1, ca2, ca3⟩ := oa.r3
 have la := oa.lt
 obtain ⟨cb0, cb1, cb2, cb3⟩ := ob.r3
 have lb := ob.lt
 go_wp2_with fail
 refine (p2 _ (kk.trans keepsB)).mono ?_
 rintro e w2 ⟨rfl, hb2⟩
 have st : Steps _ w2 := hb2
 have sk : Below w1.heap.size w1 w2 := belowA st
 replace B := below_steps B (Nat.le_refl _) sk
 replace oa := oa.steps sk
 replace ob := ob.steps sk
 replace kk := kk.then_ sk
 clear st sk ca0 ca1 ca2 ca3 la cb0 cb1 cb2 cb3 lb
 go_wp2_with fail
 refine bodyPost_ret (by simp [results, Tryz.results18, go_sem, ]; rfl) rfl ?_
 exact ⟨rfl, belowB⟩
theorem frn_zeroQ (w : World) : Frn w 0 0 (.bool false) (.slice none 0 0) (.bool false) (.slice none 0 0) := ⟨Num.zero _, Num.zero _⟩
theorem psame {va vb : Value} {c : Int} {r : Rat} (w : World) (h : FE w va c r) (h' : FE w vb c r) : Calls Tryz.prog 18 #[va, vb] w fun e w' => e = .returned (.bool true) ∧ Steps w w' := by
 unfold FE at h h'
 by_cases hc : c = 0
 ·
  rw [if_pos hc] at h h'
  obtain ⟨a2, a3, a4, a6, a7, a8, rfl, n1, n2, -⟩ := h.nums
  obtain ⟨b2, b3, b4, b6, b7, b8, rfl, m1, m2, -⟩ := h'.nums
  exact psameN w ⟨n1, n2⟩ ⟨m1, m2⟩ h.fit.1 h.fit.2
 ·
  rw [if_neg hc] at h h'
  subst h
  subst h'
  exact psameN w (frn_zeroQ w) (frn_zeroQ w) (by decide) (by decide)
theorem FE.keeps {w w' : World} {v : Value} {c : Int} {r : Rat} (h : FE w v c r) (k : Keeps w w') : FE w' v c r := by
 unfold FE at h ⊢
 split
 · rename_i e; rw [if_pos e] at h; exact FR.keeps h k
 · rename_i e; rw [if_neg e] at h; exact h
theorem FE.steps {w w' : World} {v : Value} {c : Int} {r : Rat} (h : FE w v c r) (s : Steps w w') : FE w' v c r := h.keeps (Keeps.steps s)
theorem FE.shape {w : World} {v : Value} {c : Int} {r : Rat} (h : FE w v c r) : ∃ (a : Bool) (s : Option Addr) (n d : Nat) (b : Bool) (t : Option Addr) (m e : Nat), v = .agg #[.bool a, .slice s n d, .bool b, .slice t m e] := by
 unfold FE at h
 split at h
 · exact FR.shape h
 · exact ⟨_, _, _, _, _, _, _, _, h⟩
def gvn : List Int := [1, 2, 3, 4, 100]
theorem gv_ask : askV gvn = 0 := by decide +kernel
theorem srt_gv : srt gvn = gvn := (srt_of (List.Perm.refl _) (by unfold Asc gvn; decide)).symm
theorem srt_aw : srt [4, 2, 0, 2, 194] = [0, 2, 2, 4, 194] := (srt_of (by decide) (by unfold Asc; decide)).symm
theorem tw_gv : twI gvn = 6 := by unfold twI; rw [srt_gv]; decide
theorem gv_mean : meanQ gvn = ((22 : Int) : Rat) / ((1 : Int) : Rat) := by decide +kernel
theorem gv_med : medQ gvn = ((3 : Int) : Rat) / ((1 : Int) : Rat) := by unfold medQ; rw [tw_gv]; decide +kernel
theorem gv_dvn : dvnQ gvn = ((1 : Int) : Rat) / ((1 : Int) : Rat) := by
 unfold dvnQ
 rw [tw_gv, show awI 6 gvn = [4, 2, 0, 2, 194] by decide]
 unfold twI
 rw [srt_aw]
 decide +kernel
theorem gv_var : varQ gvn = ((1522 : Int) : Rat) / ((1 : Int) : Rat) := by decide +kernel
theorem gv_clip : clipS gvn (some (((3 : Int) : Rat) / ((2 : Int) : Rat))) = ([0, 1, 2, 3], 1, 0) := by decide +kernel
theorem gv_trim : meanQ (pick gvn [0, 1, 2, 3]) = ((5 : Int) : Rat) / ((2 : Int) : Rat) := by decide +kernel
theorem lof07 (x y : Int) (w : World) (x0 : -9223372036854775808 ≤ x) (x1 : x ≤ 9223372036854775807) (y0 : -9223372036854775808 ≤ y) (y1 : y ≤ 9223372036854775807) (hy : y ≠ 0) :
  Calls Tryz.prog 24 #[.int .i64 x, .int .i64 y] w fun e w' => ∃ v, e = .returned v ∧ FR w' v ((x : Rat) / (y : Rat)) ∧ Steps w w' := by
 have OF := fun w' => rofF x y w' x0 x1 y0 y1 hy
 generalize (x : Rat) / (y : Rat) = q at *
 clear x0 x1 y0 y1 hy
 go_enter Tryz.func24, Tryz.ntmps24
 go_wp2_with fail
 refine (OF _).mono ?_
 rintro e w1 ⟨vp_, rfl, hvp_, hb1⟩
 have st : Steps _ w1 := hb1
 have B : Below w.heap.size w w1 := belowA st
 have or : Blk w1 (w.heap.size) 27 #[.bool false, .slice none 0 0, .bool false, .slice none 0 0] := Blk.stepsK st
 clear st
 obtain ⟨cr0, cr1, cr2, cr3, fr, lr⟩ := or.s3
 obtain ⟨p_1, p_2, p_3, p_4, p_5, p_6, p_7, p_8, rfl⟩ := hvp_.shape
 have Fp_ := Hid.mk_ hvp_
 clear hvp_
 have zr_1 : w.heap.size < w1.heap.size := or.lt
 have zz1 := B.size
 go_wp2_with fail
 refine bodyPost_ret (by simp [results, Tryz.results24, go_sem, cr0, cr1, cr2, cr3, fr, lr]; rfl) rfl ?_
 exact ⟨_, rfl, Fp_.out.keeps keepsB, belowB⟩
theorem lgiven07 (w : World) : Calls Tryz.prog 27 #[] w fun e w' => ∃ v, e = .returned v ∧ IntsR w' v gvn ∧ Steps w w' := by
 go_enter Tryz.func27, Tryz.ntmps27
 go_wp2_with fail
 go_returns
 have o := Blk.new w 2 #[.int .i64 1, .int .i64 2, .int .i64 3, .int .i64 4, .int .i64 100]
 exact ⟨_, rfl, ⟨_, _, rfl, Nat.le_refl _, fun _ => ⟨w.heap.size, 0, rfl, o.lt, fun t ht => (by
  have h5 : t < 5 := ht
  rcases (show t = 0 ∨ t = 1 ∨ t = 2 ∨ t = 3 ∨ t = 4 by omega) with rfl | rfl | rfl | rfl | rfl
  · exact o.c 0 rfl
  · exact o.c 1 rfl
  · exact o.c 2 rfl
  · exact o.c 3 rfl
  · exact o.c 4 rfl)⟩⟩, belowB⟩
theorem lis (x y : Int) (w : World) {f1 f5 : Bool} {f2 f6 : Option Addr} {f3 f4 f7 f8 : Nat} (hf : FR w (.agg #[.bool f1, .slice f2 f3 f4, .bool f5, .slice f6 f7 f8]) ((x : Rat) / (y : Rat))) (x0 : -9223372036854775808 ≤ x) (x1 : x ≤ 9223372036854775807) (y0 : -9223372036854775808 ≤ y) (y1 : y ≤ 9223372036854775807) (hy : y ≠ 0) :
  Calls Tryz.prog 28 #[.agg #[.bool f1, .slice f2 f3 f4, .bool f5, .slice f6 f7 f8], .int .i64 0, .int .i64 x, .int .i64 y] w fun e w' => e = .returned (.bool true) ∧ Steps w w' := by
 have OF := fun w' => fofQ x y w' x0 x1 y0 y1 hy
 generalize (x : Rat) / (y : Rat) = q at *
 have Ff := Hid.mk_ hf
 clear x0 x1 y0 y1 hy hf
 go_enter Tryz.func28, Tryz.ntmps28
 go_wp2_with fail
 refine (OF _).mono ?_
 rintro e w1 ⟨vp_, rfl, hvp_, hb1⟩
 have st : Steps _ w1 := hb1
 have B : Below w.heap.size w w1 := belowA st
 have kp : Keeps w w1 := Keeps.then_ keepsB st
 have ok : Blk w1 (w.heap.size) 27 #[.bool f1, .slice f2 f3 f4, .bool f5, .slice f6 f7 f8] := Blk.stepsK st
 replace Ff := Hid.mk_ (Ff.out.keeps kp)
 clear kp
 clear st
 obtain ⟨ck0, ck1, ck2, ck3⟩ := ok.r3
 have lk := ok.lt
 obtain ⟨p_1, p_2, p_3, p_4, p_5, p_6, p_7, p_8, rfl⟩ := hvp_.shape
 have Fp_ := Hid.mk_ hvp_
 clear hvp_
 have zk_1 : w.heap.size < w1.heap.size := ok.lt
 have zz1 := B.size
 go_wp2_with fail
 refine (psame (c := 0) (r := q) _ (Ff.out.keeps keepsB) (Fp_.out.keeps keepsB)).mono ?_
 rintro e w2 ⟨rfl, hb2⟩
 have st : Steps _ w2 := hb2
 have sk : Below w1.heap.size w1 w2 := belowA st
 replace B := below_steps B (Nat.le_refl _) sk
 have og : Blk w2 (w1.heap.size) 27 #[.bool p_1, .slice p_2 p_3 p_4, .bool p_5, .slice p_6 p_7 p_8] := Blk.stepsK st
 replace ok := ok.steps sk
 replace Ff := Hid.mk_ (Ff.out.steps sk)
 replace Fp_ := Hid.mk_ (Fp_.out.steps sk)
 clear st sk ck0 ck1 ck2 ck3 lk
 go_wp2_with fail
 go_returns
 exact ⟨rfl, belowB⟩
theorem ints4 {w : World} {g : Nat} {t : TypeId} {x y z u : Int} (h : Blk w g t #[.int .i64 x, .int .i64 y, .int .i64 z, .int .i64 u]) : IntsR w (.slice (some ⟨g, 0, none⟩) 4 4) [x, y, z, u] := by
 refine ⟨_, _, rfl, Nat.le_refl _, fun _ => ⟨g, 0, rfl, h.lt, fun k hk => ?_⟩⟩
 have hk' : k < 4 := hk
 rcases (show k = 0 ∨ k = 1 ∨ k = 2 ∨ k = 3 by omega) with rfl | rfl | rfl | rfl
 · exact h.c 0 rfl
 · exact h.c 1 rfl
 · exact h.c 2 rfl
 · exact h.c 3 rfl
theorem lalive07 (w : World) : Calls Tryz.prog 20 #[] w fun e w' => e = .returned (.bool true) ∧ Steps w w' := by
 have LN : gvn.length = 5 := rfl
 have Ca : ∀ w' v, IntsR w' v gvn → Calls Tryz.prog 10 #[v] w' fun e w2 => ∃ u, e = .returned (.tuple #[u, .int .i64 0]) ∧ FR w2 u (((22 : Int) : Rat) / ((1 : Int) : Rat)) ∧ Steps w' w2 := fun w' v h => by
  have := vMean w' h (by rw [LN]; decide)
  rw [gv_ask, gv_mean] at this
  exact this
 have Ia := fun (w' : World) (f1 f5 : Bool) (f2 f6 : Option Addr) (f3 f4 f7 f8 : Nat) (h : FR w' (.agg #[.bool f1, .slice f2 f3 f4, .bool f5, .slice f6 f7 f8]) _) => lis 22 1 w' h (by decide) (by decide) (by decide) (by decide) (by decide)
 generalize ((22 : Int) : Rat) / ((1 : Int) : Rat) = qa at *
 have Cb : ∀ w' v, IntsR w' v gvn → Calls Tryz.prog 25 #[v] w' fun e w2 => ∃ u, e = .returned (.tuple #[u, .int .i64 0]) ∧ FR w2 u (((3 : Int) : Rat) / ((1 : Int) : Rat)) ∧ Steps w' w2 := fun w' v h => by
  have := vMedian w' h (by rw [LN]; decide) (fun _ => by rw [LN]; decide)
  rw [gv_ask, gv_med] at this
  exact this
 have Ib := fun (w' : World) (f1 f5 : Bool) (f2 f6 : Option Addr) (f3 f4 f7 f8 : Nat) (h : FR w' (.agg #[.bool f1, .slice f2 f3 f4, .bool f5, .slice f6 f7 f8]) _) => lis 3 1 w' h (by decide) (by decide) (by decide) (by decide) (by decide)
 generalize ((3 : Int) : Rat) / ((1 : Int) : Rat) = qb at *
 have Cc : ∀ w' v, IntsR w' v gvn → Calls Tryz.prog 30 #[v] w' fun e w2 => ∃ u, e = .returned (.tuple #[u, .int .i64 0]) ∧ FR w2 u (((1 : Int) : Rat) / ((1 : Int) : Rat)) ∧ Steps w' w2 := fun w' v h => by
  have := vDeviation w' h (by rw [LN]; decide) (fun _ => by rw [LN]; decide)
  rw [gv_ask, gv_dvn] at this
  exact this
 have Ic := fun (w' : World) (f1 f5 : Bool) (f2 f6 : Option Addr) (f3 f4 f7 f8 : Nat) (h : FR w' (.agg #[.bool f1, .slice f2 f3 f4, .bool f5, .slice f6 f7 f8]) _) => lis 1 1 w' h (by decide) (by decide) (by decide) (by decide) (by decide)
 generalize ((1 : Int) : Rat) / ((1 : Int) : Rat) = qc at *
 have Cd : ∀ w' v, IntsR w' v gvn → Calls Tryz.prog 12 #[v] w' fun e w2 => ∃ u, e = .returned (.tuple #[u, .int .i64 0]) ∧ FR w2 u (((1522 : Int) : Rat) / ((1 : Int) : Rat)) ∧ Steps w' w2 := fun w' v h => by
  have := vVariance w' h (by rw [LN]; decide)
  rw [gv_ask, gv_var] at this
  exact this
 have Id := fun (w' : World) (f1 f5 : Bool) (f2 f6 : Option Addr) (f3 f4 f7 f8 : Nat) (h : FR w' (.agg #[.bool f1, .slice f2 f3 f4, .bool f5, .slice f6 f7 f8]) _) => lis 1522 1 w' h (by decide) (by decide) (by decide) (by decide) (by decide)
 generalize ((1522 : Int) : Rat) / ((1 : Int) : Rat) = qd at *
 have Z := fun w' => lof07 3 2 w' (by decide) (by decide) (by decide) (by decide) (by decide)
 have Z4 : ∀ r, some (((3 : Int) : Rat) / ((2 : Int) : Rat)) = some r → sz r 4 := fun r e => by injection e with e; subst e; unfold sz; decide +kernel
 have CC : ∀ w' v k, IntsR w' v gvn → FR w' k (((3 : Int) : Rat) / ((2 : Int) : Rat)) → Calls Tryz.prog 14 #[v, k] w' fun e w2 => ∃ u, e = .returned (.tuple #[u, .int .i64 1, .int .i64 0]) ∧ IntsR w2 u [0, 1, 2, 3] ∧ Steps w' w2 := fun w' v k h hk => by
  have := vClip (o := some (((3 : Int) : Rat) / ((2 : Int) : Rat))) w' h (by rw [LN]; decide) hk Z4
  rw [gv_clip] at this
  exact this
 have CT : ∀ w' v k, IntsR w' v gvn → FR w' k (((3 : Int) : Rat) / ((2 : Int) : Rat)) → Calls Tryz.prog 16 #[v, k] w' fun e w2 => ∃ u, e = .returned (.tuple #[u, .int .i64 0]) ∧ FR w2 u (((5 : Int) : Rat) / ((2 : Int) : Rat)) ∧ Steps w' w2 := fun w' v k h hk => by
  have := vTrimmed (o := some (((3 : Int) : Rat) / ((2 : Int) : Rat))) w' h (by rw [LN]; decide) hk Z4
  rw [gv_clip, show (([0, 1, 2, 3], 1, 0) : List Nat × Nat × Int).1 = [0, 1, 2, 3] from rfl, gv_trim] at this
  exact this
 have It := fun (w' : World) (f1 f5 : Bool) (f2 f6 : Option Addr) (f3 f4 f7 f8 : Nat) (h : FR w' (.agg #[.bool f1, .slice f2 f3 f4, .bool f5, .slice f6 f7 f8]) _) => lis 5 2 w' h (by decide) (by decide) (by decide) (by decide) (by decide)
 generalize ((5 : Int) : Rat) / ((2 : Int) : Rat) = qt at *
 generalize ((3 : Int) : Rat) / ((2 : Int) : Rat) = qk at *
 clear Z4
 have GV := @lgiven07
 rw [show gvn = gvn from rfl] at *
 generalize gvn = gl at *
 go_enter Tryz.func20, Tryz.ntmps20
 go_wp2_with fail
 refine (GV _).mono ?_
 rintro e w1 ⟨vG1_, rfl, hvG1_, hb1⟩
 have st : Steps _ w1 := hb1
 have B : Below w.heap.size w w1 := belowA st
 clear st
 obtain ⟨G1_a, G1_c, rfl⟩ := hvG1_.shape
 rw [LN] at hvG1_ ⊢
 have FG1_ := Hid.mk_ hvG1_
 clear hvG1_
 go_wp2_with fail
 refine (Ca _ _ (FG1_.out.steps belowB)).mono ?_
 rintro e w2 ⟨va_, rfl, hva_, hb2⟩
 have st : Steps _ w2 := hb2
 have sk : Below w1.heap.size w1 w2 := belowA st
 replace B := below_steps B (Nat.le_refl _) sk
 replace FG1_ := Hid.mk_ (FG1_.out.steps sk)
 clear st sk
 obtain ⟨a_1, a_2, a_3, a_4, a_5, a_6, a_7, a_8, rfl⟩ := hva_.shape
 have Fa_ := Hid.mk_ hva_
 clear hva_
 have zz2 := B.size
 go_wp2_with fail
 refine (GV _).mono ?_
 rintro e w3 ⟨vG2_, rfl, hvG2_, hb3⟩
 have st : Steps _ w3 := hb3
 have sk : Below w2.heap.size w2 w3 := belowA st
 replace B := below_steps B (Nat.le_refl _) sk
 have ova : Blk w3 (w2.heap.size) 27 #[.bool a_1, .slice a_2 a_3 a_4, .bool a_5, .slice a_6 a_7 a_8] := Blk.stepsK st
 replace FG1_ := Hid.mk_ (FG1_.out.steps sk)
 replace Fa_ := Hid.mk_ (Fa_.out.steps sk)
 clear st sk
 obtain ⟨G2_a, G2_c, rfl⟩ := hvG2_.shape
 rw [LN] at hvG2_ ⊢
 have FG2_ := Hid.mk_ hvG2_
 clear hvG2_
 go_wp2_with fail
 refine (Cb _ _ (FG2_.out.steps belowB)).mono ?_
 rintro e w4 ⟨vb_, rfl, hvb_, hb4⟩
 have st : Steps _ w4 := hb4
 have sk : Below w3.heap.size w3 w4 := belowA st
 replace B := below_steps B (Nat.le_refl _) sk
 replace ova := ova.steps sk
 replace FG1_ := Hid.mk_ (FG1_.out.steps sk)
 replace Fa_ := Hid.mk_ (Fa_.out.steps sk)
 replace FG2_ := Hid.mk_ (FG2_.out.steps sk)
 clear st sk
 obtain ⟨b_1, b_2, b_3, b_4, b_5, b_6, b_7, b_8, rfl⟩ := hvb_.shape
 have Fb_ := Hid.mk_ hvb_
 clear hvb_
 have zva_4 : w2.heap.size < w4.heap.size := ova.lt
 have zz4 := B.size
 go_wp2_with fail
 refine (GV _).mono ?_
 rintro e w5 ⟨vG3_, rfl, hvG3_, hb5⟩
 have st : Steps _ w5 := hb5
 have sk : Below w4.heap.size w4 w5 := belowA st
 replace B := below_steps B (Nat.le_refl _) sk
 have ovb : Blk w5 (w4.heap.size) 27 #[.bool b_1, .slice b_2 b_3 b_4, .bool b_5, .slice b_6 b_7 b_8] := Blk.stepsK st
 replace ova := ova.steps sk
 replace FG1_ := Hid.mk_ (FG1_.out.steps sk)
 replace Fa_ := Hid.mk_ (Fa_.out.steps sk)
 replace FG2_ := Hid.mk_ (FG2_.out.steps sk)
 replace Fb_ := Hid.mk_ (Fb_.out.steps sk)
 clear st sk
 obtain ⟨G3_a, G3_c, rfl⟩ := hvG3_.shape
 rw [LN] at hvG3_ ⊢
 have FG3_ := Hid.mk_ hvG3_
 clear hvG3_
 go_wp2_with fail
 refine (Cc _ _ (FG3_.out.steps belowB)).mono ?_
 rintro e w6 ⟨vc_, rfl, hvc_, hb6⟩
 have st : Steps _ w6 := hb6
 have sk : Below w5.heap.size w5 w6 := belowA st
 replace B := below_steps B (Nat.le_refl _) sk
 replace ova := ova.steps sk
 replace ovb := ovb.steps sk
 replace FG1_ := Hid.mk_ (FG1_.out.steps sk)
 replace Fa_ := Hid.mk_ (Fa_.out.steps sk)
 replace FG2_ := Hid.mk_ (FG2_.out.steps sk)
 replace Fb_ := Hid.mk_ (Fb_.out.steps sk)
 replace FG3_ := Hid.mk_ (FG3_.out.steps sk)
 clear st sk
 obtain ⟨c_1, c_2, c_3, c_4, c_5, c_6, c_7, c_8, rfl⟩ := hvc_.shape
 have Fc_ := Hid.mk_ hvc_
 clear hvc_
 have zvb_6 : w4.heap.size < w6.heap.size := ovb.lt
 have zz6 := B.size
 go_wp2_with fail
 refine (GV _).mono ?_
 rintro e w7 ⟨vG4_, rfl, hvG4_, hb7⟩
 have st : Steps _ w7 := hb7
 have sk : Below w6.heap.size w6 w7 := belowA st
 replace B := below_steps B (Nat.le_refl _) sk
 have ovc : Blk w7 (w6.heap.size) 27 #[.bool c_1, .slice c_2 c_3 c_4, .bool c_5, .slice c_6 c_7 c_8] := Blk.stepsK st
 replace ova := ova.steps sk
 replace ovb := ovb.steps sk
 replace FG1_ := Hid.mk_ (FG1_.out.steps sk)
 replace Fa_ := Hid.mk_ (Fa_.out.steps sk)
 replace FG2_ := Hid.mk_ (FG2_.out.steps sk)
 replace Fb_ := Hid.mk_ (Fb_.out.steps sk)
 replace FG3_ := Hid.mk_ (FG3_.out.steps sk)
 replace Fc_ := Hid.mk_ (Fc_.out.steps sk)
 clear st sk
 obtain ⟨G4_a, G4_c, rfl⟩ := hvG4_.shape
 rw [LN] at hvG4_ ⊢
 have FG4_ := Hid.mk_ hvG4_
 clear hvG4_
 go_wp2_with fail
 refine (Cd _ _ (FG4_.out.steps belowB)).mono ?_
 rintro e w8 ⟨vd_, rfl, hvd_, hb8⟩
 have st : Steps _ w8 := hb8
 have sk : Below w7.heap.size w7 w8 := belowA st
 replace B := below_steps B (Nat.le_refl _) sk
 replace ova := ova.steps sk
 replace ovb := ovb.steps sk
 replace ovc := ovc.steps sk
 replace FG1_ := Hid.mk_ (FG1_.out.steps sk)
 replace Fa_ := Hid.mk_ (Fa_.out.steps sk)
 replace FG2_ := Hid.mk_ (FG2_.out.steps sk)
 replace Fb_ := Hid.mk_ (Fb_.out.steps sk)
 replace FG3_ := Hid.mk_ (FG3_.out.steps sk)
 replace Fc_ := Hid.mk_ (Fc_.out.steps sk)
 replace FG4_ := Hid.mk_ (FG4_.out.steps sk)
 clear st sk
 obtain ⟨d_1, d_2, d_3, d_4, d_5, d_6, d_7, d_8, rfl⟩ := hvd_.shape
 have Fd_ := Hid.mk_ hvd_
 clear hvd_
 have zvc_8 : w6.heap.size < w8.heap.size := ovc.lt
 have zz8 := B.size
 go_wp2_with fail
 refine (GV _).mono ?_
 rintro e w9 ⟨vG5_, rfl, hvG5_, hb9⟩
 have st : Steps _ w9 := hb9
 have sk : Below w8.heap.size w8 w9 := belowA st
 replace B := below_steps B (Nat.le_refl _) sk
 have ovd : Blk w9 (w8.heap.size) 27 #[.bool d_1, .slice d_2 d_3 d_4, .bool d_5, .slice d_6 d_7 d_8] := Blk.stepsK st
 replace ova := ova.steps sk
 replace ovb := ovb.steps sk
 replace ovc := ovc.steps sk
 replace FG1_ := Hid.mk_ (FG1_.out.steps sk)
 replace Fa_ := Hid.mk_ (Fa_.out.steps sk)
 replace FG2_ := Hid.mk_ (FG2_.out.steps sk)
 replace Fb_ := Hid.mk_ (Fb_.out.steps sk)
 replace FG3_ := Hid.mk_ (FG3_.out.steps sk)
 replace Fc_ := Hid.mk_ (Fc_.out.steps sk)
 replace FG4_ := Hid.mk_ (FG4_.out.steps sk)
 replace Fd_ := Hid.mk_ (Fd_.out.steps sk)
 clear st sk
 obtain ⟨G5_a, G5_c, rfl⟩ := hvG5_.shape
 rw [LN] at hvG5_ ⊢
 have FG5_ := Hid.mk_ hvG5_
 clear hvG5_
 go_wp2_with fail
 refine (Z _).mono ?_
 rintro e w10 ⟨vk1_, rfl, hvk1_, hb10⟩
 have st : Steps _ w10 := hb10
 have sk : Below w9.heap.size w9 w10 := belowA st
 replace B := below_steps B (Nat.le_refl _) sk
 replace ova := ova.steps sk
 replace ovb := ovb.steps sk
 replace ovc := ovc.steps sk
 replace ovd := ovd.steps sk
 replace FG1_ := Hid.mk_ (FG1_.out.steps sk)
 replace Fa_ := Hid.mk_ (Fa_.out.steps sk)
 replace FG2_ := Hid.mk_ (FG2_.out.steps sk)
 replace Fb_ := Hid.mk_ (Fb_.out.steps sk)
 replace FG3_ := Hid.mk_ (FG3_.out.steps sk)
 replace Fc_ := Hid.mk_ (Fc_.out.steps sk)
 replace FG4_ := Hid.mk_ (FG4_.out.steps sk)
 replace Fd_ := Hid.mk_ (Fd_.out.steps sk)
 replace FG5_ := Hid.mk_ (FG5_.out.steps sk)
 clear st sk
 obtain ⟨k1_1, k1_2, k1_3, k1_4, k1_5, k1_6, k1_7, k1_8, rfl⟩ := hvk1_.shape
 have Fk1_ := Hid.mk_ hvk1_
 clear hvk1_
 go_wp2_with fail
 refine (CC _ _ _ (FG5_.out.steps belowB) (Fk1_.out.keeps keepsB)).mono ?_
 rintro e w11 ⟨vu, rfl, hvu, hb11⟩
 have st : Steps _ w11 := hb11
 have sk : Below w10.heap.size w10 w11 := belowA st
 replace B := below_steps B (Nat.le_refl _) sk
 replace ova := ova.steps sk
 replace ovb := ovb.steps sk
 replace ovc := ovc.steps sk
 replace ovd := ovd.steps sk
 replace FG1_ := Hid.mk_ (FG1_.out.steps sk)
 replace Fa_ := Hid.mk_ (Fa_.out.steps sk)
 replace FG2_ := Hid.mk_ (FG2_.out.steps sk)
 replace Fb_ := Hid.mk_ (Fb_.out.steps sk)
 replace FG3_ := Hid.mk_ (FG3_.out.steps sk)
 replace Fc_ := Hid.mk_ (Fc_.out.steps sk)
 replace FG4_ := Hid.mk_ (FG4_.out.steps sk)
 replace Fd_ := Hid.mk_ (Fd_.out.steps sk)
 replace FG5_ := Hid.mk_ (FG5_.out.steps sk)
 replace Fk1_ := Hid.mk_ (Fk1_.out.steps sk)
 clear st sk
 obtain ⟨ua, uc, rfl⟩ := hvu.shape
 have Fu := Hid.mk_ hvu
 clear hvu
 go_wp2_with fail
 refine (GV _).mono ?_
 rintro e w12 ⟨vG6_, rfl, hvG6_, hb12⟩
 have st : Steps _ w12 := hb12
 have sk : Below w11.heap.size w11 w12 := belowA st
 replace B := below_steps B (Nat.le_refl _) sk
 replace ova := ova.steps sk
 replace ovb := ovb.steps sk
 replace ovc := ovc.steps sk
 replace ovd := ovd.steps sk
 replace FG1_ := Hid.mk_ (FG1_.out.steps sk)
 replace Fa_ := Hid.mk_ (Fa_.out.steps sk)
 replace FG2_ := Hid.mk_ (FG2_.out.steps sk)
 replace Fb_ := Hid.mk_ (Fb_.out.steps sk)
 replace FG3_ := Hid.mk_ (FG3_.out.steps sk)
 replace Fc_ := Hid.mk_ (Fc_.out.steps sk)
 replace FG4_ := Hid.mk_ (FG4_.out.steps sk)
 replace Fd_ := Hid.mk_ (Fd_.out.steps sk)
 replace FG5_ := Hid.mk_ (FG5_.out.steps sk)
 replace Fk1_ := Hid.mk_ (Fk1_.out.steps sk)
 replace Fu := Hid.mk_ (Fu.out.steps sk)
 clear st sk
 obtain ⟨G6_a, G6_c, rfl⟩ := hvG6_.shape
 rw [LN] at hvG6_ ⊢
 have FG6_ := Hid.mk_ hvG6_
 clear hvG6_
 go_wp2_with fail
 refine (Z _).mono ?_
 rintro e w13 ⟨vk2_, rfl, hvk2_, hb13⟩
 have st : Steps _ w13 := hb13
 have sk : Below w12.heap.size w12 w13 := belowA st
 replace B := below_steps B (Nat.le_refl _) sk
 replace ova := ova.steps sk
 replace ovb := ovb.steps sk
 replace ovc := ovc.steps sk
 replace ovd := ovd.steps sk
 replace FG1_ := Hid.mk_ (FG1_.out.steps sk)
 replace Fa_ := Hid.mk_ (Fa_.out.steps sk)
 replace FG2_ := Hid.mk_ (FG2_.out.steps sk)
 replace Fb_ := Hid.mk_ (Fb_.out.steps sk)
 replace FG3_ := Hid.mk_ (FG3_.out.steps sk)
 replace Fc_ := Hid.mk_ (Fc_.out.steps sk)
 replace FG4_ := Hid.mk_ (FG4_.out.steps sk)
 replace Fd_ := Hid.mk_ (Fd_.out.steps sk)
 replace FG5_ := Hid.mk_ (FG5_.out.steps sk)
 replace Fk1_ := Hid.mk_ (Fk1_.out.steps sk)
 replace Fu := Hid.mk_ (Fu.out.steps sk)
 replace FG6_ := Hid.mk_ (FG6_.out.steps sk)
 clear st sk
 obtain ⟨k2_1, k2_2, k2_3, k2_4, k2_5, k2_6, k2_7, k2_8, rfl⟩ := hvk2_.shape
 have Fk2_ := Hid.mk_ hvk2_
 clear hvk2_
 go_wp2_with fail
 refine (CT _ _ _ (FG6_.out.steps belowB) (Fk2_.out.keeps keepsB)).mono ?_
 rintro e w14 ⟨vt_, rfl, hvt_, hb14⟩
 have st : Steps _ w14 := hb14
 have sk : Below w13.heap.size w13 w14 := belowA st
 replace B := below_steps B (Nat.le_refl _) sk
 replace ova := ova.steps sk
 replace ovb := ovb.steps sk
 replace ovc := ovc.steps sk
 replace ovd := ovd.steps sk
 replace FG1_ := Hid.mk_ (FG1_.out.steps sk)
 replace Fa_ := Hid.mk_ (Fa_.out.steps sk)
 replace FG2_ := Hid.mk_ (FG2_.out.steps sk)
 replace Fb_ := Hid.mk_ (Fb_.out.steps sk)
 replace FG3_ := Hid.mk_ (FG3_.out.steps sk)
 replace Fc_ := Hid.mk_ (Fc_.out.steps sk)
 replace FG4_ := Hid.mk_ (FG4_.out.steps sk)
 replace Fd_ := Hid.mk_ (Fd_.out.steps sk)
 replace FG5_ := Hid.mk_ (FG5_.out.steps sk)
 replace Fk1_ := Hid.mk_ (Fk1_.out.steps sk)
 replace Fu := Hid.mk_ (Fu.out.steps sk)
 replace FG6_ := Hid.mk_ (FG6_.out.steps sk)
 replace Fk2_ := Hid.mk_ (Fk2_.out.steps sk)
 clear st sk
 obtain ⟨cva0, cva1, cva2, cva3⟩ := ova.r3
 have lva := ova.lt
 obtain ⟨t_1, t_2, t_3, t_4, t_5, t_6, t_7, t_8, rfl⟩ := hvt_.shape
 have Ft_ := Hid.mk_ hvt_
 clear hvt_
 have zvd_14 : w8.heap.size < w14.heap.size := ovd.lt
 have zz14 := B.size
 go_wp2_with fail
 refine (Ia _ _ _ _ _ _ _ _ _ (Fa_.out.keeps keepsB)).mono ?_
 rintro e w15 ⟨rfl, hb15⟩
 have st : Steps _ w15 := hb15
 have sk : Below w14.heap.size w14 w15 := belowA st
 replace B := below_steps B (Nat.le_refl _) sk
 have ovt : Blk w15 (w14.heap.size) 27 #[.bool t_1, .slice t_2 t_3 t_4, .bool t_5, .slice t_6 t_7 t_8] := Blk.stepsK st
 replace ova := ova.steps sk
 replace ovb := ovb.steps sk
 replace ovc := ovc.steps sk
 replace ovd := ovd.steps sk
 replace FG1_ := Hid.mk_ (FG1_.out.steps sk)
 replace Fa_ := Hid.mk_ (Fa_.out.steps sk)
 replace FG2_ := Hid.mk_ (FG2_.out.steps sk)
 replace Fb_ := Hid.mk_ (Fb_.out.steps sk)
 replace FG3_ := Hid.mk_ (FG3_.out.steps sk)
 replace Fc_ := Hid.mk_ (Fc_.out.steps sk)
 replace FG4_ := Hid.mk_ (FG4_.out.steps sk)
 replace Fd_ := Hid.mk_ (Fd_.out.steps sk)
 replace FG5_ := Hid.mk_ (FG5_.out.steps sk)
 replace Fk1_ := Hid.mk_ (Fk1_.out.steps sk)
 replace Fu := Hid.mk_ (Fu.out.steps sk)
 replace FG6_ := Hid.mk_ (FG6_.out.steps sk)
 replace Fk2_ := Hid.mk_ (Fk2_.out.steps sk)
 replace Ft_ := Hid.mk_ (Ft_.out.steps sk)
 clear st sk cva0 cva1 cva2 cva3 lva
 obtain ⟨cvb0, cvb1, cvb2, cvb3⟩ := ovb.r3
 have lvb := ovb.lt
 go_wp2_with fail
 refine (Ib _ _ _ _ _ _ _ _ _ (Fb_.out.keeps keepsB)).mono ?_
 rintro e w16 ⟨rfl, hb16⟩
 have st : Steps _ w16 := hb16
 have sk : Below w15.heap.size w15 w16 := belowA st
 replace B := below_steps B (Nat.le_refl _) sk
 replace ova := ova.steps sk
 replace ovb := ovb.steps sk
 replace ovc := ovc.steps sk
 replace ovd := ovd.steps sk
 replace ovt := ovt.steps sk
 replace FG1_ := Hid.mk_ (FG1_.out.steps sk)
 replace Fa_ := Hid.mk_ (Fa_.out.steps sk)
 replace FG2_ := Hid.mk_ (FG2_.out.steps sk)
 replace Fb_ := Hid.mk_ (Fb_.out.steps sk)
 replace FG3_ := Hid.mk_ (FG3_.out.steps sk)
 replace Fc_ := Hid.mk_ (Fc_.out.steps sk)
 replace FG4_ := Hid.mk_ (FG4_.out.steps sk)
 replace Fd_ := Hid.mk_ (Fd_.out.steps sk)
 replace FG5_ := Hid.mk_ (FG5_.out.steps sk)
 replace Fk1_ := Hid.mk_ (Fk1_.out.steps sk)
 replace Fu := Hid.mk_ (Fu.out.steps sk)
 replace FG6_ := Hid.mk_ (FG6_.out.steps sk)
 replace Fk2_ := Hid.mk_ (Fk2_.out.steps sk)
 replace Ft_ := Hid.mk_ (Ft_.out.steps sk)
 clear st sk cvb0 cvb1 cvb2 cvb3 lvb
 obtain ⟨cvc0, cvc1, cvc2, cvc3⟩ := ovc.r3
 have lvc := ovc.lt
 go_wp2_with fail
 refine (Ic _ _ _ _ _ _ _ _ _ (Fc_.out.keeps keepsB)).mono ?_
 rintro e w17 ⟨rfl, hb17⟩
 have st : Steps _ w17 := hb17
 have sk : Below w16.heap.size w16 w17 := belowA st
 replace B := below_steps B (Nat.le_refl _) sk
 replace ova := ova.steps sk
 replace ovb := ovb.steps sk
 replace ovc := ovc.steps sk
 replace ovd := ovd.steps sk
 replace ovt := ovt.steps sk
 replace FG1_ := Hid.mk_ (FG1_.out.steps sk)
 replace Fa_ := Hid.mk_ (Fa_.out.steps sk)
 replace FG2_ := Hid.mk_ (FG2_.out.steps sk)
 replace Fb_ := Hid.mk_ (Fb_.out.steps sk)
 replace FG3_ := Hid.mk_ (FG3_.out.steps sk)
 replace Fc_ := Hid.mk_ (Fc_.out.steps sk)
 replace FG4_ := Hid.mk_ (FG4_.out.steps sk)
 replace Fd_ := Hid.mk_ (Fd_.out.steps sk)
 replace FG5_ := Hid.mk_ (FG5_.out.steps sk)
 replace Fk1_ := Hid.mk_ (Fk1_.out.steps sk)
 replace Fu := Hid.mk_ (Fu.out.steps sk)
 replace FG6_ := Hid.mk_ (FG6_.out.steps sk)
 replace Fk2_ := Hid.mk_ (Fk2_.out.steps sk)
 replace Ft_ := Hid.mk_ (Ft_.out.steps sk)
 clear st sk cvc0 cvc1 cvc2 cvc3 lvc
 obtain ⟨cvd0, cvd1, cvd2, cvd3⟩ := ovd.r3
 have lvd := ovd.lt
 go_wp2_with fail
 refine (Id _ _ _ _ _ _ _ _ _ (Fd_.out.keeps keepsB)).mono ?_
 rintro e w18 ⟨rfl, hb18⟩
 have st : Steps _ w18 := hb18
 have sk : Below w17.heap.size w17 w18 := belowA st
 replace B := below_steps B (Nat.le_refl _) sk
 replace ova := ova.steps sk
 replace ovb := ovb.steps sk
 replace ovc := ovc.steps sk
 replace ovd := ovd.steps sk
 replace ovt := ovt.steps sk
 replace FG1_ := Hid.mk_ (FG1_.out.steps sk)
 replace Fa_ := Hid.mk_ (Fa_.out.steps sk)
 replace FG2_ := Hid.mk_ (FG2_.out.steps sk)
 replace Fb_ := Hid.mk_ (Fb_.out.steps sk)
 replace FG3_ := Hid.mk_ (FG3_.out.steps sk)
 replace Fc_ := Hid.mk_ (Fc_.out.steps sk)
 replace FG4_ := Hid.mk_ (FG4_.out.steps sk)
 replace Fd_ := Hid.mk_ (Fd_.out.steps sk)
 replace FG5_ := Hid.mk_ (FG5_.out.steps sk)
 replace Fk1_ := Hid.mk_ (Fk1_.out.steps sk)
 replace Fu := Hid.mk_ (Fu.out.steps sk)
 replace FG6_ := Hid.mk_ (FG6_.out.steps sk)
 replace Fk2_ := Hid.mk_ (Fk2_.out.steps sk)
 replace Ft_ := Hid.mk_ (Ft_.out.steps sk)
 clear st sk cvd0 cvd1 cvd2 cvd3 lvd
 have zvt_18 : w14.heap.size < w18.heap.size := ovt.lt
 have zz18 := B.size
 go_wp2_with fail
 refine (rsameInts (l := [0, 1, 2, 3]) _ (Fu.out.steps belowB) (ints4 ownK) (by decide)).mono ?_
 rintro e w19 ⟨rfl, hb19⟩
 have st : Steps _ w19 := hb19
 have sk : Below w18.heap.size w18 w19 := belowA st
 replace B := below_steps B (Nat.le_refl _) sk
 replace ova := ova.steps sk
 replace ovb := ovb.steps sk
 replace ovc := ovc.steps sk
 replace ovd := ovd.steps sk
 replace ovt := ovt.steps sk
 replace FG1_ := Hid.mk_ (FG1_.out.steps sk)
 replace Fa_ := Hid.mk_ (Fa_.out.steps sk)
 replace FG2_ := Hid.mk_ (FG2_.out.steps sk)
 replace Fb_ := Hid.mk_ (Fb_.out.steps sk)
 replace FG3_ := Hid.mk_ (FG3_.out.steps sk)
 replace Fc_ := Hid.mk_ (Fc_.out.steps sk)
 replace FG4_ := Hid.mk_ (FG4_.out.steps sk)
 replace Fd_ := Hid.mk_ (Fd_.out.steps sk)
 replace FG5_ := Hid.mk_ (FG5_.out.steps sk)
 replace Fk1_ := Hid.mk_ (Fk1_.out.steps sk)
 replace Fu := Hid.mk_ (Fu.out.steps sk)
 replace FG6_ := Hid.mk_ (FG6_.out.steps sk)
 replace Fk2_ := Hid.mk_ (Fk2_.out.steps sk)
 replace Ft_ := Hid.mk_ (Ft_.out.steps sk)
 clear st sk
 obtain ⟨cvt0, cvt1, cvt2, cvt3⟩ := ovt.r3
 have lvt := ovt.lt
 go_wp2_with fail
 refine (It _ _ _ _ _ _ _ _ _ (Ft_.out.keeps keepsB)).mono ?_
 rintro e w20 ⟨rfl, hb20⟩
 have st : Steps _ w20 := hb20
 have sk : Below w19.heap.size w19 w20 := belowA st
 replace B := below_steps B (Nat.le_refl _) sk
 replace ova := ova.steps sk
 replace ovb := ovb.steps sk
 replace ovc := ovc.steps sk
 replace ovd := ovd.steps sk
 replace ovt := ovt.steps sk
 replace FG1_ := Hid.mk_ (FG1_.out.steps sk)
 replace Fa_ := Hid.mk_ (Fa_.out.steps sk)
 replace FG2_ := Hid.mk_ (FG2_.out.steps sk)
 replace Fb_ := Hid.mk_ (Fb_.out.steps sk)
 replace FG3_ := Hid.mk_ (FG3_.out.steps sk)
 replace Fc_ := Hid.mk_ (Fc_.out.steps sk)
 replace FG4_ := Hid.mk_ (FG4_.out.steps sk)
 replace Fd_ := Hid.mk_ (Fd_.out.steps sk)
 replace FG5_ := Hid.mk_ (FG5_.out.steps sk)
 replace Fk1_ := Hid.mk_ (Fk1_.out.steps sk)
 replace Fu := Hid.mk_ (Fu.out.steps sk)
 replace FG6_ := Hid.mk_ (FG6_.out.steps sk)
 replace Fk2_ := Hid.mk_ (Fk2_.out.steps sk)
 replace Ft_ := Hid.mk_ (Ft_.out.steps sk)
 clear st sk cvt0 cvt1 cvt2 cvt3 lvt
 go_wp2_with fail
 go_returns
 exact ⟨rfl, belowB⟩
theorem rcmp_fits {va vb : Value} {r s : Rat} (w : World) (ha : FR w va r) (hb : FR w vb s) (g1 : fits (r.num * s.den)) (g2 : fits (s.num * r.den)) :
  Calls Tryz.prog 45 #[va, vb] w fun e w' => e = .returned (.tuple #[.int .i64 (cmpQ r s), .int .i64 0]) ∧ Steps w w' := by
 have fa := ha.fit
 have fb := hb.fit
 have bo := fun (w' : World) (h : Steps w w') => rfboth_q w' (ha.steps h) (hb.steps h)
 obtain ⟨a2, a3, a4, a6, a7, a8, rfl, na, da, -⟩ := ha.nums
 obtain ⟨b2, b3, b4, b6, b7, b8, rfl, nb', db, -⟩ := hb.nums
 have m1 := fun (w' : World) (h : Steps w w') => rmul_fits w' (na.steps h) (db.steps h) fa.1 fb.2 g1
 have m2 := fun (w' : World) (h : Steps w w') => rmul_fits w' (nb'.steps h) (da.steps h) fb.1 fa.2 g2
 have cm : ∀ w' v u, Num w' v (r.num * s.den) → Num w' u (s.num * r.den) → Calls Tryz.prog 82 #[v, u] w' fun e w2 => e = .returned (.int .i64 (cmpQ r s)) ∧ Steps w' w2 := fun w' v u h1 h2 => by
  have := rcompared w' h1 h2 g1 g2
  rw [cmpI_rat] at this
  exact this
 obtain ⟨ga, hga⟩ : ∃ g, decide (r < 0) = g := ⟨_, rfl⟩
 obtain ⟨gb, hgb⟩ : ∃ g, decide (s < 0) = g := ⟨_, rfl⟩
 obtain ⟨c, hc⟩ : ∃ c, cmpQ r s = c := ⟨_, rfl⟩
 rw [hga] at m1 bo ⊢
 rw [hgb] at m2 bo ⊢
 rw [hc] at cm ⊢
 obtain ⟨X, hX⟩ : ∃ X : Int, r.num * s.den = X := ⟨_, rfl⟩
 obtain ⟨Y, hY⟩ : ∃ X : Int, s.num * r.den = X := ⟨_, rfl⟩
 rw [hX] at m1 cm
 rw [hY] at m2 cm
 clear hga hgb hc hX hY na da nb' db g1 g2 fa fb ha hb
 go_enter Tryz.func45, Tryz.ntmps45
 go_wp2_with fail
 refine (bo _ belowB).mono ?_
 rintro e w1 ⟨rfl, hb1⟩
 have st : Steps _ w1 := hb1
 have Bn : Below w.heap.size w w1 := belowA st
 have oa : Blk w1 (w.heap.size) 27 #[.bool ga, .slice a2 a3 a4, .bool false, .slice a6 a7 a8] := Blk.stepsK st
 have ob : Blk w1 (w.heap.size + 1) 27 #[.bool gb, .slice b2 b3 b4, .bool false, .slice b6 b7 b8] := Blk.stepsK st
 clear st
 have B := Bn
 clear Bn
 obtain ⟨ca0, ca1, ca2, ca3, fa, la⟩ := oa.s3
 obtain ⟨cb0, cb1, cb2, cb3, fb, lb⟩ := ob.s3
 clear bo
 go_wp2_with fail
 refine (m1 _ B).mono ?_
 rintro e w2 ⟨vx, rfl, hvx, hb2⟩
 have st : Steps _ w2 := hb2
 have Bn : Below w.heap.size w w2 := belowA st
 have na := oa.stp st
 have nb := ob.stp st
 clear B oa ob ca0 ca1 ca2 ca3 fa la cb0 cb1 cb2 cb3 fb lb
 clear st
 have B := Bn
 clear Bn
 have oa := na
 clear na
 obtain ⟨ca0, ca1, ca2, ca3, fa, la⟩ := oa.s3
 have ob := nb
 clear nb
 obtain ⟨cb0, cb1, cb2, cb3, fb, lb⟩ := ob.s3
 obtain ⟨x1, x2, x3, x4, rfl⟩ := hvx.shape
 have Fx := Hid.mk_ hvx
 clear hvx
 clear m1
 have zx : w.heap.size + 1 < w2.heap.size := ob.lt
 go_wp2_with fail
 refine (m2 _ belowB).mono ?_
 rintro e w3 ⟨vy, rfl, hvy, hb3⟩
 have st : Steps _ w3 := hb3
 have Bn : Below w.heap.size w w3 := belowA st
 have kp : Keeps w2 w3 := Keeps.then_ keepsB st
 have na := oa.stp st
 have nb := ob.stp st
 have ox : Blk w3 (w2.heap.size) 25 #[.bool x1, .slice x2 x3 x4] := Blk.stepsK st
 clear B oa ob ca0 ca1 ca2 ca3 fa la cb0 cb1 cb2 cb3 fb lb
 clear st
 have B := Bn
 clear Bn
 replace Fx := Hid.mk_ (Fx.out.keeps kp)
 clear kp
 have oa := na
 clear na
 obtain ⟨ca0, ca1, ca2, ca3, fa, la⟩ := oa.s3
 have ob := nb
 clear nb
 obtain ⟨cb0, cb1, cb2, cb3, fb, lb⟩ := ob.s3
 obtain ⟨cx0, cx1, fx, lx⟩ := ox.s1
 obtain ⟨y1, y2, y3, y4, rfl⟩ := hvy.shape
 have Fy := Hid.mk_ hvy
 clear hvy
 clear m2
 have zy : w2.heap.size < w3.heap.size := ox.lt
 go_wp2_with fail
 refine (cm _ _ _ (Fx.out.keeps keepsB) (Fy.out.keeps keepsB)).mono ?_
 rintro e w4 ⟨rfl, hb4⟩
 have st : Steps _ w4 := hb4
 have Bn : Below w.heap.size w w4 := belowA st
 have kp : Keeps w3 w4 := Keeps.then_ keepsB st
 have na := oa.stp st
 have nb := ob.stp st
 have nx := ox.stp st
 have oy : Blk w4 (w3.heap.size) 25 #[.bool y1, .slice y2 y3 y4] := Blk.stepsK st
 clear B oa ob ox ca0 ca1 ca2 ca3 fa la cb0 cb1 cb2 cb3 fb lb cx0 cx1 fx lx
 clear st
 have B := Bn
 clear Bn
 replace Fx := Hid.mk_ (Fx.out.keeps kp)
 replace Fy := Hid.mk_ (Fy.out.keeps kp)
 clear kp
 have oa := na
 clear na
 obtain ⟨ca0, ca1, ca2, ca3, fa, la⟩ := oa.s3
 have ob := nb
 clear nb
 obtain ⟨cb0, cb1, cb2, cb3, fb, lb⟩ := ob.s3
 have ox := nx
 clear nx
 obtain ⟨cx0, cx1, fx, lx⟩ := ox.s1
 obtain ⟨cy0, cy1, fy, ly⟩ := oy.s1
 go_wp2
 go_returns
 exact ⟨rfl, belowB⟩
theorem rcmp_over {va vb : Value} {r s : Rat} (w : World) (ha : FR w va r) (hb : FR w vb s) (e1 e2 : Int) (h1 : errN (r.num * s.den) = e1) (h2 : errN (s.num * r.den) = e2) (h : e1 = 16 ∨ (e1 = 0 ∧ e2 = 16)) :
  Calls Tryz.prog 45 #[va, vb] w fun e w' => e = .returned (.tuple #[.int .i64 0, .int .i64 16]) ∧ Steps w w' := by
 have fa := ha.fit
 have fb := hb.fit
 have bo := fun (w' : World) (h : Steps w w') => rfboth_q w' (ha.steps h) (hb.steps h)
 obtain ⟨a2, a3, a4, a6, a7, a8, rfl, na, da, -⟩ := ha.nums
 obtain ⟨b2, b3, b4, b6, b7, b8, rfl, nb', db, -⟩ := hb.nums
 have m1 := fun (w' : World) (h : Steps w w') => nmul w' (na.steps h) (db.steps h) fa.1 fb.2
 have m2 := fun (w' : World) (h : Steps w w') => nmul w' (nb'.steps h) (da.steps h) fb.1 fa.2
 obtain ⟨ga, hga⟩ : ∃ g, decide (r < 0) = g := ⟨_, rfl⟩
 obtain ⟨gb, hgb⟩ : ∃ g, decide (s < 0) = g := ⟨_, rfl⟩
 rw [hga] at m1 bo ⊢
 rw [hgb] at m2 bo ⊢
 obtain ⟨X, hX⟩ : ∃ X : Int, r.num * s.den = X := ⟨_, rfl⟩
 obtain ⟨Y, hY⟩ : ∃ X : Int, s.num * r.den = X := ⟨_, rfl⟩
 rw [hX] at m1 h1
 rw [hY] at m2 h2
 rw [h1] at m1
 rw [h2] at m2
 obtain ⟨X', hX'⟩ : ∃ x, clipN X = x := ⟨_, rfl⟩
 obtain ⟨Y', hY'⟩ : ∃ x, clipN Y = x := ⟨_, rfl⟩
 rw [hX'] at m1
 rw [hY'] at m2
 clear hga hgb hX hY hX' hY' na da nb' db fa fb ha hb h1 h2
 rcases h with rfl | ⟨rfl, rfl⟩
 ·
  go_enter Tryz.func45, Tryz.ntmps45
  go_wp2_with fail
  refine (bo _ belowB).mono ?_
  rintro e w1 ⟨rfl, hb1⟩
  have st : Steps _ w1 := hb1
  have Bn : Below w.heap.size w w1 := belowA st
  have oa : Blk w1 (w.heap.size) 27 #[.bool ga, .slice a2 a3 a4, .bool false, .slice a6 a7 a8] := Blk.stepsK st
  have ob : Blk w1 (w.heap.size + 1) 27 #[.bool gb, .slice b2 b3 b4, .bool false, .slice b6 b7 b8] := Blk.stepsK st
  clear st
  have B := Bn
  clear Bn
  obtain ⟨ca0, ca1, ca2, ca3, fa, la⟩ := oa.s3
  obtain ⟨cb0, cb1, cb2, cb3, fb, lb⟩ := ob.s3
  clear bo
  go_wp2_with fail
  refine (m1 _ B).mono ?_
  rintro e w2 ⟨vx, rfl, hvx, hb2⟩
  have st : Steps _ w2 := hb2
  have Bn : Below w.heap.size w w2 := belowA st
  have na := oa.stp st
  have nb := ob.stp st
  clear B oa ob ca0 ca1 ca2 ca3 fa la cb0 cb1 cb2 cb3 fb lb
  clear st
  have B := Bn
  clear Bn
  have oa := na
  clear na
  obtain ⟨ca0, ca1, ca2, ca3, fa, la⟩ := oa.s3
  have ob := nb
  clear nb
  obtain ⟨cb0, cb1, cb2, cb3, fb, lb⟩ := ob.s3
  obtain ⟨x1, x2, x3, x4, rfl⟩ := hvx.shape
  have Fx := Hid.mk_ hvx
  clear hvx
  clear m1
  have zx : w.heap.size + 1 < w2.heap.size := ob.lt
  go_wp2_with fail
  refine (m2 _ belowB).mono ?_
  rintro e w3 ⟨vy, rfl, hvy, hb3⟩
  have st : Steps _ w3 := hb3
  have Bn : Below w.heap.size w w3 := belowA st
  have kp : Keeps w2 w3 := Keeps.then_ keepsB st
  have na := oa.stp st
  have nb := ob.stp st
  have ox : Blk w3 (w2.heap.size) 25 #[.bool x1, .slice x2 x3 x4] := Blk.stepsK st
  clear B oa ob ca0 ca1 ca2 ca3 fa la cb0 cb1 cb2 cb3 fb lb
  clear st
  have B := Bn
  clear Bn
  replace Fx := Hid.mk_ (Fx.out.keeps kp)
  clear kp
  have oa := na
  clear na
  obtain ⟨ca0, ca1, ca2, ca3, fa, la⟩ := oa.s3
  have ob := nb
  clear nb
  obtain ⟨cb0, cb1, cb2, cb3, fb, lb⟩ := ob.s3
  obtain ⟨cx0, cx1, fx, lx⟩ := ox.s1
  obtain ⟨y1, y2, y3, y4, rfl⟩ := hvy.shape
  have Fy := Hid.mk_ hvy
  clear hvy
  clear m2
  have zy : w2.heap.size < w3.heap.size := ox.lt
  go_wp2_with fail
  go_returns
  exact ⟨rfl, belowB⟩
 ·
  go_enter Tryz.func45, Tryz.ntmps45
  go_wp2_with fail
  refine (bo _ belowB).mono ?_
  rintro e w1 ⟨rfl, hb1⟩
  have st : Steps _ w1 := hb1
  have Bn : Below w.heap.size w w1 := belowA st
  have oa : Blk w1 (w.heap.size) 27 #[.bool ga, .slice a2 a3 a4, .bool false, .slice a6 a7 a8] := Blk.stepsK st
  have ob : Blk w1 (w.heap.size + 1) 27 #[.bool gb, .slice b2 b3 b4, .bool false, .slice b6 b7 b8] := Blk.stepsK st
  clear st
  have B := Bn
  clear Bn
  obtain ⟨ca0, ca1, ca2, ca3, fa, la⟩ := oa.s3
  obtain ⟨cb0, cb1, cb2, cb3, fb, lb⟩ := ob.s3
  clear bo
  go_wp2_with fail
  refine (m1 _ B).mono ?_
  rintro e w2 ⟨vx, rfl, hvx, hb2⟩
  have st : Steps _ w2 := hb2
  have Bn : Below w.heap.size w w2 := belowA st
  have na := oa.stp st
  have nb := ob.stp st
  clear B oa ob ca0 ca1 ca2 ca3 fa la cb0 cb1 cb2 cb3 fb lb
  clear st
  have B := Bn
  clear Bn
  have oa := na
  clear na
  obtain ⟨ca0, ca1, ca2, ca3, fa, la⟩ := oa.s3
  have ob := nb
  clear nb
  obtain ⟨cb0, cb1, cb2, cb3, fb, lb⟩ := ob.s3
  obtain ⟨x1, x2, x3, x4, rfl⟩ := hvx.shape
  have Fx := Hid.mk_ hvx
  clear hvx
  clear m1
  have zx : w.heap.size + 1 < w2.heap.size := ob.lt
  go_wp2_with fail
  refine (m2 _ belowB).mono ?_
  rintro e w3 ⟨vy, rfl, hvy, hb3⟩
  have st : Steps _ w3 := hb3
  have Bn : Below w.heap.size w w3 := belowA st
  have kp : Keeps w2 w3 := Keeps.then_ keepsB st
  have na := oa.stp st
  have nb := ob.stp st
  have ox : Blk w3 (w2.heap.size) 25 #[.bool x1, .slice x2 x3 x4] := Blk.stepsK st
  clear B oa ob ca0 ca1 ca2 ca3 fa la cb0 cb1 cb2 cb3 fb lb
  clear st
  have B := Bn
  clear Bn
  replace Fx := Hid.mk_ (Fx.out.keeps kp)
  clear kp
  have oa := na
  clear na
  obtain ⟨ca0, ca1, ca2, ca3, fa, la⟩ := oa.s3
  have ob := nb
  clear nb
  obtain ⟨cb0, cb1, cb2, cb3, fb, lb⟩ := ob.s3
  obtain ⟨cx0, cx1, fx, lx⟩ := ox.s1
  obtain ⟨y1, y2, y3, y4, rfl⟩ := hvy.shape
  have Fy := Hid.mk_ hvy
  clear hvy
  clear m2
  have zy : w2.heap.size < w3.heap.size := ox.lt
  go_wp2_with fail
  go_returns
  exact ⟨rfl, belowB⟩
theorem rcmpOf {va vb : Value} {o : Option Rat} {s : Rat} (w : World) (ha : FB w va o) (hb : FR w vb s) (hz : ∀ r, o = some r → fits (r.num * s.den) ∧ fits (s.num * r.den)) :
  Calls Tryz.prog 45 #[va, vb] w fun e w' => e = .returned (.tuple #[.int .i64 (cmpO o s).1, .int .i64 (cmpO o s).2]) ∧ Steps w w' := by
 cases o with
 | none => exact rcmp_bad w ha hb
 | some r => exact rcmp_fits w ha hb (hz r rfl).1 (hz r rfl).2
theorem pvfactor_fit {va : Value} {o : Option Rat} (w : World) (ha : FB w va o) (hz1 : ∀ r, o = some r → fits (r.num * (((1 : Int) : Rat)).den) ∧ fits ((((1 : Int) : Rat)).num * r.den)) (hz2 : ∀ r, o = some r → fits (r.num * (((1000 : Int) : Rat)).den) ∧ fits ((((1000 : Int) : Rat)).num * r.den)) :
  Calls Tryz.prog 22 #[va] w fun e w' => e = .returned (.bool (facB o)) ∧ Steps w w' := by
 unfold facB
 have O1 : ∀ w', Calls Tryz.prog 48 #[.int .i64 1] w' fun e w2 => ∃ v, e = .returned v ∧ FR w2 v ((1 : Int) : Rat) ∧ Steps w' w2 := fun w' => pvwhole 1 w' (by decide) (by decide)
 have O2 : ∀ w', Calls Tryz.prog 48 #[.int .i64 1000] w' fun e w2 => ∃ v, e = .returned v ∧ FR w2 v ((1000 : Int) : Rat) ∧ Steps w' w2 := fun w' => pvwhole 1000 w' (by decide) (by decide)
 have C1 : ∀ w' v, Keeps w w' → FR w' v ((1 : Int) : Rat) → Calls Tryz.prog 45 #[va, v] w' fun e w2 => e = .returned (.tuple #[.int .i64 (cmpO o ((1 : Int) : Rat)).1, .int .i64 (cmpO o ((1 : Int) : Rat)).2]) ∧ Steps w' w2 := fun w' v k h => rcmpOf w' (ha.keeps k) h hz1
 have C2 : ∀ w' v, Keeps w w' → FR w' v ((1000 : Int) : Rat) → Calls Tryz.prog 45 #[va, v] w' fun e w2 => e = .returned (.tuple #[.int .i64 (cmpO o ((1000 : Int) : Rat)).1, .int .i64 (cmpO o ((1000 : Int) : Rat)).2]) ∧ Steps w' w2 := fun w' v k h => rcmpOf w' (ha.keeps k) h hz2
 obtain ⟨a1, a2, a3, a4, a5, a6, a7, a8, rfl⟩ := ha.shape
 generalize ((1 : Int) : Rat) = RA_ at *
 generalize ((1000 : Int) : Rat) = RB_ at *
 clear ha hz1 hz2
 cases o with
 | none =>
  simp only [cmpO] at C1 C2
  go_enter Tryz.func22, Tryz.ntmps22
  have kk := Keeps.refl w
  go_wp2_with fail
  go_upto_region 1 with fail
  refine Reg.wp_chain_n (fun N0 D v W => Below w.heap.size w W ∧ Keeps w W ∧ N0 ≤ W.heap.size ∧ Blk W (w.heap.size) 27 #[.bool a1, .slice a2 a3 a4, .bool a5, .slice a6 a7 a8])
   (Reg.inl [1, 2]) (Reg.gv [(1, IsFr), (2, fun z_ => z_ = .tuple #[.int .i64 0, .int .i64 8])]) (gw [(1, GFr (RA_))]) (fun _ => Keeps) (fun _ _ => False) (Reg.pl [(2, [(1, some 9)]), (8, [(1, some 9), (2, some 10)])]) (Reg.pl [])
   (by kernel_rfl) (by kernel_rfl) (by kernel_rfl) (Reg.gvA _) (fun N0 hN0 => ⟨fun v => ?_, fun D v v' W hv hj => ?_, fun D v k j W W' x _ _ _ _ hk hg => gwA hk hg, fun _ _ _ _ h => h.elim, fun ops' Q' hops hQ => ?_⟩)
  · exact ⟨belowB, keepsB, by first | with_reducible exact Nat.le_of_eq hN0.out | (simp only [World.size_drew]; with_reducible exact Nat.le_of_eq hN0.out), ownK⟩
  ·
   obtain ⟨j0, jk, jn, b_k⟩ := hj
   exact ⟨j0, jk, jn, b_k⟩
  have eN := hN0.out
  try simp only [World.size_alloc, World.size_setCell, World.size_drew, World.heap_drewN] at eN
  have i_k : w.heap.size < N0 := by first | omega | (have h := ok.lt; omega)
  have iw : w.heap.size ≤ N0 := by first | omega | (have h := B.size; omega)
  clear hN0 eN
  apply Reg.RP rfl rfl rfl 8 rfl rfl
  ·
   intro D v' W' hc hj hf K hK
   obtain ⟨j0, jk, jn, b_k⟩ := hj
   obtain ⟨c0, c1, c2, c3⟩ := b_k.r3
   go_step
   exact hK.out
  · rfl
  refine Reg.RC_call rfl (tlt rfl) rfl (fun D v' W' hc hj hf K hK => ?_) ?_
  ·
   obtain ⟨j0, jk, jn, b_k⟩ := hj
   clear hf
   go_step
   refine (O1 W').mono ?_
   rintro e W2 ⟨u, rfl, hu, hs⟩
   obtain ⟨p1, p2, p3, p4, p5, p6, p7, p8, rfl⟩ := hu.shape
   exact hK.out _ W2 (Keeps.steps hs) ⟨jst j0 hs, jk.then_ hs, jsz jn hs, b_k.steps hs⟩ hu ⟨_, _, _, _, _, _, _, _, rfl⟩
  rintro _ ⟨p1, p2, p3, p4, p5, p6, p7, p8, rfl⟩
  refine Reg.at33 rfl ?_
  refine Reg.RC_call rfl (tlt rfl) rfl (fun D v' W' hc hj hf K hK => ?_) ?_
  ·
   obtain ⟨j0, jk, jn, b_k⟩ := hj
   have g1 : GFr (RA_) _ W' := (hf (1, some 9) (.head _) rfl).2.2
   have g1 : FR W' _ (RA_) := g1
   clear hf
   go_step
   refine (C1 W' _ (kk.trans jk) g1).mono ?_
   rintro e W2 ⟨rfl, hs⟩
   exact hK.out _ W2 (Keeps.steps hs) ⟨jst j0 hs, jk.then_ hs, jsz jn hs, b_k.steps hs⟩ trivial rfl
  rintro _ rfl
  refine Reg.at33 rfl ?_
  refine Reg.RP0 7 ?_
  refine Reg.RP0 11 ?_
  refine Reg.RP0 12 ?_
  refine Reg.RP0 3 ?_
  refine Reg.RP0 4 ?_
  refine Reg.RC_end (fun Dn v' w1 hd hj hf => ?_)
  obtain ⟨j0, jk, jn, b_k⟩ := hj
  have B := j0
  have ok := b_k
  clear b_k
  replace kk := kk.trans jk
  clear hd hf jk j0
  refine hQ _ _ ?_
  clear hQ hops Q' ops'
  obtain ⟨ck0, ck1, ck2, ck3⟩ := ok.r3
  have lk := ok.lt
  go_wp2_with fail
  have zk_1 : w.heap.size < w1.heap.size := ok.lt
  have zz1 := B.size
  go_upto_region 2 with fail
  refine Reg.wp_chain_n (fun N0 D v W => Below w.heap.size w W ∧ Keeps w1 W ∧ N0 ≤ W.heap.size ∧ Blk W (w.heap.size) 27 #[.bool a1, .slice a2 a3 a4, .bool a5, .slice a6 a7 a8])
   (Reg.inl [1, 2]) (Reg.gv [(1, IsFr), (2, fun z_ => z_ = .tuple #[.int .i64 0, .int .i64 8])]) (gw [(1, GFr (RB_))]) (fun _ => Keeps) (fun _ _ => False) (Reg.pl [(2, [(1, some 15)]), (8, [(1, some 15), (2, some 16)])]) (Reg.pl [])
   (by kernel_rfl) (by kernel_rfl) (by kernel_rfl) (Reg.gvA _) (fun N0 hN0 => ⟨fun v => ?_, fun D v v' W hv hj => ?_, fun D v k j W W' x _ _ _ _ hk hg => gwA hk hg, fun _ _ _ _ h => h.elim, fun ops' Q' hops hQ => ?_⟩)
  · exact ⟨belowB, keepsB, by first | with_reducible exact Nat.le_of_eq hN0.out | (simp only [World.size_drew]; with_reducible exact Nat.le_of_eq hN0.out), ownK⟩
  ·
   obtain ⟨j0, jk, jn, b_k⟩ := hj
   exact ⟨j0, jk, jn, b_k⟩
  have eN := hN0.out
  try simp only [World.size_alloc, World.size_setCell, World.size_drew, World.heap_drewN] at eN
  have i_k : w.heap.size < N0 := by first | omega | (have h := ok.lt; omega)
  have iw : w.heap.size ≤ N0 := by first | omega | (have h := B.size; omega)
  clear ck0 ck1 ck2 ck3 lk
  clear hN0
  apply Reg.RP rfl rfl rfl 14 rfl rfl
  ·
   intro D v' W' hc hj hf K hK
   obtain ⟨j0, jk, jn, b_k⟩ := hj
   obtain ⟨c0, c1, c2, c3⟩ := b_k.r3
   go_step
   exact hK.out
  · rfl
  refine Reg.RC_call rfl (tlt rfl) rfl (fun D v' W' hc hj hf K hK => ?_) ?_
  ·
   obtain ⟨j0, jk, jn, b_k⟩ := hj
   clear hf
   go_step
   refine (O2 W').mono ?_
   rintro e W2 ⟨u, rfl, hu, hs⟩
   obtain ⟨q1, q2, q3, q4, q5, q6, q7, q8, rfl⟩ := hu.shape
   exact hK.out _ W2 (Keeps.steps hs) ⟨jst j0 hs, jk.then_ hs, jsz jn hs, b_k.steps hs⟩ hu ⟨_, _, _, _, _, _, _, _, rfl⟩
  rintro _ ⟨q1, q2, q3, q4, q5, q6, q7, q8, rfl⟩
  refine Reg.at33 rfl ?_
  refine Reg.RC_call rfl (tlt rfl) rfl (fun D v' W' hc hj hf K hK => ?_) ?_
  ·
   obtain ⟨j0, jk, jn, b_k⟩ := hj
   have g1 : GFr (RB_) _ W' := (hf (1, some 15) (.head _) rfl).2.2
   have g1 : FR W' _ (RB_) := g1
   clear hf
   go_step
   refine (C2 W' _ (kk.trans jk) g1).mono ?_
   rintro e W2 ⟨rfl, hs⟩
   exact hK.out _ W2 (Keeps.steps hs) ⟨jst j0 hs, jk.then_ hs, jsz jn hs, b_k.steps hs⟩ trivial rfl
  rintro _ rfl
  refine Reg.at33 rfl ?_
  refine Reg.RP0 13 ?_
  refine Reg.RP0 17 ?_
  refine Reg.RP0 18 ?_
  refine Reg.RP0 5 ?_
  refine Reg.RP0 6 ?_
  refine Reg.RC_end (fun Dn v' w2 hd hj hf => ?_)
  obtain ⟨j0, jk, jn, b_k⟩ := hj
  have B := j0
  have ok := b_k
  clear b_k
  replace kk := kk.trans jk
  clear hd hf jk j0
  refine hQ _ _ ?_
  clear hQ hops Q' ops'
  go_wp2_with fail
  refine bodyPost_ret (by simp [results, Tryz.results22, go_sem, ]; rfl) rfl ?_
  exact ⟨rfl, belowB⟩
 | some r =>
  obtain ⟨x, hx⟩ : ∃ x, cmpQ r RA_ = x := ⟨_, rfl⟩
  obtain ⟨y, hy⟩ : ∃ y, cmpQ r RB_ = y := ⟨_, rfl⟩
  simp only [cmpO, hx, hy] at C1 C2 ⊢
  clear hx hy
  by_cases x0 : 0 ≤ x
  ·
   have dx : decide (0 ≤ x) = true := decide_eq_true x0
   rw [dx, Bool.true_and]
   go_enter Tryz.func22, Tryz.ntmps22
   have kk := Keeps.refl w
   go_wp2_with fail
   go_upto_region 1 with fail
   refine Reg.wp_chain_n (fun N0 D v W => Below w.heap.size w W ∧ Keeps w W ∧ N0 ≤ W.heap.size ∧ Blk W (w.heap.size) 27 #[.bool a1, .slice a2 a3 a4, .bool a5, .slice a6 a7 a8])
    (Reg.inl [1, 2]) (Reg.gv [(1, IsFr), (2, fun z_ => z_ = .tuple #[.int .i64 x, .int .i64 0])]) (gw [(1, GFr (RA_))]) (fun _ => Keeps) (fun _ _ => False) (Reg.pl [(2, [(1, some 9)]), (8, [(1, some 9), (2, some 10)])]) (Reg.pl [])
    (by kernel_rfl) (by kernel_rfl) (by kernel_rfl) (Reg.gvA _) (fun N0 hN0 => ⟨fun v => ?_, fun D v v' W hv hj => ?_, fun D v k j W W' x _ _ _ _ hk hg => gwA hk hg, fun _ _ _ _ h => h.elim, fun ops' Q' hops hQ => ?_⟩)
   · exact ⟨belowB, keepsB, by first | with_reducible exact Nat.le_of_eq hN0.out | (simp only [World.size_drew]; with_reducible exact Nat.le_of_eq hN0.out), ownK⟩
   ·
    obtain ⟨j0, jk, jn, b_k⟩ := hj
    exact ⟨j0, jk, jn, b_k⟩
   have eN := hN0.out
   try simp only [World.size_alloc, World.size_setCell, World.size_drew, World.heap_drewN] at eN
   have i_k : w.heap.size < N0 := by first | omega | (have h := ok.lt; omega)
   have iw : w.heap.size ≤ N0 := by first | omega | (have h := B.size; omega)
   clear hN0 eN
   apply Reg.RP rfl rfl rfl 8 rfl rfl
   ·
    intro D v' W' hc hj hf K hK
    obtain ⟨j0, jk, jn, b_k⟩ := hj
    obtain ⟨c0, c1, c2, c3⟩ := b_k.r3
    go_step
    exact hK.out
   · rfl
   refine Reg.RC_call rfl (tlt rfl) rfl (fun D v' W' hc hj hf K hK => ?_) ?_
   ·
    obtain ⟨j0, jk, jn, b_k⟩ := hj
    clear hf
    go_step
    refine (O1 W').mono ?_
    rintro e W2 ⟨u, rfl, hu, hs⟩
    obtain ⟨p1, p2, p3, p4, p5, p6, p7, p8, rfl⟩ := hu.shape
    exact hK.out _ W2 (Keeps.steps hs) ⟨jst j0 hs, jk.then_ hs, jsz jn hs, b_k.steps hs⟩ hu ⟨_, _, _, _, _, _, _, _, rfl⟩
   rintro _ ⟨p1, p2, p3, p4, p5, p6, p7, p8, rfl⟩
   refine Reg.at33 rfl ?_
   refine Reg.RC_call rfl (tlt rfl) rfl (fun D v' W' hc hj hf K hK => ?_) ?_
   ·
    obtain ⟨j0, jk, jn, b_k⟩ := hj
    have g1 : GFr (RA_) _ W' := (hf (1, some 9) (.head _) rfl).2.2
    have g1 : FR W' _ (RA_) := g1
    clear hf
    go_step
    refine (C1 W' _ (kk.trans jk) g1).mono ?_
    rintro e W2 ⟨rfl, hs⟩
    exact hK.out _ W2 (Keeps.steps hs) ⟨jst j0 hs, jk.then_ hs, jsz jn hs, b_k.steps hs⟩ trivial rfl
   rintro _ rfl
   refine Reg.at33 rfl ?_
   refine Reg.RP0 7 ?_
   refine Reg.RP0 11 ?_
   refine Reg.RP0 12 ?_
   refine Reg.RP0 3 ?_
   refine Reg.RP0 4 ?_
   refine Reg.RC_end (fun Dn v' w1 hd hj hf => ?_)
   obtain ⟨j0, jk, jn, b_k⟩ := hj
   have B := j0
   have ok := b_k
   clear b_k
   replace kk := kk.trans jk
   clear hd hf jk j0
   refine hQ _ _ ?_
   clear hQ hops Q' ops'
   obtain ⟨ck0, ck1, ck2, ck3⟩ := ok.r3
   have lk := ok.lt
   go_wp2_with fail
   have zk_1 : w.heap.size < w1.heap.size := ok.lt
   have zz1 := B.size
   go_upto_region 2 with fail
   refine Reg.wp_chain_n (fun N0 D v W => Below w.heap.size w W ∧ Keeps w1 W ∧ N0 ≤ W.heap.size ∧ Blk W (w.heap.size) 27 #[.bool a1, .slice a2 a3 a4, .bool a5, .slice a6 a7 a8])
    (Reg.inl [1, 2]) (Reg.gv [(1, IsFr), (2, fun z_ => z_ = .tuple #[.int .i64 y, .int .i64 0])]) (gw [(1, GFr (RB_))]) (fun _ => Keeps) (fun _ _ => False) (Reg.pl [(2, [(1, some 15)]), (8, [(1, some 15), (2, some 16)])]) (Reg.pl [])
    (by kernel_rfl) (by kernel_rfl) (by kernel_rfl) (Reg.gvA _) (fun N0 hN0 => ⟨fun v => ?_, fun D v v' W hv hj => ?_, fun D v k j W W' x _ _ _ _ hk hg => gwA hk hg, fun _ _ _ _ h => h.elim, fun ops' Q' hops hQ => ?_⟩)
   · exact ⟨belowB, keepsB, by first | with_reducible exact Nat.le_of_eq hN0.out | (simp only [World.size_drew]; with_reducible exact Nat.le_of_eq hN0.out), ownK⟩
   ·
    obtain ⟨j0, jk, jn, b_k⟩ := hj
    exact ⟨j0, jk, jn, b_k⟩
   have eN := hN0.out
   try simp only [World.size_alloc, World.size_setCell, World.size_drew, World.heap_drewN] at eN
   have i_k : w.heap.size < N0 := by first | omega | (have h := ok.lt; omega)
   have iw : w.heap.size ≤ N0 := by first | omega | (have h := B.size; omega)
   clear ck0 ck1 ck2 ck3 lk
   clear hN0
   apply Reg.RP rfl rfl rfl 14 rfl rfl
   ·
    intro D v' W' hc hj hf K hK
    obtain ⟨j0, jk, jn, b_k⟩ := hj
    obtain ⟨c0, c1, c2, c3⟩ := b_k.r3
    go_step
    exact hK.out
   · rfl
   refine Reg.RC_call rfl (tlt rfl) rfl (fun D v' W' hc hj hf K hK => ?_) ?_
   ·
    obtain ⟨j0, jk, jn, b_k⟩ := hj
    clear hf
    go_step
    refine (O2 W').mono ?_
    rintro e W2 ⟨u, rfl, hu, hs⟩
    obtain ⟨q1, q2, q3, q4, q5, q6, q7, q8, rfl⟩ := hu.shape
    exact hK.out _ W2 (Keeps.steps hs) ⟨jst j0 hs, jk.then_ hs, jsz jn hs, b_k.steps hs⟩ hu ⟨_, _, _, _, _, _, _, _, rfl⟩
   rintro _ ⟨q1, q2, q3, q4, q5, q6, q7, q8, rfl⟩
   refine Reg.at33 rfl ?_
   refine Reg.RC_call rfl (tlt rfl) rfl (fun D v' W' hc hj hf K hK => ?_) ?_
   ·
    obtain ⟨j0, jk, jn, b_k⟩ := hj
    have g1 : GFr (RB_) _ W' := (hf (1, some 15) (.head _) rfl).2.2
    have g1 : FR W' _ (RB_) := g1
    clear hf
    go_step
    refine (C2 W' _ (kk.trans jk) g1).mono ?_
    rintro e W2 ⟨rfl, hs⟩
    exact hK.out _ W2 (Keeps.steps hs) ⟨jst j0 hs, jk.then_ hs, jsz jn hs, b_k.steps hs⟩ trivial rfl
   rintro _ rfl
   refine Reg.at33 rfl ?_
   refine Reg.RP0 13 ?_
   refine Reg.RP0 17 ?_
   refine Reg.RP0 18 ?_
   refine Reg.RP0 5 ?_
   refine Reg.RP0 6 ?_
   refine Reg.RC_end (fun Dn v' w2 hd hj hf => ?_)
   obtain ⟨j0, jk, jn, b_k⟩ := hj
   have B := j0
   have ok := b_k
   clear b_k
   replace kk := kk.trans jk
   clear hd hf jk j0
   refine hQ _ _ ?_
   clear hQ hops Q' ops'
   go_wp2_with fail
   refine bodyPost_ret (by simp [results, Tryz.results22, go_sem, ]; rfl) rfl ?_
   exact ⟨rfl, belowB⟩
  ·
   have dx : decide (0 ≤ x) = false := decide_eq_false x0
   rw [dx, Bool.false_and]
   go_enter Tryz.func22, Tryz.ntmps22
   have kk := Keeps.refl w
   go_wp2_with fail
   go_upto_region 1 with fail
   refine Reg.wp_chain_n (fun N0 D v W => Below w.heap.size w W ∧ Keeps w W ∧ N0 ≤ W.heap.size ∧ Blk W (w.heap.size) 27 #[.bool a1, .slice a2 a3 a4, .bool a5, .slice a6 a7 a8])
    (Reg.inl [1, 2]) (Reg.gv [(1, IsFr), (2, fun z_ => z_ = .tuple #[.int .i64 x, .int .i64 0])]) (gw [(1, GFr (RA_))]) (fun _ => Keeps) (fun _ _ => False) (Reg.pl [(2, [(1, some 9)]), (8, [(1, some 9), (2, some 10)])]) (Reg.pl [])
    (by kernel_rfl) (by kernel_rfl) (by kernel_rfl) (Reg.gvA _) (fun N0 hN0 => ⟨fun v => ?_, fun D v v' W hv hj => ?_, fun D v k j W W' x _ _ _ _ hk hg => gwA hk hg, fun _ _ _ _ h => h.elim, fun ops' Q' hops hQ => ?_⟩)
   · exact ⟨belowB, keepsB, by first | with_reducible exact Nat.le_of_eq hN0.out | (simp only [World.size_drew]; with_reducible exact Nat.le_of_eq hN0.out), ownK⟩
   ·
    obtain ⟨j0, jk, jn, b_k⟩ := hj
    exact ⟨j0, jk, jn, b_k⟩
   have eN := hN0.out
   try simp only [World.size_alloc, World.size_setCell, World.size_drew, World.heap_drewN] at eN
   have i_k : w.heap.size < N0 := by first | omega | (have h := ok.lt; omega)
   have iw : w.heap.size ≤ N0 := by first | omega | (have h := B.size; omega)
   clear hN0 eN
   apply Reg.RP rfl rfl rfl 8 rfl rfl
   ·
    intro D v' W' hc hj hf K hK
    obtain ⟨j0, jk, jn, b_k⟩ := hj
    obtain ⟨c0, c1, c2, c3⟩ := b_k.r3
    go_step
    exact hK.out
   · rfl
   refine Reg.RC_call rfl (tlt rfl) rfl (fun D v' W' hc hj hf K hK => ?_) ?_
   ·
    obtain ⟨j0, jk, jn, b_k⟩ := hj
    clear hf
    go_step
    refine (O1 W').mono ?_
    rintro e W2 ⟨u, rfl, hu, hs⟩
    obtain ⟨p1, p2, p3, p4, p5, p6, p7, p8, rfl⟩ := hu.shape
    exact hK.out _ W2 (Keeps.steps hs) ⟨jst j0 hs, jk.then_ hs, jsz jn hs, b_k.steps hs⟩ hu ⟨_, _, _, _, _, _, _, _, rfl⟩
   rintro _ ⟨p1, p2, p3, p4, p5, p6, p7, p8, rfl⟩
   refine Reg.at33 rfl ?_
   refine Reg.RC_call rfl (tlt rfl) rfl (fun D v' W' hc hj hf K hK => ?_) ?_
   ·
    obtain ⟨j0, jk, jn, b_k⟩ := hj
    have g1 : GFr (RA_) _ W' := (hf (1, some 9) (.head _) rfl).2.2
    have g1 : FR W' _ (RA_) := g1
    clear hf
    go_step
    refine (C1 W' _ (kk.trans jk) g1).mono ?_
    rintro e W2 ⟨rfl, hs⟩
    exact hK.out _ W2 (Keeps.steps hs) ⟨jst j0 hs, jk.then_ hs, jsz jn hs, b_k.steps hs⟩ trivial rfl
   rintro _ rfl
   refine Reg.at33 rfl ?_
   refine Reg.RP0 7 ?_
   refine Reg.RP0 11 ?_
   refine Reg.RP0 12 ?_
   refine Reg.RP0 3 ?_
   refine Reg.RP0 4 ?_
   refine Reg.RC_end (fun Dn v' w1 hd hj hf => ?_)
   obtain ⟨j0, jk, jn, b_k⟩ := hj
   have B := j0
   have ok := b_k
   clear b_k
   replace kk := kk.trans jk
   clear hd hf jk j0
   refine hQ _ _ ?_
   clear hQ hops Q' ops'
   obtain ⟨ck0, ck1, ck2, ck3⟩ := ok.r3
   have lk := ok.lt
   go_wp2_with fail
   have zk_1 : w.heap.size < w1.heap.size := ok.lt
   have zz1 := B.size
   go_upto_region 2 with fail
   refine Reg.wp_chain_n (fun N0 D v W => Below w.heap.size w W ∧ Keeps w1 W ∧ N0 ≤ W.heap.size ∧ Blk W (w.heap.size) 27 #[.bool a1, .slice a2 a3 a4, .bool a5, .slice a6 a7 a8])
    (Reg.inl [1, 2]) (Reg.gv [(1, IsFr), (2, fun z_ => z_ = .tuple #[.int .i64 y, .int .i64 0])]) (gw [(1, GFr (RB_))]) (fun _ => Keeps) (fun _ _ => False) (Reg.pl [(2, [(1, some 15)]), (8, [(1, some 15), (2, some 16)])]) (Reg.pl [])
    (by kernel_rfl) (by kernel_rfl) (by kernel_rfl) (Reg.gvA _) (fun N0 hN0 => ⟨fun v => ?_, fun D v v' W hv hj => ?_, fun D v k j W W' x _ _ _ _ hk hg => gwA hk hg, fun _ _ _ _ h => h.elim, fun ops' Q' hops hQ => ?_⟩)
   · exact ⟨belowB, keepsB, by first | with_reducible exact Nat.le_of_eq hN0.out | (simp only [World.size_drew]; with_reducible exact Nat.le_of_eq hN0.out), ownK⟩
   ·
    obtain ⟨j0, jk, jn, b_k⟩ := hj
    exact ⟨j0, jk, jn, b_k⟩
   have eN := hN0.out
   try simp only [World.size_alloc, World.size_setCell, World.size_drew, World.heap_drewN] at eN
   have i_k : w.heap.size < N0 := by first | omega | (have h := ok.lt; omega)
   have iw : w.heap.size ≤ N0 := by first | omega | (have h := B.size; omega)
   clear ck0 ck1 ck2 ck3 lk
   clear hN0
   apply Reg.RP rfl rfl rfl 14 rfl rfl
   ·
    intro D v' W' hc hj hf K hK
    obtain ⟨j0, jk, jn, b_k⟩ := hj
    obtain ⟨c0, c1, c2, c3⟩ := b_k.r3
    go_step
    exact hK.out
   · rfl
   refine Reg.RC_call rfl (tlt rfl) rfl (fun D v' W' hc hj hf K hK => ?_) ?_
   ·
    obtain ⟨j0, jk, jn, b_k⟩ := hj
    clear hf
    go_step
    refine (O2 W').mono ?_
    rintro e W2 ⟨u, rfl, hu, hs⟩
    obtain ⟨q1, q2, q3, q4, q5, q6, q7, q8, rfl⟩ := hu.shape
    exact hK.out _ W2 (Keeps.steps hs) ⟨jst j0 hs, jk.then_ hs, jsz jn hs, b_k.steps hs⟩ hu ⟨_, _, _, _, _, _, _, _, rfl⟩
   rintro _ ⟨q1, q2, q3, q4, q5, q6, q7, q8, rfl⟩
   refine Reg.at33 rfl ?_
   refine Reg.RC_call rfl (tlt rfl) rfl (fun D v' W' hc hj hf K hK => ?_) ?_
   ·
    obtain ⟨j0, jk, jn, b_k⟩ := hj
    have g1 : GFr (RB_) _ W' := (hf (1, some 15) (.head _) rfl).2.2
    have g1 : FR W' _ (RB_) := g1
    clear hf
    go_step
    refine (C2 W' _ (kk.trans jk) g1).mono ?_
    rintro e W2 ⟨rfl, hs⟩
    exact hK.out _ W2 (Keeps.steps hs) ⟨jst j0 hs, jk.then_ hs, jsz jn hs, b_k.steps hs⟩ trivial rfl
   rintro _ rfl
   refine Reg.at33 rfl ?_
   refine Reg.RP0 13 ?_
   refine Reg.RP0 17 ?_
   refine Reg.RP0 18 ?_
   refine Reg.RP0 5 ?_
   refine Reg.RP0 6 ?_
   refine Reg.RC_end (fun Dn v' w2 hd hj hf => ?_)
   obtain ⟨j0, jk, jn, b_k⟩ := hj
   have B := j0
   have ok := b_k
   clear b_k
   replace kk := kk.trans jk
   clear hd hf jk j0
   refine hQ _ _ ?_
   clear hQ hops Q' ops'
   go_wp2_with fail
   refine bodyPost_ret (by simp [results, Tryz.results22, go_sem, ]; rfl) rfl ?_
   exact ⟨rfl, belowB⟩
theorem pvfactor_over {va : Value} {r : Rat} (w : World) (ha : FR w va r) (hz1 : fits (r.num * (((1 : Int) : Rat)).den) ∧ fits ((((1 : Int) : Rat)).num * r.den)) (hz2 : ¬ (fits (r.num * (((1000 : Int) : Rat)).den) ∧ fits ((((1000 : Int) : Rat)).num * r.den))) :
  Calls Tryz.prog 22 #[va] w fun e w' => e = .returned (.bool false) ∧ Steps w w' := by
 have O1 : ∀ w', Calls Tryz.prog 48 #[.int .i64 1] w' fun e w2 => ∃ v, e = .returned v ∧ FR w2 v ((1 : Int) : Rat) ∧ Steps w' w2 := fun w' => pvwhole 1 w' (by decide) (by decide)
 have O2 : ∀ w', Calls Tryz.prog 48 #[.int .i64 1000] w' fun e w2 => ∃ v, e = .returned v ∧ FR w2 v ((1000 : Int) : Rat) ∧ Steps w' w2 := fun w' => pvwhole 1000 w' (by decide) (by decide)
 have C1 : ∀ w' v, Keeps w w' → FR w' v ((1 : Int) : Rat) → Calls Tryz.prog 45 #[va, v] w' fun e w2 => e = .returned (.tuple #[.int .i64 (cmpQ r ((1 : Int) : Rat)), .int .i64 0]) ∧ Steps w' w2 := fun w' v k h => rcmp_fits w' (ha.keeps k) h hz1.1 hz1.2
 have C2 : ∀ w' v, Keeps w w' → FR w' v ((1000 : Int) : Rat) → Calls Tryz.prog 45 #[va, v] w' fun e w2 => e = .returned (.tuple #[.int .i64 0, .int .i64 16]) ∧ Steps w' w2 := fun w' v k h => by
  refine rcmp_over w' (ha.keeps k) h _ _ rfl rfl ?_
  unfold errN
  by_cases f1 : fits (r.num * (((1000 : Int) : Rat)).den)
  ·
   rw [if_pos f1, if_neg (fun f2 => hz2 ⟨f1, f2⟩)]
   exact .inr ⟨rfl, rfl⟩
  ·
   rw [if_neg f1]
   exact .inl rfl
 obtain ⟨a1, a2, a3, a4, a5, a6, a7, a8, rfl⟩ := ha.shape
 obtain ⟨x, hx⟩ : ∃ x, cmpQ r ((1 : Int) : Rat) = x := ⟨_, rfl⟩
 rw [hx] at C1
 generalize ((1 : Int) : Rat) = RA_ at *
 generalize ((1000 : Int) : Rat) = RB_ at *
 clear ha hz1 hz2 hx
 go_enter Tryz.func22, Tryz.ntmps22
 have kk := Keeps.refl w
 go_wp2_with fail
 go_upto_region 1 with fail
 refine Reg.wp_chain_n (fun N0 D v W => Below w.heap.size w W ∧ Keeps w W ∧ N0 ≤ W.heap.size ∧ Blk W (w.heap.size) 27 #[.bool a1, .slice a2 a3 a4, .bool a5, .slice a6 a7 a8])
  (Reg.inl [1, 2]) (Reg.gv [(1, IsFr), (2, fun z_ => z_ = .tuple #[.int .i64 x, .int .i64 0])]) (gw [(1, GFr (RA_))]) (fun _ => Keeps) (fun _ _ => False) (Reg.pl [(2, [(1, some 9)]), (8, [(1, some 9), (2, some 10)])]) (Reg.pl [])
  (by kernel_rfl) (by kernel_rfl) (by kernel_rfl) (Reg.gvA _) (fun N0 hN0 => ⟨fun v => ?_, fun D v v' W hv hj => ?_, fun D v k j W W' x _ _ _ _ hk hg => gwA hk hg, fun _ _ _ _ h => h.elim, fun ops' Q' hops hQ => ?_⟩)
 · exact ⟨belowB, keepsB, by first | with_reducible exact Nat.le_of_eq hN0.out | (simp only [World.size_drew]; with_reducible exact Nat.le_of_eq hN0.out), ownK⟩
 ·
  obtain ⟨j0, jk, jn, b_k⟩ := hj
  exact ⟨j0, jk, jn, b_k⟩
 have eN := hN0.out
 try simp only [World.size_alloc, World.size_setCell, World.size_drew, World.heap_drewN] at eN
 have i_k : w.heap.size < N0 := by first | omega | (have h := ok.lt; omega)
 have iw : w.heap.size ≤ N0 := by first | omega | (have h := B.size; omega)
 clear hN0 eN
 apply Reg.RP rfl rfl rfl 8 rfl rfl
 ·
  intro D v' W' hc hj hf K hK
  obtain ⟨j0, jk, jn, b_k⟩ := hj
  obtain ⟨c0, c1, c2, c3⟩ := b_k.r3
  go_step
  exact hK.out
 · rfl
 refine Reg.RC_call rfl (tlt rfl) rfl (fun D v' W' hc hj hf K hK => ?_) ?_
 ·
  obtain ⟨j0, jk, jn, b_k⟩ := hj
  clear hf
  go_step
  refine (O1 W').mono ?_
  rintro e W2 ⟨u, rfl, hu, hs⟩
  obtain ⟨p1, p2, p3, p4, p5, p6, p7, p8, rfl⟩ := hu.shape
  exact hK.out _ W2 (Keeps.steps hs) ⟨jst j0 hs, jk.then_ hs, jsz jn hs, b_k.steps hs⟩ hu ⟨_, _, _, _, _, _, _, _, rfl⟩
 rintro _ ⟨p1, p2, p3, p4, p5, p6, p7, p8, rfl⟩
 refine Reg.at33 rfl ?_
 refine Reg.RC_call rfl (tlt rfl) rfl (fun D v' W' hc hj hf K hK => ?_) ?_
 ·
  obtain ⟨j0, jk, jn, b_k⟩ := hj
  have g1 : GFr (RA_) _ W' := (hf (1, some 9) (.head _) rfl).2.2
  have g1 : FR W' _ (RA_) := g1
  clear hf
  go_step
  refine (C1 W' _ (kk.trans jk) g1).mono ?_
  rintro e W2 ⟨rfl, hs⟩
  exact hK.out _ W2 (Keeps.steps hs) ⟨jst j0 hs, jk.then_ hs, jsz jn hs, b_k.steps hs⟩ trivial rfl
 rintro _ rfl
 refine Reg.at33 rfl ?_
 refine Reg.RP0 7 ?_
 refine Reg.RP0 11 ?_
 refine Reg.RP0 12 ?_
 refine Reg.RP0 3 ?_
 refine Reg.RP0 4 ?_
 refine Reg.RC_end (fun Dn v' w1 hd hj hf => ?_)
 obtain ⟨j0, jk, jn, b_k⟩ := hj
 have B := j0
 have ok := b_k
 clear b_k
 replace kk := kk.trans jk
 clear hd hf jk j0
 refine hQ _ _ ?_
 clear hQ hops Q' ops'
 obtain ⟨ck0, ck1, ck2, ck3⟩ := ok.r3
 have lk := ok.lt
 go_wp2_with fail
 have zk_1 : w.heap.size < w1.heap.size := ok.lt
 have zz1 := B.size
 go_upto_region 2 with fail
 refine Reg.wp_chain_n (fun N0 D v W => Below w.heap.size w W ∧ Keeps w1 W ∧ N0 ≤ W.heap.size ∧ Blk W (w.heap.size) 27 #[.bool a1, .slice a2 a3 a4, .bool a5, .slice a6 a7 a8])
  (Reg.inl [1, 2]) (Reg.gv [(1, IsFr), (2, fun z_ => z_ = .tuple #[.int .i64 0, .int .i64 16])]) (gw [(1, GFr (RB_))]) (fun _ => Keeps) (fun _ _ => False) (Reg.pl [(2, [(1, some 15)]), (8, [(1, some 15), (2, some 16)])]) (Reg.pl [])
  (by kernel_rfl) (by kernel_rfl) (by kernel_rfl) (Reg.gvA _) (fun N0 hN0 => ⟨fun v => ?_, fun D v v' W hv hj => ?_, fun D v k j W W' x _ _ _ _ hk hg => gwA hk hg, fun _ _ _ _ h => h.elim, fun ops' Q' hops hQ => ?_⟩)
 · exact ⟨belowB, keepsB, by first | with_reducible exact Nat.le_of_eq hN0.out | (simp only [World.size_drew]; with_reducible exact Nat.le_of_eq hN0.out), ownK⟩
 ·
  obtain ⟨j0, jk, jn, b_k⟩ := hj
  exact ⟨j0, jk, jn, b_k⟩
 have eN := hN0.out
 try simp only [World.size_alloc, World.size_setCell, World.size_drew, World.heap_drewN] at eN
 have i_k : w.heap.size < N0 := by first | omega | (have h := ok.lt; omega)
 have iw : w.heap.size ≤ N0 := by first | omega | (have h := B.size; omega)
 clear ck0 ck1 ck2 ck3 lk
 clear hN0
 apply Reg.RP rfl rfl rfl 14 rfl rfl
 ·
  intro D v' W' hc hj hf K hK
  obtain ⟨j0, jk, jn, b_k⟩ := hj
  obtain ⟨c0, c1, c2, c3⟩ := b_k.r3
  go_step
  exact hK.out
 · rfl
 refine Reg.RC_call rfl (tlt rfl) rfl (fun D v' W' hc hj hf K hK => ?_) ?_
 ·
  obtain ⟨j0, jk, jn, b_k⟩ := hj
  clear hf
  go_step
  refine (O2 W').mono ?_
  rintro e W2 ⟨u, rfl, hu, hs⟩
  obtain ⟨q1, q2, q3, q4, q5, q6, q7, q8, rfl⟩ := hu.shape
  exact hK.out _ W2 (Keeps.steps hs) ⟨jst j0 hs, jk.then_ hs, jsz jn hs, b_k.steps hs⟩ hu ⟨_, _, _, _, _, _, _, _, rfl⟩
 rintro _ ⟨q1, q2, q3, q4, q5, q6, q7, q8, rfl⟩
 refine Reg.at33 rfl ?_
 refine Reg.RC_call rfl (tlt rfl) rfl (fun D v' W' hc hj hf K hK => ?_) ?_
 ·
  obtain ⟨j0, jk, jn, b_k⟩ := hj
  have g1 : GFr (RB_) _ W' := (hf (1, some 15) (.head _) rfl).2.2
  have g1 : FR W' _ (RB_) := g1
  clear hf
  go_step
  refine (C2 W' _ (kk.trans jk) g1).mono ?_
  rintro e W2 ⟨rfl, hs⟩
  exact hK.out _ W2 (Keeps.steps hs) ⟨jst j0 hs, jk.then_ hs, jsz jn hs, b_k.steps hs⟩ trivial rfl
 rintro _ rfl
 refine Reg.at33 rfl ?_
 refine Reg.RP0 13 ?_
 refine Reg.RP0 17 ?_
 refine Reg.RP0 18 ?_
 refine Reg.RP0 5 ?_
 refine Reg.RP0 6 ?_
 refine Reg.RC_end (fun Dn v' w2 hd hj hf => ?_)
 obtain ⟨j0, jk, jn, b_k⟩ := hj
 have B := j0
 have ok := b_k
 clear b_k
 replace kk := kk.trans jk
 clear hd hf jk j0
 refine hQ _ _ ?_
 clear hQ hops Q' ops'
 go_wp2_with fail
 refine bodyPost_ret (by simp [results, Tryz.results22, go_sem, ]; rfl) rfl ?_
 exact ⟨rfl, belowB⟩
theorem one_numden : (((1 : Int) : Rat)).num = 1 ∧ (((1 : Int) : Rat)).den = 1 := ⟨rfl, rfl⟩
theorem pvfactor_any {va : Value} {o : Option Rat} (w : World) (ha : FB w va o) : Calls Tryz.prog 22 #[va] w fun e w' => ∃ b, e = .returned (.bool b) ∧ Steps w w' := by
 have hz1 : ∀ r, FR w va r → fits (r.num * (((1 : Int) : Rat)).den) ∧ fits ((((1 : Int) : Rat)).num * r.den) := fun r h => by
  have := h.fit
  rw [one_numden.1, one_numden.2, Int.one_mul, show r.num * ((1 : Nat) : Int) = r.num from Int.mul_one _]
  exact this
 by_cases hz : ∀ r, o = some r → fits (r.num * (((1000 : Int) : Rat)).den) ∧ fits ((((1000 : Int) : Rat)).num * r.den)
 ·
  refine (pvfactor_fit w ha (fun r e => by subst e; exact hz1 r ha) hz).mono ?_
  rintro e w' ⟨rfl, hs⟩
  exact ⟨_, rfl, hs⟩
 ·
  cases o with
  | none => exact absurd (fun r e => by cases e) hz
  | some r =>
   refine (pvfactor_over w ha (hz1 r ha) (fun h => hz (fun r' e => by cases e; exact h))).mono ?_
   rintro e w' ⟨rfl, hs⟩
   exact ⟨_, rfl, hs⟩
theorem moved_bad0 {vl : Value} {l : List Int} {k1 k5 : Bool} {k2 k6 : Option Addr} {p k4 p' k8 : Nat} {o : Option Rat} (bb num den : Int) (w : World) (hl : IntsR w vl l) (hk : FB w (.agg #[.bool k1, .slice k2 p k4, .bool k5, .slice k6 p' k8]) o) (ho : ∀ z, o = some z → absN z.num ≤ bp p ∧ (z.den : Int) ≤ bp p') (h : ¬ l.length ≤ 24) :
  Calls Tryz.prog 7 #[vl, .int .i64 bb, .int .i64 num, .int .i64 den, .agg #[.bool k1, .slice k2 p k4, .bool k5, .slice k6 p' k8]] w fun e w' => e = .returned (.bool true) ∧ Steps w w' := by
 obtain ⟨la, lc, rfl⟩ := hl.shape
 obtain ⟨N, hN⟩ : ∃ n, l.length = n := ⟨_, rfl⟩
 rw [hN] at h ⊢
 have d0 : (24 : Int) < (N : Int) := by omega
 clear hl hk ho hN
 go_enter Tryz.func7, Tryz.ntmps7
 go_wp2_with fail
 refine (lalive07 _).mono ?_
 rintro e w1 ⟨rfl, hs1⟩
 have ok1 : Blk w1 w.heap.size 27 #[.bool k1, .slice k2 p k4, .bool k5, .slice k6 p' k8] := Blk.stepsK hs1
 have B1 : Below w.heap.size w w1 := belowA hs1
 have c0 := ok1.c 0 rfl
 have c1 := ok1.c 1 rfl
 have c2 := ok1.c 2 rfl
 have c3 := ok1.c 3 rfl
 clear hs1
 dsimp only
 go_wp2_with fail
 go_returns
 exact ⟨rfl, belowB⟩
theorem moved_bad1 {vl : Value} {l : List Int} {k1 k5 : Bool} {k2 k6 : Option Addr} {p k4 p' k8 : Nat} {o : Option Rat} (bb num den : Int) (w : World) (hl : IntsR w vl l) (hk : FB w (.agg #[.bool k1, .slice k2 p k4, .bool k5, .slice k6 p' k8]) o) (ho : ∀ z, o = some z → absN z.num ≤ bp p ∧ (z.den : Int) ≤ bp p') (h : l.length ≤ 24) (c : Int) (ha : askV l = c) (hc : c ≠ 0) :
  Calls Tryz.prog 7 #[vl, .int .i64 bb, .int .i64 num, .int .i64 den, .agg #[.bool k1, .slice k2 p k4, .bool k5, .slice k6 p' k8]] w fun e w' => e = .returned (.bool true) ∧ Steps w w' := by
 have AS : ∀ w', Steps w w' → Calls Tryz.prog 21 #[vl] w' fun e w2 => e = .returned (.int .i64 c) ∧ Steps w' w2 := fun w' s => by rw [← ha]; exact pvasked w' (hl.steps s) (by omega)
 obtain ⟨la, lc, rfl⟩ := hl.shape
 obtain ⟨N, hN⟩ : ∃ n, l.length = n := ⟨_, rfl⟩
 rw [hN] at h AS ⊢
 have d0 : ¬ (24 : Int) < (N : Int) := by omega
 have dc : (c != 0) = true := by simpa using hc
 clear hl hk ho hN ha hc
 go_enter Tryz.func7, Tryz.ntmps7
 go_wp2_with fail
 refine (lalive07 _).mono ?_
 rintro e w1 ⟨rfl, hs1⟩
 have ok1 : Blk w1 w.heap.size 27 #[.bool k1, .slice k2 p k4, .bool k5, .slice k6 p' k8] := Blk.stepsK hs1
 have B1 : Below w.heap.size w w1 := belowA hs1
 have c0 := ok1.c 0 rfl
 have c1 := ok1.c 1 rfl
 have c2 := ok1.c 2 rfl
 have c3 := ok1.c 3 rfl
 clear hs1
 dsimp only
 go_wp2_with fail
 refine (AS _ B1).mono ?_
 rintro e w2 ⟨rfl, hs2⟩
 clear c0 c1 c2 c3
 have ok2 : Blk w2 w.heap.size 27 #[.bool k1, .slice k2 p k4, .bool k5, .slice k6 p' k8] := ok1.steps hs2
 have B2 : Below w.heap.size w w2 := below_steps B1 (Nat.le_refl _) hs2
 have c0 := ok2.c 0 rfl
 have c1 := ok2.c 1 rfl
 have c2 := ok2.c 2 rfl
 have c3 := ok2.c 3 rfl
 clear hs2
 clear ok1 B1 AS
 dsimp only
 go_wp2_with fail
 go_returns
 exact ⟨rfl, belowB⟩
theorem moved_bad2 {vl : Value} {l : List Int} {k1 k5 : Bool} {k2 k6 : Option Addr} {p k4 p' k8 : Nat} {o : Option Rat} (bb num den : Int) (w : World) (hl : IntsR w vl l) (hk : FB w (.agg #[.bool k1, .slice k2 p k4, .bool k5, .slice k6 p' k8]) o) (ho : ∀ z, o = some z → absN z.num ≤ bp p ∧ (z.den : Int) ≤ bp p') (h : l.length ≤ 24) (ha : askV l = 0) (b1 : ¬ bb < -8589934592) (b2 : ¬ 8589934592 < bb) (h2 : 4 < p ∨ 4 < p' ∨ facB o = false) :
  Calls Tryz.prog 7 #[vl, .int .i64 bb, .int .i64 num, .int .i64 den, .agg #[.bool k1, .slice k2 p k4, .bool k5, .slice k6 p' k8]] w fun e w' => e = .returned (.bool true) ∧ Steps w w' := by
 have AS : ∀ w', Steps w w' → Calls Tryz.prog 21 #[vl] w' fun e w2 => e = .returned (.int .i64 0) ∧ Steps w' w2 := fun w' s => by have := pvasked w' (hl.steps s) (by omega); rw [ha] at this; exact this
 have FA : ∀ w', Steps w w' → Calls Tryz.prog 22 #[.agg #[.bool k1, .slice k2 p k4, .bool k5, .slice k6 p' k8]] w' fun e w2 => ∃ b, e = .returned (.bool b) ∧ (b = false ∨ 4 < p ∨ 4 < p') ∧ Steps w' w2 := fun w' s => by
  by_cases h3 : 4 < p ∨ 4 < p'
  ·
   refine (pvfactor_any w' (hk.keeps (Keeps.steps s))).mono ?_
   rintro e w2 ⟨b, rfl, hs⟩
   exact ⟨b, rfl, .inr h3, hs⟩
  ·
   have zk : ∀ r, o = some r → sz r 4 := fun r e => ⟨Int.le_trans (ho r e).1 (bp_mono (by omega)), Int.le_trans (ho r e).2 (bp_mono (by omega))⟩
   refine (pvfactor w' (hk.keeps (Keeps.steps s)) zk).mono ?_
   rintro e w2 ⟨rfl, hs⟩
   exact ⟨_, rfl, .inl (by rcases h2 with h2 | h2 | h2; exact absurd (.inl h2) h3; exact absurd (.inr h2) h3; exact h2), hs⟩
 obtain ⟨la, lc, rfl⟩ := hl.shape
 obtain ⟨N, hN⟩ : ∃ n, l.length = n := ⟨_, rfl⟩
 rw [hN] at h AS ⊢
 have d0 : ¬ (24 : Int) < (N : Int) := by omega
 clear hl hk ho hN ha h2
 go_enter Tryz.func7, Tryz.ntmps7
 go_wp2_with fail
 refine (lalive07 _).mono ?_
 rintro e w1 ⟨rfl, hs1⟩
 have ok1 : Blk w1 w.heap.size 27 #[.bool k1, .slice k2 p k4, .bool k5, .slice k6 p' k8] := Blk.stepsK hs1
 have B1 : Below w.heap.size w w1 := belowA hs1
 have c0 := ok1.c 0 rfl
 have c1 := ok1.c 1 rfl
 have c2 := ok1.c 2 rfl
 have c3 := ok1.c 3 rfl
 clear hs1
 dsimp only
 go_wp2_with fail
 refine (AS _ B1).mono ?_
 rintro e w2 ⟨rfl, hs2⟩
 clear c0 c1 c2 c3
 have ok2 : Blk w2 w.heap.size 27 #[.bool k1, .slice k2 p k4, .bool k5, .slice k6 p' k8] := ok1.steps hs2
 have B2 : Below w.heap.size w w2 := below_steps B1 (Nat.le_refl _) hs2
 have c0 := ok2.c 0 rfl
 have c1 := ok2.c 1 rfl
 have c2 := ok2.c 2 rfl
 have c3 := ok2.c 3 rfl
 clear hs2
 clear ok1 B1 AS
 dsimp only
 go_wp2_with fail
 refine (FA _ B2).mono ?_
 rintro e w3 ⟨b, rfl, hb, hs3⟩
 clear c0 c1 c2 c3
 have ok3 : Blk w3 w.heap.size 27 #[.bool k1, .slice k2 p k4, .bool k5, .slice k6 p' k8] := ok2.steps hs3
 have B3 : Below w.heap.size w w3 := below_steps B2 (Nat.le_refl _) hs3
 have c0 := ok3.c 0 rfl
 have c1 := ok3.c 1 rfl
 have c2 := ok3.c 2 rfl
 have c3 := ok3.c 3 rfl
 clear hs3
 clear ok2 B2 FA
 dsimp only
 cases b with
 | false =>
  go_wp2_with fail
  go_returns
  exact ⟨rfl, belowB⟩
 | true =>
  by_cases h4 : 4 < p
  ·
   have d1 : (4 : Int) < (p : Int) := by omega
   go_wp2_with fail
   go_returns
   exact ⟨rfl, belowB⟩
  ·
   have d1 : ¬ (4 : Int) < (p : Int) := by omega
   have d2 : (4 : Int) < (p' : Int) := by rcases hb with hb | hb | hb; exact absurd hb (by decide); omega; omega
   go_wp2_with fail
   go_returns
   exact ⟨rfl, belowB⟩
theorem moved_badL {vl : Value} {l : List Int} {k1 k5 : Bool} {k2 k6 : Option Addr} {p k4 p' k8 : Nat} {o : Option Rat} (bb num den : Int) (w : World) (hl : IntsR w vl l) (hk : FB w (.agg #[.bool k1, .slice k2 p k4, .bool k5, .slice k6 p' k8]) o) (ho : ∀ z, o = some z → absN z.num ≤ bp p ∧ (z.den : Int) ≤ bp p') (h : l.length ≤ 24) (ha : askV l = 0) (b1 : bb < -8589934592) :
  Calls Tryz.prog 7 #[vl, .int .i64 bb, .int .i64 num, .int .i64 den, .agg #[.bool k1, .slice k2 p k4, .bool k5, .slice k6 p' k8]] w fun e w' => e = .returned (.bool true) ∧ Steps w w' := by
 have AS : ∀ w', Steps w w' → Calls Tryz.prog 21 #[vl] w' fun e w2 => e = .returned (.int .i64 0) ∧ Steps w' w2 := fun w' s => by have := pvasked w' (hl.steps s) (by omega); rw [ha] at this; exact this
 obtain ⟨la, lc, rfl⟩ := hl.shape
 obtain ⟨N, hN⟩ : ∃ n, l.length = n := ⟨_, rfl⟩
 rw [hN] at h AS ⊢
 have d0 : ¬ (24 : Int) < (N : Int) := by omega
 clear hl hk ho hN ha
 go_enter Tryz.func7, Tryz.ntmps7
 go_wp2_with fail
 refine (lalive07 _).mono ?_
 rintro e w1 ⟨rfl, hs1⟩
 have ok1 : Blk w1 w.heap.size 27 #[.bool k1, .slice k2 p k4, .bool k5, .slice k6 p' k8] := Blk.stepsK hs1
 have B1 : Below w.heap.size w w1 := belowA hs1
 have c0 := ok1.c 0 rfl
 have c1 := ok1.c 1 rfl
 have c2 := ok1.c 2 rfl
 have c3 := ok1.c 3 rfl
 clear hs1
 dsimp only
 go_wp2_with fail
 refine (AS _ B1).mono ?_
 rintro e w2 ⟨rfl, hs2⟩
 clear c0 c1 c2 c3
 have ok2 : Blk w2 w.heap.size 27 #[.bool k1, .slice k2 p k4, .bool k5, .slice k6 p' k8] := ok1.steps hs2
 have B2 : Below w.heap.size w w2 := below_steps B1 (Nat.le_refl _) hs2
 have c0 := ok2.c 0 rfl
 have c1 := ok2.c 1 rfl
 have c2 := ok2.c 2 rfl
 have c3 := ok2.c 3 rfl
 clear hs2
 clear ok1 B1 AS
 dsimp only
 go_wp2_with fail
 go_returns
 exact ⟨rfl, belowB⟩
theorem moved_badG {vl : Value} {l : List Int} {k1 k5 : Bool} {k2 k6 : Option Addr} {p k4 p' k8 : Nat} {o : Option Rat} (bb num den : Int) (w : World) (hl : IntsR w vl l) (hk : FB w (.agg #[.bool k1, .slice k2 p k4, .bool k5, .slice k6 p' k8]) o) (ho : ∀ z, o = some z → absN z.num ≤ bp p ∧ (z.den : Int) ≤ bp p') (h : l.length ≤ 24) (ha : askV l = 0) (b1 : ¬ bb < -8589934592) (b2 : 8589934592 < bb) :
  Calls Tryz.prog 7 #[vl, .int .i64 bb, .int .i64 num, .int .i64 den, .agg #[.bool k1, .slice k2 p k4, .bool k5, .slice k6 p' k8]] w fun e w' => e = .returned (.bool true) ∧ Steps w w' := by
 have AS : ∀ w', Steps w w' → Calls Tryz.prog 21 #[vl] w' fun e w2 => e = .returned (.int .i64 0) ∧ Steps w' w2 := fun w' s => by have := pvasked w' (hl.steps s) (by omega); rw [ha] at this; exact this
 obtain ⟨la, lc, rfl⟩ := hl.shape
 obtain ⟨N, hN⟩ : ∃ n, l.length = n := ⟨_, rfl⟩
 rw [hN] at h AS ⊢
 have d0 : ¬ (24 : Int) < (N : Int) := by omega
 clear hl hk ho hN ha
 go_enter Tryz.func7, Tryz.ntmps7
 go_wp2_with fail
 refine (lalive07 _).mono ?_
 rintro e w1 ⟨rfl, hs1⟩
 have ok1 : Blk w1 w.heap.size 27 #[.bool k1, .slice k2 p k4, .bool k5, .slice k6 p' k8] := Blk.stepsK hs1
 have B1 : Below w.heap.size w w1 := belowA hs1
 have c0 := ok1.c 0 rfl
 have c1 := ok1.c 1 rfl
 have c2 := ok1.c 2 rfl
 have c3 := ok1.c 3 rfl
 clear hs1
 dsimp only
 go_wp2_with fail
 refine (AS _ B1).mono ?_
 rintro e w2 ⟨rfl, hs2⟩
 clear c0 c1 c2 c3
 have ok2 : Blk w2 w.heap.size 27 #[.bool k1, .slice k2 p k4, .bool k5, .slice k6 p' k8] := ok1.steps hs2
 have B2 : Below w.heap.size w w2 := below_steps B1 (Nat.le_refl _) hs2
 have c0 := ok2.c 0 rfl
 have c1 := ok2.c 1 rfl
 have c2 := ok2.c 2 rfl
 have c3 := ok2.c 3 rfl
 clear hs2
 clear ok1 B1 AS
 dsimp only
 go_wp2_with fail
 go_returns
 exact ⟨rfl, belowB⟩
theorem medQ_sz {l : List Int} (hv : valL l) (h0 : l ≠ []) : sz (medQ l) 2 := by
 unfold medQ
 have := tw_val h0 hv
 exact sz_frac (by decide) (by unfold absN; rw [bp2_]; omega) (by rw [bp2_]; decide)
theorem chkV_val {l : List Int} (h : chkV l = 0) (h0 : l ≠ []) : valL l ∧ askV l = 0 := by
 have ha : askV l = 0 := by
  unfold askV
  rw [if_pos h, if_neg (fun e => h0 (List.eq_nil_of_length_eq_zero e))]
 exact ⟨(askV_val ha).1, ha⟩
theorem map_step (b : Int) {l : List Int} {t : Nat} (h : t < l.length) : (l.map (· + b)).take (t + 1) = (l.map (· + b)).take t ++ [l.getD t 0 + b] := by
 rw [take_step (by rw [List.length_map]; exact h), getD_map b h]
theorem pctS_moved {l : List Int} (b num den : Int) (h : askV l = 0) (hm : askV (l.map (· + b)) = 0) : (pctS (l.map (· + b)) num den).2 = (pctS l num den).2 ∧ ((pctS l num den).2 = 0 → (pctS (l.map (· + b)) num den).1 = (pctS l num den).1 + b ∧ -4294967296 ≤ (pctS l num den).1 ∧ (pctS l num den).1 ≤ 4294967296) := by
 obtain ⟨hv, h0⟩ := askV_val h
 have hp := List.length_pos_iff.2 h0
 unfold pctS
 rw [if_pos h, if_pos hm, List.length_map]
 by_cases hb : den < 1 ∨ 1000 < den ∨ num < 0 ∨ den < num
 ·
  rw [if_pos hb, if_pos hb]
  exact ⟨rfl, fun e => absurd e (by decide)⟩
 ·
  rw [if_neg hb, if_neg hb]
  have il := pct_lt (n := l.length) (num := num) (den := den) hp (by omega) (by omega) (by omega)
  refine ⟨rfl, fun _ => ⟨?_, hv.2 _ ((srt_perm l).mem_iff.1 (getD_mem (by rw [srt_len]; exact il)))⟩⟩
  show (srt (l.map (· + b))).getD _ 0 = (srt l).getD _ 0 + b
  rw [srt_map, getD_map' b (by rw [srt_len]; exact il)]
theorem div_one_ (q : Rat) : q / ((1 : Int) : Rat) = q := by
 have : ((1 : Int) : Rat) = 1 := rfl
 rw [this]; grind
theorem sub_by (q b : Rat) : q + b - q = b := by grind
theorem moved_bad3 {vl : Value} {l : List Int} {k1 k5 : Bool} {k2 k6 : Option Addr} {p k4 p' k8 : Nat} {o : Option Rat} (bb num den : Int) (w : World) (hl : IntsR w vl l) (hk : FB w (.agg #[.bool k1, .slice k2 p k4, .bool k5, .slice k6 p' k8]) o) (ho : ∀ z, o = some z → absN z.num ≤ bp p ∧ (z.den : Int) ≤ bp p') (h : l.length ≤ 24) (ha : askV l = 0) (b1 : ¬ bb < -8589934592) (b2 : ¬ 8589934592 < bb) (hf : facB o = true) (h1 : p ≤ 4) (h2 : p' ≤ 4) (hm : chkV (l.map (· + bb)) ≠ 0) :
  Calls Tryz.prog 7 #[vl, .int .i64 bb, .int .i64 num, .int .i64 den, .agg #[.bool k1, .slice k2 p k4, .bool k5, .slice k6 p' k8]] w fun e w' => e = .returned (.bool true) ∧ Steps w w' := by
 obtain ⟨hv, h0⟩ := askV_val ha
 have hl24 := h
 obtain ⟨kq, rfl, q1, q2⟩ := facB_ok hf
 have zk : ∀ r, some kq = some r → sz r 4 := fun r e => ⟨Int.le_trans (ho r e).1 (bp_mono h1), Int.le_trans (ho r e).2 (bp_mono h2)⟩
 have HRNG : ∀ t, t < l.length → -4294967296 ≤ l.getD t 0 ∧ l.getD t 0 ≤ 4294967296 := fun t ht => hv.2 _ (getD_mem ht)
 have AS : ∀ w', Steps w w' → Calls Tryz.prog 21 #[vl] w' fun e w2 => e = .returned (.int .i64 0) ∧ Steps w' w2 := fun w' s => by have := pvasked w' (hl.steps s) (by omega); rw [ha] at this; exact this
 have FA : ∀ w', Keeps w w' → Calls Tryz.prog 22 #[.agg #[.bool k1, .slice k2 p k4, .bool k5, .slice k6 p' k8]] w' fun e w2 => e = .returned (.bool true) ∧ Steps w' w2 := fun w' s => by have := pvfactor w' (hk.keeps s) zk; rw [hf] at this; exact this
 have CK : ∀ w' v, IntsR w' v (l.map (· + bb)) → Calls Tryz.prog 31 #[v] w' fun e w2 => e = .returned (.int .i64 (chkV (l.map (· + bb)))) ∧ Steps w' w2 := fun w' v h => prvcheck w' h (by rw [List.length_map]; omega)
 have RS := fun t (h : t < l.length) => map_step bb h
 have RL : ∀ t, t ≤ l.length → ((l.map (· + bb)).take t).length = t := fun t ht => by rw [List.length_take, List.length_map]; omega
 have RE : (l.map (· + bb)).take l.length = l.map (· + bb) := by rw [show l.length = (l.map (· + bb)).length from (List.length_map _).symm, List.take_length]
 obtain ⟨ck, hck⟩ : ∃ c, chkV (l.map (· + bb)) = c := ⟨_, rfl⟩
 rw [hck] at CK hm
 obtain ⟨la, lc, rfl⟩ := hl.shape
 have HL := Hid.mk_ hl
 obtain ⟨N, hN⟩ : ∃ n, l.length = n := ⟨_, rfl⟩
 have HLN := Hid.mk_ hN
 rw [hN] at h AS HL RS RL RE HRNG ⊢
 have rl : (l.map (· + bb)).length = N := by rw [List.length_map]; exact hN
 obtain ⟨PP, hPP⟩ : ∃ f : Nat → List Int, ∀ t, (l.map (· + bb)).take t = f t := ⟨_, fun _ => rfl⟩
 have P0 : PP 0 = [] := by rw [← hPP]; rfl
 simp only [hPP] at RS RL RE
 generalize l.map (· + bb) = rv at *
 have HRS := Hid.mk_ RS
 have HRL := Hid.mk_ RL
 have HRE := Hid.mk_ RE
 have HP0 := Hid.mk_ P0
 have HVR := Hid.mk_ HRNG
 have d0 : ¬ (24 : Int) < (N : Int) := by omega
 have d1 : ¬ (4 : Int) < (p : Int) := by omega
 have d2 : ¬ (4 : Int) < (p' : Int) := by omega
 have dck : (ck != 0) = true := by simpa using hm
 have dck2 : (ck == 0) = false := by simpa using hm
 clear hk ho ha hf hv h0 zk h1 h2 q1 q2 hN HRNG RS RL RE P0 hPP hl hck hl24
 have kk := Keeps.refl w
 have HL0 := Hid.mk_ HL.out
 go_enter Tryz.func7, Tryz.ntmps7
 go_wp2_with fail
 refine (lalive07 _).mono ?_
 rintro e w1 ⟨rfl, hb1⟩
 have st : Steps _ w1 := hb1
 have B : Below w.heap.size w w1 := belowA st
 have kp : Keeps w w1 := Keeps.then_ keepsB st
 replace kk := kk.trans kp
 have ok : Blk w1 (w.heap.size) 27 #[.bool k1, .slice k2 p k4, .bool k5, .slice k6 p' k8] := Blk.stepsK st
 replace HL := Hid.mk_ (HL0.out.steps B)
 clear kp
 clear st
 go_wp2_with fail
 refine (AS _ belowB).mono ?_
 rintro e w2 ⟨rfl, hb2⟩
 have st : Steps _ w2 := hb2
 have sk : Below w1.heap.size w1 w2 := belowA st
 replace B := below_steps B (Nat.le_refl _) sk
 replace ok := ok.steps sk
 replace HL := Hid.mk_ (HL.out.steps sk)
 replace kk := kk.then_ sk
 clear st sk
 obtain ⟨ck0, ck1, ck2, ck3⟩ := ok.r3
 have lk := ok.lt
 go_wp2_with fail
 refine (FA _ (kk.trans keepsB)).mono ?_
 rintro e w3 ⟨rfl, hb3⟩
 have st : Steps _ w3 := hb3
 have sk : Below w2.heap.size w2 w3 := belowA st
 replace B := below_steps B (Nat.le_refl _) sk
 replace ok := ok.steps sk
 replace HL := Hid.mk_ (HL.out.steps sk)
 replace kk := kk.then_ sk
 clear st sk ck0 ck1 ck2 ck3 lk
 obtain ⟨ck0, ck1, ck2, ck3⟩ := ok.r3
 have lk := ok.lt
 go_wp2_with fail
 have zW := B.size
 have zk : w.heap.size < w3.heap.size := ok.lt
 go_wp2_with fail
 go_loopw [13, 12] (fun sl0 sl1 wr => ∃ (t : Nat) (ow : Value), ow = sl1 ∧ t ≤ N ∧ sl0 = .int .i64 t ∧ RowU wr w3.heap.size 2 1 ow t (ints (PP t)) ∧ Blk wr (w.heap.size) 27 #[.bool k1, .slice k2 p k4, .bool k5, .slice k6 p' k8] ∧ Below w.heap.size w wr ∧ Below w3.heap.size w3 wr) (fun sl0 sl1 _ => N - (intOf sl0).toNat)
 case atStart => exact ⟨0, _, rfl, by omega, by go_num, by rw [HP0.out]; exact RowU.nil _ _ _ _, ownK, belowB, belowB⟩
 case round =>
  clear ck0 ck1 ck2 ck3 lk
  clear ok
  try clear B
  obtain ⟨t, ow, rfl, htN, rfl, hr, ok, B, sq⟩ := hrel
  replace kk := kk.trans (Keeps.steps sq)
  replace HL := Hid.mk_ (HL.out.steps sq)
  obtain ⟨oa, ocap, rfl⟩ := hr.len
  rcases Nat.lt_or_ge t N with r0 | r0
  case inl =>
   have hlt : decide ((t : Int) < (N : Int)) = true := decide_eq_true (by omega)
   have HR := Hid.mk_ hr
   obtain ⟨b, of, rfl, hbl, hx0⟩ := HL.out.at' (t := t) (by have := HLN.out; omega)
   have hps := Hid.mk_ (HRS.out t r0)
   have xr := HVR.out t r0
   have hpl := HRL.out t (by omega)
   obtain ⟨x, hxx⟩ : ∃ x, l.getD t 0 = x := ⟨_, rfl⟩
   rw [hxx] at hx0 hps xr
   have tN : t ≤ 24 := by omega
   have zz := B.size
   have zq := sq.size
   obtain ⟨y, hy⟩ : ∃ y, x + bb = y := ⟨_, rfl⟩
   have hyr : -12884901888 ≤ y ∧ y ≤ 12884901888 := by omega
   rw [hy] at hps
   clear hxx hr
   repeat' (first | ((with_reducible show wpList _ _ _ (⟨some 97, _, _, _, _, _⟩ :: _) _ _); refine app_i64 rfl (.tmp 89) (.tmp 96) rfl w3.heap.size t (.slice oa t ocap) (PP t) rfl (HR.out.alloc _) wr.heap.size y rfl (Blk.new _ _ _) (by omega) (by rw [World.size_alloc]; omega) (fun v' w77 hr7 hg7 => ?_)) | go_values | go_skip | go_guarded | go_step | go_upon)
   obtain ⟨oa', ocap', rfl⟩ := hr7.len
   have r6 := HR.out.alloc (.cells #[.int .i64 y] 2)
   have B7 := r6.below hg7 (B.alloc B.size _) (by omega)
   have sq7 := r6.below hg7 (sq.alloc sq.size _) (Nat.le_refl _)
   have ok7 := r6.blk hg7 (Blk.steps ok ((Below.refl _ wr).alloc (Nat.le_refl _) _)) (by omega)
   have HR7 := Hid.mk_ hr7
   clear r6 hg7 hr7 HR B sq ok
   go_wp2_with fail
   go_roundw
   case rel => exact ⟨t + 1, _, rfl, by omega, by go_num, by rw [hps.out]; exact HR7.out, ok7, B7, sq7⟩
   case measure => simp [intOf] <;> omega
  case inr =>
   have hlt : decide ((t : Int) < (N : Int)) = false := decide_eq_false (by omega)
   have tN : t = N := by omega
   rw [tN] at hr hlt
   have Fb := Hid.mk_ (show IntsR wr (.slice oa N ocap) rv from by have h2 := hr.ints; rw [HRE.out] at h2; exact h2)
   rw [tN]
   clear hr r0 tN htN
   go_wp2_with fail
   refine (CK _ _ (Fb.out.steps belowB)).mono ?_
   rintro e w4 ⟨rfl, hb4⟩
   have st : Steps _ w4 := hb4
   have sk : Below wr.heap.size wr w4 := belowA st
   replace B := below_steps B (Nat.le_refl _) sk
   replace ok := ok.steps sk
   replace HL := Hid.mk_ (HL.out.steps sk)
   replace Fb := Hid.mk_ (Fb.out.steps sk)
   replace kk := kk.then_ sk
   clear st sk
   go_wp2_with fail
   go_returns
   exact ⟨rfl, belowB⟩
theorem moved_ok0 {vl : Value} {l : List Int} {k1 k5 : Bool} {k2 k6 : Option Addr} {p k4 p' k8 : Nat} {o : Option Rat} (bb num den : Int) (w : World) (hl : IntsR w vl l) (hk : FB w (.agg #[.bool k1, .slice k2 p k4, .bool k5, .slice k6 p' k8]) o) (ho : ∀ z, o = some z → absN z.num ≤ bp p ∧ (z.den : Int) ≤ bp p') (hnum : -9223372036854775808 ≤ num ∧ num ≤ 9223372036854775807) (hden : -9223372036854775808 ≤ den ∧ den ≤ 9223372036854775807) (h : l.length ≤ 24) (ha : askV l = 0) (b1 : ¬ bb < -8589934592) (b2 : ¬ 8589934592 < bb) (hf : facB o = true) (h1 : p ≤ 4) (h2 : p' ≤ 4) (hm : chkV (l.map (· + bb)) = 0) (hpe : (pctS l num den).2 = 0) :
  Calls Tryz.prog 7 #[vl, .int .i64 bb, .int .i64 num, .int .i64 den, .agg #[.bool k1, .slice k2 p k4, .bool k5, .slice k6 p' k8]] w fun e w' => e = .returned (.bool true) ∧ Steps w w' := by
 obtain ⟨hv, h0⟩ := askV_val ha
 have hl24 := h
 obtain ⟨kq, rfl, q1, q2⟩ := facB_ok hf
 have zk : ∀ r, some kq = some r → sz r 4 := fun r e => ⟨Int.le_trans (ho r e).1 (bp_mono h1), Int.le_trans (ho r e).2 (bp_mono h2)⟩
 have HRNG : ∀ t, t < l.length → -4294967296 ≤ l.getD t 0 ∧ l.getD t 0 ≤ 4294967296 := fun t ht => hv.2 _ (getD_mem ht)
 have AS : ∀ w', Steps w w' → Calls Tryz.prog 21 #[vl] w' fun e w2 => e = .returned (.int .i64 0) ∧ Steps w' w2 := fun w' s => by have := pvasked w' (hl.steps s) (by omega); rw [ha] at this; exact this
 have FA : ∀ w', Keeps w w' → Calls Tryz.prog 22 #[.agg #[.bool k1, .slice k2 p k4, .bool k5, .slice k6 p' k8]] w' fun e w2 => e = .returned (.bool true) ∧ Steps w' w2 := fun w' s => by have := pvfactor w' (hk.keeps s) zk; rw [hf] at this; exact this
 have CK : ∀ w' v, IntsR w' v (l.map (· + bb)) → Calls Tryz.prog 31 #[v] w' fun e w2 => e = .returned (.int .i64 (chkV (l.map (· + bb)))) ∧ Steps w' w2 := fun w' v h => prvcheck w' h (by rw [List.length_map]; omega)
 rw [hm] at CK
 have m0 : l.map (· + bb) ≠ [] := fun e => h0 (by simpa using e)
 obtain ⟨hvm, ham⟩ := chkV_val hm m0
 have lt := fun i (h : i ∈ (clipR l kq).1) => clipR_lt (l := l) (k := kq) (i := i) h
 have e1 : clipS l (some kq) = ((clipR l kq).1, (clipR l kq).2, 0) := by unfold clipS; rw [if_pos ha, if_pos hf]; rfl
 have e2 : clipS (l.map (· + bb)) (some kq) = ((clipR l kq).1, (clipR l kq).2, 0) := by
  unfold clipS
  rw [if_pos ham, if_pos hf]
  show ((clipR (l.map (· + bb)) kq).1, (clipR (l.map (· + bb)) kq).2, (0 : Int)) = _
  rw [clip_map]
 have CA : ∀ w' v, Keeps w w' → IntsR w' v l → Calls Tryz.prog 14 #[v, .agg #[.bool k1, .slice k2 p k4, .bool k5, .slice k6 p' k8]] w' fun e w2 => ∃ u, e = .returned (.tuple #[u, .int .i64 ((clipR l kq).2 : Nat), .int .i64 0]) ∧ IntsR w2 u (inI (clipR l kq).1) ∧ Steps w' w2 := fun w' v k h => by have := vClip w' h (by omega) (hk.keeps k) zk; rw [e1] at this; exact this
 have CB : ∀ w' v, Keeps w w' → IntsR w' v (l.map (· + bb)) → Calls Tryz.prog 14 #[v, .agg #[.bool k1, .slice k2 p k4, .bool k5, .slice k6 p' k8]] w' fun e w2 => ∃ u, e = .returned (.tuple #[u, .int .i64 ((clipR l kq).2 : Nat), .int .i64 0]) ∧ IntsR w2 u (inI (clipR l kq).1) ∧ Steps w' w2 := fun w' v k h => by have := vClip w' h (by rw [List.length_map]; omega) (hk.keeps k) zk; rw [e2] at this; exact this
 have PA : ∀ w' v, IntsR w' v l → Calls Tryz.prog 26 #[v, .int .i64 num, .int .i64 den] w' fun e w2 => e = .returned (.tuple #[.int .i64 (pctS l num den).1, .int .i64 (pctS l num den).2]) ∧ Steps w' w2 := fun w' v h => vPercentile num den w' h (by omega) (fun _ => hl24) hnum hden
 have PB : ∀ w' v, IntsR w' v (l.map (· + bb)) → Calls Tryz.prog 26 #[v, .int .i64 num, .int .i64 den] w' fun e w2 => e = .returned (.tuple #[.int .i64 (pctS (l.map (· + bb)) num den).1, .int .i64 (pctS (l.map (· + bb)) num den).2]) ∧ Steps w' w2 := fun w' v h => vPercentile num den w' h (by rw [List.length_map]; omega) (fun _ => by rw [List.length_map]; omega) hnum hden
 obtain ⟨pm2, pm1⟩ := pctS_moved bb num den ha ham
 rw [pm2] at PB
 obtain ⟨pm3, pr1, pr2⟩ := pm1 hpe
 rw [pm3] at PB
 rw [hpe] at PA PB
 have MA : ∀ w' v, IntsR w' v l → Calls Tryz.prog 10 #[v] w' fun e w2 => ∃ u, e = .returned (.tuple #[u, .int .i64 0]) ∧ FR w2 u (meanQ l) ∧ Steps w' w2 := fun w' v h => by
  have := vMean w' h (by first | omega | (rw [List.length_map]; omega))
  rw [ha] at this
  exact this
 have MB : ∀ w' v, IntsR w' v (l.map (· + bb)) → Calls Tryz.prog 10 #[v] w' fun e w2 => ∃ u, e = .returned (.tuple #[u, .int .i64 0]) ∧ FR w2 u (meanQ l + (bb : Rat)) ∧ Steps w' w2 := fun w' v h => by
  have := vMean w' h (by first | omega | (rw [List.length_map]; omega))
  rw [ham, mean_map bb h0] at this
  exact this
 have NA : ∀ w' v, IntsR w' v l → Calls Tryz.prog 25 #[v] w' fun e w2 => ∃ u, e = .returned (.tuple #[u, .int .i64 0]) ∧ FR w2 u (medQ l) ∧ Steps w' w2 := fun w' v h => by
  have := vMedian w' h (by first | omega | (rw [List.length_map]; omega)) (fun _ => hl24)
  rw [ha] at this
  exact this
 have NB : ∀ w' v, IntsR w' v (l.map (· + bb)) → Calls Tryz.prog 25 #[v] w' fun e w2 => ∃ u, e = .returned (.tuple #[u, .int .i64 0]) ∧ FR w2 u (medQ l + (bb : Rat)) ∧ Steps w' w2 := fun w' v h => by
  have := vMedian w' h (by first | omega | (rw [List.length_map]; omega)) (fun _ => by rw [List.length_map]; omega)
  rw [ham, med_map bb h0] at this
  exact this
 have DA : ∀ w' v, IntsR w' v l → Calls Tryz.prog 30 #[v] w' fun e w2 => ∃ u, e = .returned (.tuple #[u, .int .i64 0]) ∧ FR w2 u (dvnQ l) ∧ Steps w' w2 := fun w' v h => by
  have := vDeviation w' h (by first | omega | (rw [List.length_map]; omega)) (fun _ => hl24)
  rw [ha] at this
  exact this
 have DB : ∀ w' v, IntsR w' v (l.map (· + bb)) → Calls Tryz.prog 30 #[v] w' fun e w2 => ∃ u, e = .returned (.tuple #[u, .int .i64 0]) ∧ FR w2 u (dvnQ l) ∧ Steps w' w2 := fun w' v h => by
  have := vDeviation w' h (by first | omega | (rw [List.length_map]; omega)) (fun _ => by rw [List.length_map]; omega)
  rw [ham, dvn_map bb h0] at this
  exact this
 have VA : ∀ w' v, IntsR w' v l → Calls Tryz.prog 12 #[v] w' fun e w2 => ∃ u, e = .returned (.tuple #[u, .int .i64 0]) ∧ FR w2 u (varQ l) ∧ Steps w' w2 := fun w' v h => by
  have := vVariance w' h (by first | omega | (rw [List.length_map]; omega))
  rw [ha] at this
  exact this
 have VB : ∀ w' v, IntsR w' v (l.map (· + bb)) → Calls Tryz.prog 12 #[v] w' fun e w2 => ∃ u, e = .returned (.tuple #[u, .int .i64 0]) ∧ FR w2 u (varQ l) ∧ Steps w' w2 := fun w' v h => by
  have := vVariance w' h (by first | omega | (rw [List.length_map]; omega))
  rw [ham, var_map] at this
  exact this
 have S1 : ∀ w' u v, FR w' u (meanQ l + (bb : Rat)) → FR w' v (meanQ l) → Calls Tryz.prog 32 #[u, v] w' fun e w2 => ∃ v, e = .returned (.tuple #[v, .int .i64 0]) ∧ FR w2 v ((bb : Rat) / ((1 : Int) : Rat)) ∧ Steps w' w2 := fun w' u v h1 h2 => by
  have z2 := sz_mean hvm m0
  rw [mean_map bb h0] at z2
  have := fSubQ w' h1 h2 z2 (sz_mean hv h0) (by omega)
  rw [sub_by, ← div_one_ (bb : Rat)] at this
  exact this
 have S2 : ∀ w' u v, FR w' u (medQ l + (bb : Rat)) → FR w' v (medQ l) → Calls Tryz.prog 32 #[u, v] w' fun e w2 => ∃ v, e = .returned (.tuple #[v, .int .i64 0]) ∧ FR w2 v ((bb : Rat) / ((1 : Int) : Rat)) ∧ Steps w' w2 := fun w' u v h1 h2 => by
  have z2 := medQ_sz hvm m0
  rw [med_map bb h0] at z2
  have := fSubQ w' h1 h2 z2 (medQ_sz hv h0) (by omega)
  rw [sub_by, ← div_one_ (bb : Rat)] at this
  exact this
 have IS := fun (w' : World) (f1 f5 : Bool) (f2 f6 : Option Addr) (f3 f4 f7 f8 : Nat) (h : FR w' (.agg #[.bool f1, .slice f2 f3 f4, .bool f5, .slice f6 f7 f8]) _) => lis bb 1 w' h (by omega) (by omega) (by decide) (by decide) (by decide)
 have xl : (inI (clipR l kq).1).length = (clipR l kq).1.length := inI_len _
 have hcl : (clipR l kq).1.length ≤ l.length := by have := (clipR_spec l kq).2.2.1; omega
 have RS := fun t (h : t < l.length) => map_step bb h
 have RL : ∀ t, t ≤ l.length → ((l.map (· + bb)).take t).length = t := fun t ht => by rw [List.length_take, List.length_map]; omega
 have RE : (l.map (· + bb)).take l.length = l.map (· + bb) := by rw [show l.length = (l.map (· + bb)).length from (List.length_map _).symm, List.take_length]
 obtain ⟨ri, hri⟩ : ∃ r : Int, ((clipR l kq).2 : Int) = r := ⟨_, rfl⟩
 obtain ⟨n, hn_⟩ : ∃ n, (clipR l kq).1.length = n := ⟨_, rfl⟩
 rw [hri] at CA CB
 rw [hn_] at xl hcl
 generalize (bb : Rat) / ((1 : Int) : Rat) = qb at *
 generalize meanQ l + (bb : Rat) = mqb at *
 generalize medQ l + (bb : Rat) = dqb at *
 generalize meanQ l = mq at *
 generalize medQ l = dq at *
 generalize dvnQ l = vq at *
 generalize varQ l = rq_ at *
 generalize inI (clipR l kq).1 = xs at *
 generalize (pctS l num den).1 = pa at *
 obtain ⟨pb, hpb⟩ : ∃ z, pa + bb = z := ⟨_, rfl⟩
 rw [hpb] at PB
 have epb : pb - pa = bb := by omega
 have rpb : -12884901888 ≤ pb ∧ pb ≤ 12884901888 := by omega
 have dbb : (bb != bb) = false := by simp
 obtain ⟨la, lc, rfl⟩ := hl.shape
 have HL := Hid.mk_ hl
 obtain ⟨N, hN⟩ : ∃ n, l.length = n := ⟨_, rfl⟩
 have HLN := Hid.mk_ hN
 rw [hN] at h AS HL RS RL RE HRNG hcl ⊢
 have rl : (l.map (· + bb)).length = N := by rw [List.length_map]; exact hN
 obtain ⟨PP, hPP⟩ : ∃ f : Nat → List Int, ∀ t, (l.map (· + bb)).take t = f t := ⟨_, fun _ => rfl⟩
 have P0 : PP 0 = [] := by rw [← hPP]; rfl
 simp only [hPP] at RS RL RE
 generalize l.map (· + bb) = rv at *
 have HRS := Hid.mk_ RS
 have HRL := Hid.mk_ RL
 have HRE := Hid.mk_ RE
 have HP0 := Hid.mk_ P0
 have HVR := Hid.mk_ HRNG
 have d0 : ¬ (24 : Int) < (N : Int) := by omega
 have d1 : ¬ (4 : Int) < (p : Int) := by omega
 have d2 : ¬ (4 : Int) < (p' : Int) := by omega
 have dri : (ri == ri) = true := by simp
 have nle : n ≤ 100000 := by omega
 have N1 : 1 ≤ N := by rw [← HLN.out]; exact List.length_pos_iff.2 h0
 clear hk ho ha hf hv h0 zk lt e1 e2 h1 h2 q1 q2 hN HRNG RS RL RE P0 hPP hl hri hn_ hl24 hnum hden hm m0 hvm ham pm2 hpe pm3 hpb
 have kk := Keeps.refl w
 have HL0 := Hid.mk_ HL.out
 go_enter Tryz.func7, Tryz.ntmps7
 go_wp2_with fail
 refine (lalive07 _).mono ?_
 rintro e w1 ⟨rfl, hb1⟩
 have st : Steps _ w1 := hb1
 have B : Below w.heap.size w w1 := belowA st
 have kp : Keeps w w1 := Keeps.then_ keepsB st
 replace kk := kk.trans kp
 have ok : Blk w1 (w.heap.size) 27 #[.bool k1, .slice k2 p k4, .bool k5, .slice k6 p' k8] := Blk.stepsK st
 replace HL := Hid.mk_ (HL0.out.steps B)
 clear kp
 clear st
 go_wp2_with fail
 refine (AS _ belowB).mono ?_
 rintro e w2 ⟨rfl, hb2⟩
 have st : Steps _ w2 := hb2
 have sk : Below w1.heap.size w1 w2 := belowA st
 replace B := below_steps B (Nat.le_refl _) sk
 replace ok := ok.steps sk
 replace HL := Hid.mk_ (HL.out.steps sk)
 replace kk := kk.then_ sk
 clear st sk
 obtain ⟨ck0, ck1, ck2, ck3⟩ := ok.r3
 have lk := ok.lt
 go_wp2_with fail
 refine (FA _ (kk.trans keepsB)).mono ?_
 rintro e w3 ⟨rfl, hb3⟩
 have st : Steps _ w3 := hb3
 have sk : Below w2.heap.size w2 w3 := belowA st
 replace B := below_steps B (Nat.le_refl _) sk
 replace ok := ok.steps sk
 replace HL := Hid.mk_ (HL.out.steps sk)
 replace kk := kk.then_ sk
 clear st sk ck0 ck1 ck2 ck3 lk
 obtain ⟨ck0, ck1, ck2, ck3⟩ := ok.r3
 have lk := ok.lt
 go_wp2_with fail
 have zW := B.size
 have zk : w.heap.size < w3.heap.size := ok.lt
 go_wp2_with fail
 go_loopw [13, 12] (fun sl0 sl1 wr => ∃ (t : Nat) (ow : Value), ow = sl1 ∧ t ≤ N ∧ sl0 = .int .i64 t ∧ RowU wr w3.heap.size 2 1 ow t (ints (PP t)) ∧ Blk wr (w.heap.size) 27 #[.bool k1, .slice k2 p k4, .bool k5, .slice k6 p' k8] ∧ Below w.heap.size w wr ∧ Below w3.heap.size w3 wr) (fun sl0 sl1 _ => N - (intOf sl0).toNat)
 case atStart => exact ⟨0, _, rfl, by omega, by go_num, by rw [HP0.out]; exact RowU.nil _ _ _ _, ownK, belowB, belowB⟩
 case round =>
  clear ck0 ck1 ck2 ck3 lk
  clear ok
  try clear B
  obtain ⟨t, ow, rfl, htN, rfl, hr, ok, B, sq⟩ := hrel
  replace kk := kk.trans (Keeps.steps sq)
  replace HL := Hid.mk_ (HL.out.steps sq)
  obtain ⟨oa, ocap, rfl⟩ := hr.len
  rcases Nat.lt_or_ge t N with r0 | r0
  case inl =>
   have hlt : decide ((t : Int) < (N : Int)) = true := decide_eq_true (by omega)
   have HR := Hid.mk_ hr
   obtain ⟨b, of, rfl, hbl, hx0⟩ := HL.out.at' (t := t) (by have := HLN.out; omega)
   have hps := Hid.mk_ (HRS.out t r0)
   have xr := HVR.out t r0
   have hpl := HRL.out t (by omega)
   obtain ⟨x, hxx⟩ : ∃ x, l.getD t 0 = x := ⟨_, rfl⟩
   rw [hxx] at hx0 hps xr
   have tN : t ≤ 24 := by omega
   have zz := B.size
   have zq := sq.size
   obtain ⟨y, hy⟩ : ∃ y, x + bb = y := ⟨_, rfl⟩
   have hyr : -12884901888 ≤ y ∧ y ≤ 12884901888 := by omega
   rw [hy] at hps
   clear hxx hr
   repeat' (first | ((with_reducible show wpList _ _ _ (⟨some 97, _, _, _, _, _⟩ :: _) _ _); refine app_i64 rfl (.tmp 89) (.tmp 96) rfl w3.heap.size t (.slice oa t ocap) (PP t) rfl (HR.out.alloc _) wr.heap.size y rfl (Blk.new _ _ _) (by omega) (by rw [World.size_alloc]; omega) (fun v' w77 hr7 hg7 => ?_)) | go_values | go_skip | go_guarded | go_step | go_upon)
   obtain ⟨oa', ocap', rfl⟩ := hr7.len
   have r6 := HR.out.alloc (.cells #[.int .i64 y] 2)
   have B7 := r6.below hg7 (B.alloc B.size _) (by omega)
   have sq7 := r6.below hg7 (sq.alloc sq.size _) (Nat.le_refl _)
   have ok7 := r6.blk hg7 (Blk.steps ok ((Below.refl _ wr).alloc (Nat.le_refl _) _)) (by omega)
   have HR7 := Hid.mk_ hr7
   clear r6 hg7 hr7 HR B sq ok
   go_wp2_with fail
   go_roundw
   case rel => exact ⟨t + 1, _, rfl, by omega, by go_num, by rw [hps.out]; exact HR7.out, ok7, B7, sq7⟩
   case measure => simp [intOf] <;> omega
  case inr =>
   have hlt : decide ((t : Int) < (N : Int)) = false := decide_eq_false (by omega)
   have tN : t = N := by omega
   rw [tN] at hr hlt
   have Fb := Hid.mk_ (show IntsR wr (.slice oa N ocap) rv from by have h2 := hr.ints; rw [HRE.out] at h2; exact h2)
   rw [tN]
   clear hr r0 tN htN
   go_wp2_with fail
   refine (CK _ _ (Fb.out.steps belowB)).mono ?_
   rintro e w4 ⟨rfl, hb4⟩
   have st : Steps _ w4 := hb4
   have sk : Below wr.heap.size wr w4 := belowA st
   replace B := below_steps B (Nat.le_refl _) sk
   replace ok := ok.steps sk
   replace HL := Hid.mk_ (HL.out.steps sk)
   replace Fb := Hid.mk_ (Fb.out.steps sk)
   replace kk := kk.then_ sk
   clear st sk
   go_wp2_with fail
   refine (MA _ _ (HL.out.steps belowB)).mono ?_
   rintro e w5 ⟨va_, rfl, hva_, hb5⟩
   have st : Steps _ w5 := hb5
   have sk : Below w4.heap.size w4 w5 := belowA st
   replace B := below_steps B (Nat.le_refl _) sk
   replace ok := ok.steps sk
   replace HL := Hid.mk_ (HL.out.steps sk)
   replace Fb := Hid.mk_ (Fb.out.steps sk)
   replace kk := kk.then_ sk
   clear st sk
   obtain ⟨a_1, a_2, a_3, a_4, a_5, a_6, a_7, a_8, rfl⟩ := hva_.shape
   have Fa_ := Hid.mk_ hva_
   clear hva_
   have zk_5 : w.heap.size < w5.heap.size := ok.lt
   have zz5 := B.size
   go_wp2_with fail
   refine (MB _ _ (Fb.out.steps belowB)).mono ?_
   rintro e w6 ⟨vb_, rfl, hvb_, hb6⟩
   have st : Steps _ w6 := hb6
   have sk : Below w5.heap.size w5 w6 := belowA st
   replace B := below_steps B (Nat.le_refl _) sk
   have ova : Blk w6 (w5.heap.size) 27 #[.bool a_1, .slice a_2 a_3 a_4, .bool a_5, .slice a_6 a_7 a_8] := Blk.stepsK st
   replace ok := ok.steps sk
   replace HL := Hid.mk_ (HL.out.steps sk)
   replace Fb := Hid.mk_ (Fb.out.steps sk)
   replace Fa_ := Hid.mk_ (Fa_.out.steps sk)
   replace kk := kk.then_ sk
   clear st sk
   obtain ⟨b_1, b_2, b_3, b_4, b_5, b_6, b_7, b_8, rfl⟩ := hvb_.shape
   have Fb_ := Hid.mk_ hvb_
   clear hvb_
   have zva_6 : w5.heap.size < w6.heap.size := ova.lt
   have zz6 := B.size
   go_wp2_with fail
   refine (NA _ _ (HL.out.steps belowB)).mono ?_
   rintro e w7 ⟨vc_, rfl, hvc_, hb7⟩
   have st : Steps _ w7 := hb7
   have sk : Below w6.heap.size w6 w7 := belowA st
   replace B := below_steps B (Nat.le_refl _) sk
   have ovb : Blk w7 (w6.heap.size) 27 #[.bool b_1, .slice b_2 b_3 b_4, .bool b_5, .slice b_6 b_7 b_8] := Blk.stepsK st
   replace ok := ok.steps sk
   replace ova := ova.steps sk
   replace HL := Hid.mk_ (HL.out.steps sk)
   replace Fb := Hid.mk_ (Fb.out.steps sk)
   replace Fa_ := Hid.mk_ (Fa_.out.steps sk)
   replace Fb_ := Hid.mk_ (Fb_.out.steps sk)
   replace kk := kk.then_ sk
   clear st sk
   obtain ⟨c_1, c_2, c_3, c_4, c_5, c_6, c_7, c_8, rfl⟩ := hvc_.shape
   have Fc_ := Hid.mk_ hvc_
   clear hvc_
   have zvb_7 : w6.heap.size < w7.heap.size := ovb.lt
   have zz7 := B.size
   go_wp2_with fail
   refine (NB _ _ (Fb.out.steps belowB)).mono ?_
   rintro e w8 ⟨vd_, rfl, hvd_, hb8⟩
   have st : Steps _ w8 := hb8
   have sk : Below w7.heap.size w7 w8 := belowA st
   replace B := below_steps B (Nat.le_refl _) sk
   have ovc : Blk w8 (w7.heap.size) 27 #[.bool c_1, .slice c_2 c_3 c_4, .bool c_5, .slice c_6 c_7 c_8] := Blk.stepsK st
   replace ok := ok.steps sk
   replace ova := ova.steps sk
   replace ovb := ovb.steps sk
   replace HL := Hid.mk_ (HL.out.steps sk)
   replace Fb := Hid.mk_ (Fb.out.steps sk)
   replace Fa_ := Hid.mk_ (Fa_.out.steps sk)
   replace Fb_ := Hid.mk_ (Fb_.out.steps sk)
   replace Fc_ := Hid.mk_ (Fc_.out.steps sk)
   replace kk := kk.then_ sk
   clear st sk
   obtain ⟨cva0, cva1, cva2, cva3⟩ := ova.r3
   have lva := ova.lt
   obtain ⟨cvb0, cvb1, cvb2, cvb3⟩ := ovb.r3
   have lvb := ovb.lt
   obtain ⟨d_1, d_2, d_3, d_4, d_5, d_6, d_7, d_8, rfl⟩ := hvd_.shape
   have Fd_ := Hid.mk_ hvd_
   clear hvd_
   have zvc_8 : w7.heap.size < w8.heap.size := ovc.lt
   have zz8 := B.size
   go_wp2_with fail
   refine (S1 _ _ _ (Fb_.out.keeps keepsB) (Fa_.out.keeps keepsB)).mono ?_
   rintro e w9 ⟨vu_, rfl, hvu_, hb9⟩
   have st : Steps _ w9 := hb9
   have sk : Below w8.heap.size w8 w9 := belowA st
   replace B := below_steps B (Nat.le_refl _) sk
   have ovd : Blk w9 (w8.heap.size) 27 #[.bool d_1, .slice d_2 d_3 d_4, .bool d_5, .slice d_6 d_7 d_8] := Blk.stepsK st
   replace ok := ok.steps sk
   replace ova := ova.steps sk
   replace ovb := ovb.steps sk
   replace ovc := ovc.steps sk
   replace HL := Hid.mk_ (HL.out.steps sk)
   replace Fb := Hid.mk_ (Fb.out.steps sk)
   replace Fa_ := Hid.mk_ (Fa_.out.steps sk)
   replace Fb_ := Hid.mk_ (Fb_.out.steps sk)
   replace Fc_ := Hid.mk_ (Fc_.out.steps sk)
   replace Fd_ := Hid.mk_ (Fd_.out.steps sk)
   replace kk := kk.then_ sk
   clear st sk cva0 cva1 cva2 cva3 lva cvb0 cvb1 cvb2 cvb3 lvb
   obtain ⟨cvc0, cvc1, cvc2, cvc3⟩ := ovc.r3
   have lvc := ovc.lt
   obtain ⟨cvd0, cvd1, cvd2, cvd3⟩ := ovd.r3
   have lvd := ovd.lt
   obtain ⟨u_1, u_2, u_3, u_4, u_5, u_6, u_7, u_8, rfl⟩ := hvu_.shape
   have Fu_ := Hid.mk_ hvu_
   clear hvu_
   have zvd_9 : w8.heap.size < w9.heap.size := ovd.lt
   have zz9 := B.size
   go_wp2_with fail
   refine (S2 _ _ _ (Fd_.out.keeps keepsB) (Fc_.out.keeps keepsB)).mono ?_
   rintro e w10 ⟨vv_, rfl, hvv_, hb10⟩
   have st : Steps _ w10 := hb10
   have sk : Below w9.heap.size w9 w10 := belowA st
   replace B := below_steps B (Nat.le_refl _) sk
   have ovu : Blk w10 (w9.heap.size) 27 #[.bool u_1, .slice u_2 u_3 u_4, .bool u_5, .slice u_6 u_7 u_8] := Blk.stepsK st
   replace ok := ok.steps sk
   replace ova := ova.steps sk
   replace ovb := ovb.steps sk
   replace ovc := ovc.steps sk
   replace ovd := ovd.steps sk
   replace HL := Hid.mk_ (HL.out.steps sk)
   replace Fb := Hid.mk_ (Fb.out.steps sk)
   replace Fa_ := Hid.mk_ (Fa_.out.steps sk)
   replace Fb_ := Hid.mk_ (Fb_.out.steps sk)
   replace Fc_ := Hid.mk_ (Fc_.out.steps sk)
   replace Fd_ := Hid.mk_ (Fd_.out.steps sk)
   replace Fu_ := Hid.mk_ (Fu_.out.steps sk)
   replace kk := kk.then_ sk
   clear st sk cvc0 cvc1 cvc2 cvc3 lvc cvd0 cvd1 cvd2 cvd3 lvd
   obtain ⟨cvu0, cvu1, cvu2, cvu3⟩ := ovu.r3
   have lvu := ovu.lt
   obtain ⟨v_1, v_2, v_3, v_4, v_5, v_6, v_7, v_8, rfl⟩ := hvv_.shape
   have Fv_ := Hid.mk_ hvv_
   clear hvv_
   have zvu_10 : w9.heap.size < w10.heap.size := ovu.lt
   have zz10 := B.size
   go_wp2_with fail
   refine (IS _ _ _ _ _ _ _ _ _ (Fu_.out.keeps keepsB)).mono ?_
   rintro e w11 ⟨rfl, hb11⟩
   have st : Steps _ w11 := hb11
   have sk : Below w10.heap.size w10 w11 := belowA st
   replace B := below_steps B (Nat.le_refl _) sk
   have ovv : Blk w11 (w10.heap.size) 27 #[.bool v_1, .slice v_2 v_3 v_4, .bool v_5, .slice v_6 v_7 v_8] := Blk.stepsK st
   replace ok := ok.steps sk
   replace ova := ova.steps sk
   replace ovb := ovb.steps sk
   replace ovc := ovc.steps sk
   replace ovd := ovd.steps sk
   replace ovu := ovu.steps sk
   replace HL := Hid.mk_ (HL.out.steps sk)
   replace Fb := Hid.mk_ (Fb.out.steps sk)
   replace Fa_ := Hid.mk_ (Fa_.out.steps sk)
   replace Fb_ := Hid.mk_ (Fb_.out.steps sk)
   replace Fc_ := Hid.mk_ (Fc_.out.steps sk)
   replace Fd_ := Hid.mk_ (Fd_.out.steps sk)
   replace Fu_ := Hid.mk_ (Fu_.out.steps sk)
   replace Fv_ := Hid.mk_ (Fv_.out.steps sk)
   replace kk := kk.then_ sk
   clear st sk cvu0 cvu1 cvu2 cvu3 lvu
   obtain ⟨cvv0, cvv1, cvv2, cvv3⟩ := ovv.r3
   have lvv := ovv.lt
   go_wp2_with fail
   refine (IS _ _ _ _ _ _ _ _ _ (Fv_.out.keeps keepsB)).mono ?_
   rintro e w12 ⟨rfl, hb12⟩
   have st : Steps _ w12 := hb12
   have sk : Below w11.heap.size w11 w12 := belowA st
   replace B := below_steps B (Nat.le_refl _) sk
   replace ok := ok.steps sk
   replace ova := ova.steps sk
   replace ovb := ovb.steps sk
   replace ovc := ovc.steps sk
   replace ovd := ovd.steps sk
   replace ovu := ovu.steps sk
   replace ovv := ovv.steps sk
   replace HL := Hid.mk_ (HL.out.steps sk)
   replace Fb := Hid.mk_ (Fb.out.steps sk)
   replace Fa_ := Hid.mk_ (Fa_.out.steps sk)
   replace Fb_ := Hid.mk_ (Fb_.out.steps sk)
   replace Fc_ := Hid.mk_ (Fc_.out.steps sk)
   replace Fd_ := Hid.mk_ (Fd_.out.steps sk)
   replace Fu_ := Hid.mk_ (Fu_.out.steps sk)
   replace Fv_ := Hid.mk_ (Fv_.out.steps sk)
   replace kk := kk.then_ sk
   clear st sk cvv0 cvv1 cvv2 cvv3 lvv
   go_wp2_with fail
   refine (VA _ _ (HL.out.steps belowB)).mono ?_
   rintro e w13 ⟨vg_, rfl, hvg_, hb13⟩
   have st : Steps _ w13 := hb13
   have sk : Below w12.heap.size w12 w13 := belowA st
   replace B := below_steps B (Nat.le_refl _) sk
   replace ok := ok.steps sk
   replace ova := ova.steps sk
   replace ovb := ovb.steps sk
   replace ovc := ovc.steps sk
   replace ovd := ovd.steps sk
   replace ovu := ovu.steps sk
   replace ovv := ovv.steps sk
   replace HL := Hid.mk_ (HL.out.steps sk)
   replace Fb := Hid.mk_ (Fb.out.steps sk)
   replace Fa_ := Hid.mk_ (Fa_.out.steps sk)
   replace Fb_ := Hid.mk_ (Fb_.out.steps sk)
   replace Fc_ := Hid.mk_ (Fc_.out.steps sk)
   replace Fd_ := Hid.mk_ (Fd_.out.steps sk)
   replace Fu_ := Hid.mk_ (Fu_.out.steps sk)
   replace Fv_ := Hid.mk_ (Fv_.out.steps sk)
   replace kk := kk.then_ sk
   clear st sk
   obtain ⟨g_1, g_2, g_3, g_4, g_5, g_6, g_7, g_8, rfl⟩ := hvg_.shape
   have Fg_ := Hid.mk_ hvg_
   clear hvg_
   have zvv_13 : w10.heap.size < w13.heap.size := ovv.lt
   have zz13 := B.size
   go_wp2_with fail
   refine (VB _ _ (Fb.out.steps belowB)).mono ?_
   rintro e w14 ⟨vh_, rfl, hvh_, hb14⟩
   have st : Steps _ w14 := hb14
   have sk : Below w13.heap.size w13 w14 := belowA st
   replace B := below_steps B (Nat.le_refl _) sk
   have ovp : Blk w14 (w13.heap.size) 27 #[.bool g_1, .slice g_2 g_3 g_4, .bool g_5, .slice g_6 g_7 g_8] := Blk.stepsK st
   replace ok := ok.steps sk
   replace ova := ova.steps sk
   replace ovb := ovb.steps sk
   replace ovc := ovc.steps sk
   replace ovd := ovd.steps sk
   replace ovu := ovu.steps sk
   replace ovv := ovv.steps sk
   replace HL := Hid.mk_ (HL.out.steps sk)
   replace Fb := Hid.mk_ (Fb.out.steps sk)
   replace Fa_ := Hid.mk_ (Fa_.out.steps sk)
   replace Fb_ := Hid.mk_ (Fb_.out.steps sk)
   replace Fc_ := Hid.mk_ (Fc_.out.steps sk)
   replace Fd_ := Hid.mk_ (Fd_.out.steps sk)
   replace Fu_ := Hid.mk_ (Fu_.out.steps sk)
   replace Fv_ := Hid.mk_ (Fv_.out.steps sk)
   replace Fg_ := Hid.mk_ (Fg_.out.steps sk)
   replace kk := kk.then_ sk
   clear st sk
   obtain ⟨h_1, h_2, h_3, h_4, h_5, h_6, h_7, h_8, rfl⟩ := hvh_.shape
   have Fh_ := Hid.mk_ hvh_
   clear hvh_
   have zvp_14 : w13.heap.size < w14.heap.size := ovp.lt
   have zz14 := B.size
   go_wp2_with fail
   refine (DA _ _ (HL.out.steps belowB)).mono ?_
   rintro e w15 ⟨ve_, rfl, hve_, hb15⟩
   have st : Steps _ w15 := hb15
   have sk : Below w14.heap.size w14 w15 := belowA st
   replace B := below_steps B (Nat.le_refl _) sk
   have ovq : Blk w15 (w14.heap.size) 27 #[.bool h_1, .slice h_2 h_3 h_4, .bool h_5, .slice h_6 h_7 h_8] := Blk.stepsK st
   replace ok := ok.steps sk
   replace ova := ova.steps sk
   replace ovb := ovb.steps sk
   replace ovc := ovc.steps sk
   replace ovd := ovd.steps sk
   replace ovu := ovu.steps sk
   replace ovv := ovv.steps sk
   replace ovp := ovp.steps sk
   replace HL := Hid.mk_ (HL.out.steps sk)
   replace Fb := Hid.mk_ (Fb.out.steps sk)
   replace Fa_ := Hid.mk_ (Fa_.out.steps sk)
   replace Fb_ := Hid.mk_ (Fb_.out.steps sk)
   replace Fc_ := Hid.mk_ (Fc_.out.steps sk)
   replace Fd_ := Hid.mk_ (Fd_.out.steps sk)
   replace Fu_ := Hid.mk_ (Fu_.out.steps sk)
   replace Fv_ := Hid.mk_ (Fv_.out.steps sk)
   replace Fg_ := Hid.mk_ (Fg_.out.steps sk)
   replace Fh_ := Hid.mk_ (Fh_.out.steps sk)
   replace kk := kk.then_ sk
   clear st sk
   obtain ⟨e_1, e_2, e_3, e_4, e_5, e_6, e_7, e_8, rfl⟩ := hve_.shape
   have Fe_ := Hid.mk_ hve_
   clear hve_
   have zvq_15 : w14.heap.size < w15.heap.size := ovq.lt
   have zz15 := B.size
   go_wp2_with fail
   refine (DB _ _ (Fb.out.steps belowB)).mono ?_
   rintro e w16 ⟨vf_, rfl, hvf_, hb16⟩
   have st : Steps _ w16 := hb16
   have sk : Below w15.heap.size w15 w16 := belowA st
   replace B := below_steps B (Nat.le_refl _) sk
   have ovr : Blk w16 (w15.heap.size) 27 #[.bool e_1, .slice e_2 e_3 e_4, .bool e_5, .slice e_6 e_7 e_8] := Blk.stepsK st
   replace ok := ok.steps sk
   replace ova := ova.steps sk
   replace ovb := ovb.steps sk
   replace ovc := ovc.steps sk
   replace ovd := ovd.steps sk
   replace ovu := ovu.steps sk
   replace ovv := ovv.steps sk
   replace ovp := ovp.steps sk
   replace ovq := ovq.steps sk
   replace HL := Hid.mk_ (HL.out.steps sk)
   replace Fb := Hid.mk_ (Fb.out.steps sk)
   replace Fa_ := Hid.mk_ (Fa_.out.steps sk)
   replace Fb_ := Hid.mk_ (Fb_.out.steps sk)
   replace Fc_ := Hid.mk_ (Fc_.out.steps sk)
   replace Fd_ := Hid.mk_ (Fd_.out.steps sk)
   replace Fu_ := Hid.mk_ (Fu_.out.steps sk)
   replace Fv_ := Hid.mk_ (Fv_.out.steps sk)
   replace Fg_ := Hid.mk_ (Fg_.out.steps sk)
   replace Fh_ := Hid.mk_ (Fh_.out.steps sk)
   replace Fe_ := Hid.mk_ (Fe_.out.steps sk)
   replace kk := kk.then_ sk
   clear st sk
   obtain ⟨f_1, f_2, f_3, f_4, f_5, f_6, f_7, f_8, rfl⟩ := hvf_.shape
   have Ff_ := Hid.mk_ hvf_
   clear hvf_
   have zvr_16 : w15.heap.size < w16.heap.size := ovr.lt
   have zz16 := B.size
   go_wp2_with fail
   refine (PA _ _ (HL.out.steps belowB)).mono ?_
   rintro e w17 ⟨rfl, hb17⟩
   have st : Steps _ w17 := hb17
   have sk : Below w16.heap.size w16 w17 := belowA st
   replace B := below_steps B (Nat.le_refl _) sk
   have ovs : Blk w17 (w16.heap.size) 27 #[.bool f_1, .slice f_2 f_3 f_4, .bool f_5, .slice f_6 f_7 f_8] := Blk.stepsK st
   replace ok := ok.steps sk
   replace ova := ova.steps sk
   replace ovb := ovb.steps sk
   replace ovc := ovc.steps sk
   replace ovd := ovd.steps sk
   replace ovu := ovu.steps sk
   replace ovv := ovv.steps sk
   replace ovp := ovp.steps sk
   replace ovq := ovq.steps sk
   replace ovr := ovr.steps sk
   replace HL := Hid.mk_ (HL.out.steps sk)
   replace Fb := Hid.mk_ (Fb.out.steps sk)
   replace Fa_ := Hid.mk_ (Fa_.out.steps sk)
   replace Fb_ := Hid.mk_ (Fb_.out.steps sk)
   replace Fc_ := Hid.mk_ (Fc_.out.steps sk)
   replace Fd_ := Hid.mk_ (Fd_.out.steps sk)
   replace Fu_ := Hid.mk_ (Fu_.out.steps sk)
   replace Fv_ := Hid.mk_ (Fv_.out.steps sk)
   replace Fg_ := Hid.mk_ (Fg_.out.steps sk)
   replace Fh_ := Hid.mk_ (Fh_.out.steps sk)
   replace Fe_ := Hid.mk_ (Fe_.out.steps sk)
   replace Ff_ := Hid.mk_ (Ff_.out.steps sk)
   replace kk := kk.then_ sk
   clear st sk
   go_wp2_with fail
   refine (PB _ _ (Fb.out.steps belowB)).mono ?_
   rintro e w18 ⟨rfl, hb18⟩
   have st : Steps _ w18 := hb18
   have sk : Below w17.heap.size w17 w18 := belowA st
   replace B := below_steps B (Nat.le_refl _) sk
   replace ok := ok.steps sk
   replace ova := ova.steps sk
   replace ovb := ovb.steps sk
   replace ovc := ovc.steps sk
   replace ovd := ovd.steps sk
   replace ovu := ovu.steps sk
   replace ovv := ovv.steps sk
   replace ovp := ovp.steps sk
   replace ovq := ovq.steps sk
   replace ovr := ovr.steps sk
   replace ovs := ovs.steps sk
   replace HL := Hid.mk_ (HL.out.steps sk)
   replace Fb := Hid.mk_ (Fb.out.steps sk)
   replace Fa_ := Hid.mk_ (Fa_.out.steps sk)
   replace Fb_ := Hid.mk_ (Fb_.out.steps sk)
   replace Fc_ := Hid.mk_ (Fc_.out.steps sk)
   replace Fd_ := Hid.mk_ (Fd_.out.steps sk)
   replace Fu_ := Hid.mk_ (Fu_.out.steps sk)
   replace Fv_ := Hid.mk_ (Fv_.out.steps sk)
   replace Fg_ := Hid.mk_ (Fg_.out.steps sk)
   replace Fh_ := Hid.mk_ (Fh_.out.steps sk)
   replace Fe_ := Hid.mk_ (Fe_.out.steps sk)
   replace Ff_ := Hid.mk_ (Ff_.out.steps sk)
   replace kk := kk.then_ sk
   clear st sk
   obtain ⟨cvp0, cvp1, cvp2, cvp3⟩ := ovp.r3
   have lvp := ovp.lt
   obtain ⟨cvq0, cvq1, cvq2, cvq3⟩ := ovq.r3
   have lvq := ovq.lt
   go_wp2_with fail
   refine (psame (c := 0) (r := rq_) _ (Fg_.out.keeps keepsB) (Fh_.out.keeps keepsB)).mono ?_
   rintro e w19 ⟨rfl, hb19⟩
   have st : Steps _ w19 := hb19
   have sk : Below w18.heap.size w18 w19 := belowA st
   replace B := below_steps B (Nat.le_refl _) sk
   replace ok := ok.steps sk
   replace ova := ova.steps sk
   replace ovb := ovb.steps sk
   replace ovc := ovc.steps sk
   replace ovd := ovd.steps sk
   replace ovu := ovu.steps sk
   replace ovv := ovv.steps sk
   replace ovp := ovp.steps sk
   replace ovq := ovq.steps sk
   replace ovr := ovr.steps sk
   replace ovs := ovs.steps sk
   replace HL := Hid.mk_ (HL.out.steps sk)
   replace Fb := Hid.mk_ (Fb.out.steps sk)
   replace Fa_ := Hid.mk_ (Fa_.out.steps sk)
   replace Fb_ := Hid.mk_ (Fb_.out.steps sk)
   replace Fc_ := Hid.mk_ (Fc_.out.steps sk)
   replace Fd_ := Hid.mk_ (Fd_.out.steps sk)
   replace Fu_ := Hid.mk_ (Fu_.out.steps sk)
   replace Fv_ := Hid.mk_ (Fv_.out.steps sk)
   replace Fg_ := Hid.mk_ (Fg_.out.steps sk)
   replace Fh_ := Hid.mk_ (Fh_.out.steps sk)
   replace Fe_ := Hid.mk_ (Fe_.out.steps sk)
   replace Ff_ := Hid.mk_ (Ff_.out.steps sk)
   replace kk := kk.then_ sk
   clear st sk cvp0 cvp1 cvp2 cvp3 lvp cvq0 cvq1 cvq2 cvq3 lvq
   obtain ⟨cvr0, cvr1, cvr2, cvr3⟩ := ovr.r3
   have lvr := ovr.lt
   obtain ⟨cvs0, cvs1, cvs2, cvs3⟩ := ovs.r3
   have lvs := ovs.lt
   go_wp2_with fail
   refine (psame (c := 0) (r := vq) _ (Fe_.out.keeps keepsB) (Ff_.out.keeps keepsB)).mono ?_
   rintro e w20 ⟨rfl, hb20⟩
   have st : Steps _ w20 := hb20
   have sk : Below w19.heap.size w19 w20 := belowA st
   replace B := below_steps B (Nat.le_refl _) sk
   replace ok := ok.steps sk
   replace ova := ova.steps sk
   replace ovb := ovb.steps sk
   replace ovc := ovc.steps sk
   replace ovd := ovd.steps sk
   replace ovu := ovu.steps sk
   replace ovv := ovv.steps sk
   replace ovp := ovp.steps sk
   replace ovq := ovq.steps sk
   replace ovr := ovr.steps sk
   replace ovs := ovs.steps sk
   replace HL := Hid.mk_ (HL.out.steps sk)
   replace Fb := Hid.mk_ (Fb.out.steps sk)
   replace Fa_ := Hid.mk_ (Fa_.out.steps sk)
   replace Fb_ := Hid.mk_ (Fb_.out.steps sk)
   replace Fc_ := Hid.mk_ (Fc_.out.steps sk)
   replace Fd_ := Hid.mk_ (Fd_.out.steps sk)
   replace Fu_ := Hid.mk_ (Fu_.out.steps sk)
   replace Fv_ := Hid.mk_ (Fv_.out.steps sk)
   replace Fg_ := Hid.mk_ (Fg_.out.steps sk)
   replace Fh_ := Hid.mk_ (Fh_.out.steps sk)
   replace Fe_ := Hid.mk_ (Fe_.out.steps sk)
   replace Ff_ := Hid.mk_ (Ff_.out.steps sk)
   replace kk := kk.then_ sk
   clear st sk cvr0 cvr1 cvr2 cvr3 lvr cvs0 cvs1 cvs2 cvs3 lvs
   obtain ⟨ck0, ck1, ck2, ck3⟩ := ok.r3
   have lk := ok.lt
   go_wp2_with fail
   refine (CA _ _ (kk.trans keepsB) (HL.out.steps belowB)).mono ?_
   rintro e w21 ⟨vu, rfl, hvu, hb21⟩
   have st : Steps _ w21 := hb21
   have sk : Below w20.heap.size w20 w21 := belowA st
   replace B := below_steps B (Nat.le_refl _) sk
   replace ok := ok.steps sk
   replace ova := ova.steps sk
   replace ovb := ovb.steps sk
   replace ovc := ovc.steps sk
   replace ovd := ovd.steps sk
   replace ovu := ovu.steps sk
   replace ovv := ovv.steps sk
   replace ovp := ovp.steps sk
   replace ovq := ovq.steps sk
   replace ovr := ovr.steps sk
   replace ovs := ovs.steps sk
   replace HL := Hid.mk_ (HL.out.steps sk)
   replace Fb := Hid.mk_ (Fb.out.steps sk)
   replace Fa_ := Hid.mk_ (Fa_.out.steps sk)
   replace Fb_ := Hid.mk_ (Fb_.out.steps sk)
   replace Fc_ := Hid.mk_ (Fc_.out.steps sk)
   replace Fd_ := Hid.mk_ (Fd_.out.steps sk)
   replace Fu_ := Hid.mk_ (Fu_.out.steps sk)
   replace Fv_ := Hid.mk_ (Fv_.out.steps sk)
   replace Fg_ := Hid.mk_ (Fg_.out.steps sk)
   replace Fh_ := Hid.mk_ (Fh_.out.steps sk)
   replace Fe_ := Hid.mk_ (Fe_.out.steps sk)
   replace Ff_ := Hid.mk_ (Ff_.out.steps sk)
   replace kk := kk.then_ sk
   clear st sk ck0 ck1 ck2 ck3 lk
   obtain ⟨ck0, ck1, ck2, ck3⟩ := ok.r3
   have lk := ok.lt
   obtain ⟨ua, uc, rfl⟩ := hvu.shape
   rw [xl] at hvu ⊢
   have Fu := Hid.mk_ hvu
   clear hvu
   go_wp2_with fail
   refine (CB _ _ (kk.trans keepsB) (Fb.out.steps belowB)).mono ?_
   rintro e w22 ⟨vy, rfl, hvy, hb22⟩
   have st : Steps _ w22 := hb22
   have sk : Below w21.heap.size w21 w22 := belowA st
   replace B := below_steps B (Nat.le_refl _) sk
   replace ok := ok.steps sk
   replace ova := ova.steps sk
   replace ovb := ovb.steps sk
   replace ovc := ovc.steps sk
   replace ovd := ovd.steps sk
   replace ovu := ovu.steps sk
   replace ovv := ovv.steps sk
   replace ovp := ovp.steps sk
   replace ovq := ovq.steps sk
   replace ovr := ovr.steps sk
   replace ovs := ovs.steps sk
   replace HL := Hid.mk_ (HL.out.steps sk)
   replace Fb := Hid.mk_ (Fb.out.steps sk)
   replace Fa_ := Hid.mk_ (Fa_.out.steps sk)
   replace Fb_ := Hid.mk_ (Fb_.out.steps sk)
   replace Fc_ := Hid.mk_ (Fc_.out.steps sk)
   replace Fd_ := Hid.mk_ (Fd_.out.steps sk)
   replace Fu_ := Hid.mk_ (Fu_.out.steps sk)
   replace Fv_ := Hid.mk_ (Fv_.out.steps sk)
   replace Fg_ := Hid.mk_ (Fg_.out.steps sk)
   replace Fh_ := Hid.mk_ (Fh_.out.steps sk)
   replace Fe_ := Hid.mk_ (Fe_.out.steps sk)
   replace Ff_ := Hid.mk_ (Ff_.out.steps sk)
   replace Fu := Hid.mk_ (Fu.out.steps sk)
   replace kk := kk.then_ sk
   clear st sk ck0 ck1 ck2 ck3 lk
   obtain ⟨ya, yc, rfl⟩ := hvy.shape
   rw [xl] at hvy ⊢
   have Fy := Hid.mk_ hvy
   clear hvy
   go_wp2_with fail
   refine (rsameInts (l := xs) _ (Fu.out.steps belowB) (Fy.out.steps belowB) (by omega)).mono ?_
   rintro e w23 ⟨rfl, hb23⟩
   have st : Steps _ w23 := hb23
   have sk : Below w22.heap.size w22 w23 := belowA st
   replace B := below_steps B (Nat.le_refl _) sk
   replace ok := ok.steps sk
   replace ova := ova.steps sk
   replace ovb := ovb.steps sk
   replace ovc := ovc.steps sk
   replace ovd := ovd.steps sk
   replace ovu := ovu.steps sk
   replace ovv := ovv.steps sk
   replace ovp := ovp.steps sk
   replace ovq := ovq.steps sk
   replace ovr := ovr.steps sk
   replace ovs := ovs.steps sk
   replace HL := Hid.mk_ (HL.out.steps sk)
   replace Fb := Hid.mk_ (Fb.out.steps sk)
   replace Fa_ := Hid.mk_ (Fa_.out.steps sk)
   replace Fb_ := Hid.mk_ (Fb_.out.steps sk)
   replace Fc_ := Hid.mk_ (Fc_.out.steps sk)
   replace Fd_ := Hid.mk_ (Fd_.out.steps sk)
   replace Fu_ := Hid.mk_ (Fu_.out.steps sk)
   replace Fv_ := Hid.mk_ (Fv_.out.steps sk)
   replace Fg_ := Hid.mk_ (Fg_.out.steps sk)
   replace Fh_ := Hid.mk_ (Fh_.out.steps sk)
   replace Fe_ := Hid.mk_ (Fe_.out.steps sk)
   replace Ff_ := Hid.mk_ (Ff_.out.steps sk)
   replace Fu := Hid.mk_ (Fu.out.steps sk)
   replace Fy := Hid.mk_ (Fy.out.steps sk)
   replace kk := kk.then_ sk
   clear st sk
   go_wp2_with fail
   go_returns
   exact ⟨rfl, belowB⟩
theorem moved_ok1 {vl : Value} {l : List Int} {k1 k5 : Bool} {k2 k6 : Option Addr} {p k4 p' k8 : Nat} {o : Option Rat} (bb num den : Int) (w : World) (hl : IntsR w vl l) (hk : FB w (.agg #[.bool k1, .slice k2 p k4, .bool k5, .slice k6 p' k8]) o) (ho : ∀ z, o = some z → absN z.num ≤ bp p ∧ (z.den : Int) ≤ bp p') (hnum : -9223372036854775808 ≤ num ∧ num ≤ 9223372036854775807) (hden : -9223372036854775808 ≤ den ∧ den ≤ 9223372036854775807) (h : l.length ≤ 24) (ha : askV l = 0) (b1 : ¬ bb < -8589934592) (b2 : ¬ 8589934592 < bb) (hf : facB o = true) (h1 : p ≤ 4) (h2 : p' ≤ 4) (hm : chkV (l.map (· + bb)) = 0) (hpe : (pctS l num den).2 ≠ 0) :
  Calls Tryz.prog 7 #[vl, .int .i64 bb, .int .i64 num, .int .i64 den, .agg #[.bool k1, .slice k2 p k4, .bool k5, .slice k6 p' k8]] w fun e w' => e = .returned (.bool true) ∧ Steps w w' := by
 obtain ⟨hv, h0⟩ := askV_val ha
 have hl24 := h
 obtain ⟨kq, rfl, q1, q2⟩ := facB_ok hf
 have zk : ∀ r, some kq = some r → sz r 4 := fun r e => ⟨Int.le_trans (ho r e).1 (bp_mono h1), Int.le_trans (ho r e).2 (bp_mono h2)⟩
 have HRNG : ∀ t, t < l.length → -4294967296 ≤ l.getD t 0 ∧ l.getD t 0 ≤ 4294967296 := fun t ht => hv.2 _ (getD_mem ht)
 have AS : ∀ w', Steps w w' → Calls Tryz.prog 21 #[vl] w' fun e w2 => e = .returned (.int .i64 0) ∧ Steps w' w2 := fun w' s => by have := pvasked w' (hl.steps s) (by omega); rw [ha] at this; exact this
 have FA : ∀ w', Keeps w w' → Calls Tryz.prog 22 #[.agg #[.bool k1, .slice k2 p k4, .bool k5, .slice k6 p' k8]] w' fun e w2 => e = .returned (.bool true) ∧ Steps w' w2 := fun w' s => by have := pvfactor w' (hk.keeps s) zk; rw [hf] at this; exact this
 have CK : ∀ w' v, IntsR w' v (l.map (· + bb)) → Calls Tryz.prog 31 #[v] w' fun e w2 => e = .returned (.int .i64 (chkV (l.map (· + bb)))) ∧ Steps w' w2 := fun w' v h => prvcheck w' h (by rw [List.length_map]; omega)
 rw [hm] at CK
 have m0 : l.map (· + bb) ≠ [] := fun e => h0 (by simpa using e)
 obtain ⟨hvm, ham⟩ := chkV_val hm m0
 have lt := fun i (h : i ∈ (clipR l kq).1) => clipR_lt (l := l) (k := kq) (i := i) h
 have e1 : clipS l (some kq) = ((clipR l kq).1, (clipR l kq).2, 0) := by unfold clipS; rw [if_pos ha, if_pos hf]; rfl
 have e2 : clipS (l.map (· + bb)) (some kq) = ((clipR l kq).1, (clipR l kq).2, 0) := by
  unfold clipS
  rw [if_pos ham, if_pos hf]
  show ((clipR (l.map (· + bb)) kq).1, (clipR (l.map (· + bb)) kq).2, (0 : Int)) = _
  rw [clip_map]
 have CA : ∀ w' v, Keeps w w' → IntsR w' v l → Calls Tryz.prog 14 #[v, .agg #[.bool k1, .slice k2 p k4, .bool k5, .slice k6 p' k8]] w' fun e w2 => ∃ u, e = .returned (.tuple #[u, .int .i64 ((clipR l kq).2 : Nat), .int .i64 0]) ∧ IntsR w2 u (inI (clipR l kq).1) ∧ Steps w' w2 := fun w' v k h => by have := vClip w' h (by omega) (hk.keeps k) zk; rw [e1] at this; exact this
 have CB : ∀ w' v, Keeps w w' → IntsR w' v (l.map (· + bb)) → Calls Tryz.prog 14 #[v, .agg #[.bool k1, .slice k2 p k4, .bool k5, .slice k6 p' k8]] w' fun e w2 => ∃ u, e = .returned (.tuple #[u, .int .i64 ((clipR l kq).2 : Nat), .int .i64 0]) ∧ IntsR w2 u (inI (clipR l kq).1) ∧ Steps w' w2 := fun w' v k h => by have := vClip w' h (by rw [List.length_map]; omega) (hk.keeps k) zk; rw [e2] at this; exact this
 have PA : ∀ w' v, IntsR w' v l → Calls Tryz.prog 26 #[v, .int .i64 num, .int .i64 den] w' fun e w2 => e = .returned (.tuple #[.int .i64 (pctS l num den).1, .int .i64 (pctS l num den).2]) ∧ Steps w' w2 := fun w' v h => vPercentile num den w' h (by omega) (fun _ => hl24) hnum hden
 have PB : ∀ w' v, IntsR w' v (l.map (· + bb)) → Calls Tryz.prog 26 #[v, .int .i64 num, .int .i64 den] w' fun e w2 => e = .returned (.tuple #[.int .i64 (pctS (l.map (· + bb)) num den).1, .int .i64 (pctS (l.map (· + bb)) num den).2]) ∧ Steps w' w2 := fun w' v h => vPercentile num den w' h (by rw [List.length_map]; omega) (fun _ => by rw [List.length_map]; omega) hnum hden
 obtain ⟨pm2, pm1⟩ := pctS_moved bb num den ha ham
 rw [pm2] at PB
 clear pm1
 generalize (pctS (l.map (· + bb)) num den).1 = pb at *
 have MA : ∀ w' v, IntsR w' v l → Calls Tryz.prog 10 #[v] w' fun e w2 => ∃ u, e = .returned (.tuple #[u, .int .i64 0]) ∧ FR w2 u (meanQ l) ∧ Steps w' w2 := fun w' v h => by
  have := vMean w' h (by first | omega | (rw [List.length_map]; omega))
  rw [ha] at this
  exact this
 have MB : ∀ w' v, IntsR w' v (l.map (· + bb)) → Calls Tryz.prog 10 #[v] w' fun e w2 => ∃ u, e = .returned (.tuple #[u, .int .i64 0]) ∧ FR w2 u (meanQ l + (bb : Rat)) ∧ Steps w' w2 := fun w' v h => by
  have := vMean w' h (by first | omega | (rw [List.length_map]; omega))
  rw [ham, mean_map bb h0] at this
  exact this
 have NA : ∀ w' v, IntsR w' v l → Calls Tryz.prog 25 #[v] w' fun e w2 => ∃ u, e = .returned (.tuple #[u, .int .i64 0]) ∧ FR w2 u (medQ l) ∧ Steps w' w2 := fun w' v h => by
  have := vMedian w' h (by first | omega | (rw [List.length_map]; omega)) (fun _ => hl24)
  rw [ha] at this
  exact this
 have NB : ∀ w' v, IntsR w' v (l.map (· + bb)) → Calls Tryz.prog 25 #[v] w' fun e w2 => ∃ u, e = .returned (.tuple #[u, .int .i64 0]) ∧ FR w2 u (medQ l + (bb : Rat)) ∧ Steps w' w2 := fun w' v h => by
  have := vMedian w' h (by first | omega | (rw [List.length_map]; omega)) (fun _ => by rw [List.length_map]; omega)
  rw [ham, med_map bb h0] at this
  exact this
 have DA : ∀ w' v, IntsR w' v l → Calls Tryz.prog 30 #[v] w' fun e w2 => ∃ u, e = .returned (.tuple #[u, .int .i64 0]) ∧ FR w2 u (dvnQ l) ∧ Steps w' w2 := fun w' v h => by
  have := vDeviation w' h (by first | omega | (rw [List.length_map]; omega)) (fun _ => hl24)
  rw [ha] at this
  exact this
 have DB : ∀ w' v, IntsR w' v (l.map (· + bb)) → Calls Tryz.prog 30 #[v] w' fun e w2 => ∃ u, e = .returned (.tuple #[u, .int .i64 0]) ∧ FR w2 u (dvnQ l) ∧ Steps w' w2 := fun w' v h => by
  have := vDeviation w' h (by first | omega | (rw [List.length_map]; omega)) (fun _ => by rw [List.length_map]; omega)
  rw [ham, dvn_map bb h0] at this
  exact this
 have VA : ∀ w' v, IntsR w' v l → Calls Tryz.prog 12 #[v] w' fun e w2 => ∃ u, e = .returned (.tuple #[u, .int .i64 0]) ∧ FR w2 u (varQ l) ∧ Steps w' w2 := fun w' v h => by
  have := vVariance w' h (by first | omega | (rw [List.length_map]; omega))
  rw [ha] at this
  exact this
 have VB : ∀ w' v, IntsR w' v (l.map (· + bb)) → Calls Tryz.prog 12 #[v] w' fun e w2 => ∃ u, e = .returned (.tuple #[u, .int .i64 0]) ∧ FR w2 u (varQ l) ∧ Steps w' w2 := fun w' v h => by
  have := vVariance w' h (by first | omega | (rw [List.length_map]; omega))
  rw [ham, var_map] at this
  exact this
 have S1 : ∀ w' u v, FR w' u (meanQ l + (bb : Rat)) → FR w' v (meanQ l) → Calls Tryz.prog 32 #[u, v] w' fun e w2 => ∃ v, e = .returned (.tuple #[v, .int .i64 0]) ∧ FR w2 v ((bb : Rat) / ((1 : Int) : Rat)) ∧ Steps w' w2 := fun w' u v h1 h2 => by
  have z2 := sz_mean hvm m0
  rw [mean_map bb h0] at z2
  have := fSubQ w' h1 h2 z2 (sz_mean hv h0) (by omega)
  rw [sub_by, ← div_one_ (bb : Rat)] at this
  exact this
 have S2 : ∀ w' u v, FR w' u (medQ l + (bb : Rat)) → FR w' v (medQ l) → Calls Tryz.prog 32 #[u, v] w' fun e w2 => ∃ v, e = .returned (.tuple #[v, .int .i64 0]) ∧ FR w2 v ((bb : Rat) / ((1 : Int) : Rat)) ∧ Steps w' w2 := fun w' u v h1 h2 => by
  have z2 := medQ_sz hvm m0
  rw [med_map bb h0] at z2
  have := fSubQ w' h1 h2 z2 (medQ_sz hv h0) (by omega)
  rw [sub_by, ← div_one_ (bb : Rat)] at this
  exact this
 have IS := fun (w' : World) (f1 f5 : Bool) (f2 f6 : Option Addr) (f3 f4 f7 f8 : Nat) (h : FR w' (.agg #[.bool f1, .slice f2 f3 f4, .bool f5, .slice f6 f7 f8]) _) => lis bb 1 w' h (by omega) (by omega) (by decide) (by decide) (by decide)
 have xl : (inI (clipR l kq).1).length = (clipR l kq).1.length := inI_len _
 have hcl : (clipR l kq).1.length ≤ l.length := by have := (clipR_spec l kq).2.2.1; omega
 have RS := fun t (h : t < l.length) => map_step bb h
 have RL : ∀ t, t ≤ l.length → ((l.map (· + bb)).take t).length = t := fun t ht => by rw [List.length_take, List.length_map]; omega
 have RE : (l.map (· + bb)).take l.length = l.map (· + bb) := by rw [show l.length = (l.map (· + bb)).length from (List.length_map _).symm, List.take_length]
 obtain ⟨ri, hri⟩ : ∃ r : Int, ((clipR l kq).2 : Int) = r := ⟨_, rfl⟩
 obtain ⟨n, hn_⟩ : ∃ n, (clipR l kq).1.length = n := ⟨_, rfl⟩
 rw [hri] at CA CB
 rw [hn_] at xl hcl
 generalize (bb : Rat) / ((1 : Int) : Rat) = qb at *
 generalize meanQ l + (bb : Rat) = mqb at *
 generalize medQ l + (bb : Rat) = dqb at *
 generalize meanQ l = mq at *
 generalize medQ l = dq at *
 generalize dvnQ l = vq at *
 generalize varQ l = rq_ at *
 generalize inI (clipR l kq).1 = xs at *
 generalize (pctS l num den).1 = pa at *
 generalize (pctS l num den).2 = pe at *
 have dpe : (pe != pe) = false := by simp
 have dpz : (pe == 0) = false := by simpa using hpe
 obtain ⟨la, lc, rfl⟩ := hl.shape
 have HL := Hid.mk_ hl
 obtain ⟨N, hN⟩ : ∃ n, l.length = n := ⟨_, rfl⟩
 have HLN := Hid.mk_ hN
 rw [hN] at h AS HL RS RL RE HRNG hcl ⊢
 have rl : (l.map (· + bb)).length = N := by rw [List.length_map]; exact hN
 obtain ⟨PP, hPP⟩ : ∃ f : Nat → List Int, ∀ t, (l.map (· + bb)).take t = f t := ⟨_, fun _ => rfl⟩
 have P0 : PP 0 = [] := by rw [← hPP]; rfl
 simp only [hPP] at RS RL RE
 generalize l.map (· + bb) = rv at *
 have HRS := Hid.mk_ RS
 have HRL := Hid.mk_ RL
 have HRE := Hid.mk_ RE
 have HP0 := Hid.mk_ P0
 have HVR := Hid.mk_ HRNG
 have d0 : ¬ (24 : Int) < (N : Int) := by omega
 have d1 : ¬ (4 : Int) < (p : Int) := by omega
 have d2 : ¬ (4 : Int) < (p' : Int) := by omega
 have dri : (ri == ri) = true := by simp
 have nle : n ≤ 100000 := by omega
 have N1 : 1 ≤ N := by rw [← HLN.out]; exact List.length_pos_iff.2 h0
 clear hk ho ha hf hv h0 zk lt e1 e2 h1 h2 q1 q2 hN HRNG RS RL RE P0 hPP hl hri hn_ hl24 hnum hden hm m0 hvm ham pm2 hpe
 have kk := Keeps.refl w
 have HL0 := Hid.mk_ HL.out
 go_enter Tryz.func7, Tryz.ntmps7
 go_wp2_with fail
 refine (lalive07 _).mono ?_
 rintro e w1 ⟨rfl, hb1⟩
 have st : Steps _ w1 := hb1
 have B : Below w.heap.size w w1 := belowA st
 have kp : Keeps w w1 := Keeps.then_ keepsB st
 replace kk := kk.trans kp
 have ok : Blk w1 (w.heap.size) 27 #[.bool k1, .slice k2 p k4, .bool k5, .slice k6 p' k8] := Blk.stepsK st
 replace HL := Hid.mk_ (HL0.out.steps B)
 clear kp
 clear st
 go_wp2_with fail
 refine (AS _ belowB).mono ?_
 rintro e w2 ⟨rfl, hb2⟩
 have st : Steps _ w2 := hb2
 have sk : Below w1.heap.size w1 w2 := belowA st
 replace B := below_steps B (Nat.le_refl _) sk
 replace ok := ok.steps sk
 replace HL := Hid.mk_ (HL.out.steps sk)
 replace kk := kk.then_ sk
 clear st sk
 obtain ⟨ck0, ck1, ck2, ck3⟩ := ok.r3
 have lk := ok.lt
 go_wp2_with fail
 refine (FA _ (kk.trans keepsB)).mono ?_
 rintro e w3 ⟨rfl, hb3⟩
 have st : Steps _ w3 := hb3
 have sk : Below w2.heap.size w2 w3 := belowA st
 replace B := below_steps B (Nat.le_refl _) sk
 replace ok := ok.steps sk
 replace HL := Hid.mk_ (HL.out.steps sk)
 replace kk := kk.then_ sk
 clear st sk ck0 ck1 ck2 ck3 lk
 obtain ⟨ck0, ck1, ck2, ck3⟩ := ok.r3
 have lk := ok.lt
 go_wp2_with fail
 have zW := B.size
 have zk : w.heap.size < w3.heap.size := ok.lt
 go_wp2_with fail
 go_loopw [13, 12] (fun sl0 sl1 wr => ∃ (t : Nat) (ow : Value), ow = sl1 ∧ t ≤ N ∧ sl0 = .int .i64 t ∧ RowU wr w3.heap.size 2 1 ow t (ints (PP t)) ∧ Blk wr (w.heap.size) 27 #[.bool k1, .slice k2 p k4, .bool k5, .slice k6 p' k8] ∧ Below w.heap.size w wr ∧ Below w3.heap.size w3 wr) (fun sl0 sl1 _ => N - (intOf sl0).toNat)
 case atStart => exact ⟨0, _, rfl, by omega, by go_num, by rw [HP0.out]; exact RowU.nil _ _ _ _, ownK, belowB, belowB⟩
 case round =>
  clear ck0 ck1 ck2 ck3 lk
  clear ok
  try clear B
  obtain ⟨t, ow, rfl, htN, rfl, hr, ok, B, sq⟩ := hrel
  replace kk := kk.trans (Keeps.steps sq)
  replace HL := Hid.mk_ (HL.out.steps sq)
  obtain ⟨oa, ocap, rfl⟩ := hr.len
  rcases Nat.lt_or_ge t N with r0 | r0
  case inl =>
   have hlt : decide ((t : Int) < (N : Int)) = true := decide_eq_true (by omega)
   have HR := Hid.mk_ hr
   obtain ⟨b, of, rfl, hbl, hx0⟩ := HL.out.at' (t := t) (by have := HLN.out; omega)
   have hps := Hid.mk_ (HRS.out t r0)
   have xr := HVR.out t r0
   have hpl := HRL.out t (by omega)
   obtain ⟨x, hxx⟩ : ∃ x, l.getD t 0 = x := ⟨_, rfl⟩
   rw [hxx] at hx0 hps xr
   have tN : t ≤ 24 := by omega
   have zz := B.size
   have zq := sq.size
   obtain ⟨y, hy⟩ : ∃ y, x + bb = y := ⟨_, rfl⟩
   have hyr : -12884901888 ≤ y ∧ y ≤ 12884901888 := by omega
   rw [hy] at hps
   clear hxx hr
   repeat' (first | ((with_reducible show wpList _ _ _ (⟨some 97, _, _, _, _, _⟩ :: _) _ _); refine app_i64 rfl (.tmp 89) (.tmp 96) rfl w3.heap.size t (.slice oa t ocap) (PP t) rfl (HR.out.alloc _) wr.heap.size y rfl (Blk.new _ _ _) (by omega) (by rw [World.size_alloc]; omega) (fun v' w77 hr7 hg7 => ?_)) | go_values | go_skip | go_guarded | go_step | go_upon)
   obtain ⟨oa', ocap', rfl⟩ := hr7.len
   have r6 := HR.out.alloc (.cells #[.int .i64 y] 2)
   have B7 := r6.below hg7 (B.alloc B.size _) (by omega)
   have sq7 := r6.below hg7 (sq.alloc sq.size _) (Nat.le_refl _)
   have ok7 := r6.blk hg7 (Blk.steps ok ((Below.refl _ wr).alloc (Nat.le_refl _) _)) (by omega)
   have HR7 := Hid.mk_ hr7
   clear r6 hg7 hr7 HR B sq ok
   go_wp2_with fail
   go_roundw
   case rel => exact ⟨t + 1, _, rfl, by omega, by go_num, by rw [hps.out]; exact HR7.out, ok7, B7, sq7⟩
   case measure => simp [intOf] <;> omega
  case inr =>
   have hlt : decide ((t : Int) < (N : Int)) = false := decide_eq_false (by omega)
   have tN : t = N := by omega
   rw [tN] at hr hlt
   have Fb := Hid.mk_ (show IntsR wr (.slice oa N ocap) rv from by have h2 := hr.ints; rw [HRE.out] at h2; exact h2)
   rw [tN]
   clear hr r0 tN htN
   go_wp2_with fail
   refine (CK _ _ (Fb.out.steps belowB)).mono ?_
   rintro e w4 ⟨rfl, hb4⟩
   have st : Steps _ w4 := hb4
   have sk : Below wr.heap.size wr w4 := belowA st
   replace B := below_steps B (Nat.le_refl _) sk
   replace ok := ok.steps sk
   replace HL := Hid.mk_ (HL.out.steps sk)
   replace Fb := Hid.mk_ (Fb.out.steps sk)
   replace kk := kk.then_ sk
   clear st sk
   go_wp2_with fail
   refine (MA _ _ (HL.out.steps belowB)).mono ?_
   rintro e w5 ⟨va_, rfl, hva_, hb5⟩
   have st : Steps _ w5 := hb5
   have sk : Below w4.heap.size w4 w5 := belowA st
   replace B := below_steps B (Nat.le_refl _) sk
   replace ok := ok.steps sk
   replace HL := Hid.mk_ (HL.out.steps sk)
   replace Fb := Hid.mk_ (Fb.out.steps sk)
   replace kk := kk.then_ sk
   clear st sk
   obtain ⟨a_1, a_2, a_3, a_4, a_5, a_6, a_7, a_8, rfl⟩ := hva_.shape
   have Fa_ := Hid.mk_ hva_
   clear hva_
   have zk_5 : w.heap.size < w5.heap.size := ok.lt
   have zz5 := B.size
   go_wp2_with fail
   refine (MB _ _ (Fb.out.steps belowB)).mono ?_
   rintro e w6 ⟨vb_, rfl, hvb_, hb6⟩
   have st : Steps _ w6 := hb6
   have sk : Below w5.heap.size w5 w6 := belowA st
   replace B := below_steps B (Nat.le_refl _) sk
   have ova : Blk w6 (w5.heap.size) 27 #[.bool a_1, .slice a_2 a_3 a_4, .bool a_5, .slice a_6 a_7 a_8] := Blk.stepsK st
   replace ok := ok.steps sk
   replace HL := Hid.mk_ (HL.out.steps sk)
   replace Fb := Hid.mk_ (Fb.out.steps sk)
   replace Fa_ := Hid.mk_ (Fa_.out.steps sk)
   replace kk := kk.then_ sk
   clear st sk
   obtain ⟨b_1, b_2, b_3, b_4, b_5, b_6, b_7, b_8, rfl⟩ := hvb_.shape
   have Fb_ := Hid.mk_ hvb_
   clear hvb_
   have zva_6 : w5.heap.size < w6.heap.size := ova.lt
   have zz6 := B.size
   go_wp2_with fail
   refine (NA _ _ (HL.out.steps belowB)).mono ?_
   rintro e w7 ⟨vc_, rfl, hvc_, hb7⟩
   have st : Steps _ w7 := hb7
   have sk : Below w6.heap.size w6 w7 := belowA st
   replace B := below_steps B (Nat.le_refl _) sk
   have ovb : Blk w7 (w6.heap.size) 27 #[.bool b_1, .slice b_2 b_3 b_4, .bool b_5, .slice b_6 b_7 b_8] := Blk.stepsK st
   replace ok := ok.steps sk
   replace ova := ova.steps sk
   replace HL := Hid.mk_ (HL.out.steps sk)
   replace Fb := Hid.mk_ (Fb.out.steps sk)
   replace Fa_ := Hid.mk_ (Fa_.out.steps sk)
   replace Fb_ := Hid.mk_ (Fb_.out.steps sk)
   replace kk := kk.then_ sk
   clear st sk
   obtain ⟨c_1, c_2, c_3, c_4, c_5, c_6, c_7, c_8, rfl⟩ := hvc_.shape
   have Fc_ := Hid.mk_ hvc_
   clear hvc_
   have zvb_7 : w6.heap.size < w7.heap.size := ovb.lt
   have zz7 := B.size
   go_wp2_with fail
   refine (NB _ _ (Fb.out.steps belowB)).mono ?_
   rintro e w8 ⟨vd_, rfl, hvd_, hb8⟩
   have st : Steps _ w8 := hb8
   have sk : Below w7.heap.size w7 w8 := belowA st
   replace B := below_steps B (Nat.le_refl _) sk
   have ovc : Blk w8 (w7.heap.size) 27 #[.bool c_1, .slice c_2 c_3 c_4, .bool c_5, .slice c_6 c_7 c_8] := Blk.stepsK st
   replace ok := ok.steps sk
   replace ova := ova.steps sk
   replace ovb := ovb.steps sk
   replace HL := Hid.mk_ (HL.out.steps sk)
   replace Fb := Hid.mk_ (Fb.out.steps sk)
   replace Fa_ := Hid.mk_ (Fa_.out.steps sk)
   replace Fb_ := Hid.mk_ (Fb_.out.steps sk)
   replace Fc_ := Hid.mk_ (Fc_.out.steps sk)
   replace kk := kk.then_ sk
   clear st sk
   obtain ⟨cva0, cva1, cva2, cva3⟩ := ova.r3
   have lva := ova.lt
   obtain ⟨cvb0, cvb1, cvb2, cvb3⟩ := ovb.r3
   have lvb := ovb.lt
   obtain ⟨d_1, d_2, d_3, d_4, d_5, d_6, d_7, d_8, rfl⟩ := hvd_.shape
   have Fd_ := Hid.mk_ hvd_
   clear hvd_
   have zvc_8 : w7.heap.size < w8.heap.size := ovc.lt
   have zz8 := B.size
   go_wp2_with fail
   refine (S1 _ _ _ (Fb_.out.keeps keepsB) (Fa_.out.keeps keepsB)).mono ?_
   rintro e w9 ⟨vu_, rfl, hvu_, hb9⟩
   have st : Steps _ w9 := hb9
   have sk : Below w8.heap.size w8 w9 := belowA st
   replace B := below_steps B (Nat.le_refl _) sk
   have ovd : Blk w9 (w8.heap.size) 27 #[.bool d_1, .slice d_2 d_3 d_4, .bool d_5, .slice d_6 d_7 d_8] := Blk.stepsK st
   replace ok := ok.steps sk
   replace ova := ova.steps sk
   replace ovb := ovb.steps sk
   replace ovc := ovc.steps sk
   replace HL := Hid.mk_ (HL.out.steps sk)
   replace Fb := Hid.mk_ (Fb.out.steps sk)
   replace Fa_ := Hid.mk_ (Fa_.out.steps sk)
   replace Fb_ := Hid.mk_ (Fb_.out.steps sk)
   replace Fc_ := Hid.mk_ (Fc_.out.steps sk)
   replace Fd_ := Hid.mk_ (Fd_.out.steps sk)
   replace kk := kk.then_ sk
   clear st sk cva0 cva1 cva2 cva3 lva cvb0 cvb1 cvb2 cvb3 lvb
   obtain ⟨cvc0, cvc1, cvc2, cvc3⟩ := ovc.r3
   have lvc := ovc.lt
   obtain ⟨cvd0, cvd1, cvd2, cvd3⟩ := ovd.r3
   have lvd := ovd.lt
   obtain ⟨u_1, u_2, u_3, u_4, u_5, u_6, u_7, u_8, rfl⟩ := hvu_.shape
   have Fu_ := Hid.mk_ hvu_
   clear hvu_
   have zvd_9 : w8.heap.size < w9.heap.size := ovd.lt
   have zz9 := B.size
   go_wp2_with fail
   refine (S2 _ _ _ (Fd_.out.keeps keepsB) (Fc_.out.keeps keepsB)).mono ?_
   rintro e w10 ⟨vv_, rfl, hvv_, hb10⟩
   have st : Steps _ w10 := hb10
   have sk : Below w9.heap.size w9 w10 := belowA st
   replace B := below_steps B (Nat.le_refl _) sk
   have ovu : Blk w10 (w9.heap.size) 27 #[.bool u_1, .slice u_2 u_3 u_4, .bool u_5, .slice u_6 u_7 u_8] := Blk.stepsK st
   replace ok := ok.steps sk
   replace ova := ova.steps sk
   replace ovb := ovb.steps sk
   replace ovc := ovc.steps sk
   replace ovd := ovd.steps sk
   replace HL := Hid.mk_ (HL.out.steps sk)
   replace Fb := Hid.mk_ (Fb.out.steps sk)
   replace Fa_ := Hid.mk_ (Fa_.out.steps sk)
   replace Fb_ := Hid.mk_ (Fb_.out.steps sk)
   replace Fc_ := Hid.mk_ (Fc_.out.steps sk)
   replace Fd_ := Hid.mk_ (Fd_.out.steps sk)
   replace Fu_ := Hid.mk_ (Fu_.out.steps sk)
   replace kk := kk.then_ sk
   clear st sk cvc0 cvc1 cvc2 cvc3 lvc cvd0 cvd1 cvd2 cvd3 lvd
   obtain ⟨cvu0, cvu1, cvu2, cvu3⟩ := ovu.r3
   have lvu := ovu.lt
   obtain ⟨v_1, v_2, v_3, v_4, v_5, v_6, v_7, v_8, rfl⟩ := hvv_.shape
   have Fv_ := Hid.mk_ hvv_
   clear hvv_
   have zvu_10 : w9.heap.size < w10.heap.size := ovu.lt
   have zz10 := B.size
   go_wp2_with fail
   refine (IS _ _ _ _ _ _ _ _ _ (Fu_.out.keeps keepsB)).mono ?_
   rintro e w11 ⟨rfl, hb11⟩
   have st : Steps _ w11 := hb11
   have sk : Below w10.heap.size w10 w11 := belowA st
   replace B := below_steps B (Nat.le_refl _) sk
   have ovv : Blk w11 (w10.heap.size) 27 #[.bool v_1, .slice v_2 v_3 v_4, .bool v_5, .slice v_6 v_7 v_8] := Blk.stepsK st
   replace ok := ok.steps sk
   replace ova := ova.steps sk
   replace ovb := ovb.steps sk
   replace ovc := ovc.steps sk
   replace ovd := ovd.steps sk
   replace ovu := ovu.steps sk
   replace HL := Hid.mk_ (HL.out.steps sk)
   replace Fb := Hid.mk_ (Fb.out.steps sk)
   replace Fa_ := Hid.mk_ (Fa_.out.steps sk)
   replace Fb_ := Hid.mk_ (Fb_.out.steps sk)
   replace Fc_ := Hid.mk_ (Fc_.out.steps sk)
   replace Fd_ := Hid.mk_ (Fd_.out.steps sk)
   replace Fu_ := Hid.mk_ (Fu_.out.steps sk)
   replace Fv_ := Hid.mk_ (Fv_.out.steps sk)
   replace kk := kk.then_ sk
   clear st sk cvu0 cvu1 cvu2 cvu3 lvu
   obtain ⟨cvv0, cvv1, cvv2, cvv3⟩ := ovv.r3
   have lvv := ovv.lt
   go_wp2_with fail
   refine (IS _ _ _ _ _ _ _ _ _ (Fv_.out.keeps keepsB)).mono ?_
   rintro e w12 ⟨rfl, hb12⟩
   have st : Steps _ w12 := hb12
   have sk : Below w11.heap.size w11 w12 := belowA st
   replace B := below_steps B (Nat.le_refl _) sk
   replace ok := ok.steps sk
   replace ova := ova.steps sk
   replace ovb := ovb.steps sk
   replace ovc := ovc.steps sk
   replace ovd := ovd.steps sk
   replace ovu := ovu.steps sk
   replace ovv := ovv.steps sk
   replace HL := Hid.mk_ (HL.out.steps sk)
   replace Fb := Hid.mk_ (Fb.out.steps sk)
   replace Fa_ := Hid.mk_ (Fa_.out.steps sk)
   replace Fb_ := Hid.mk_ (Fb_.out.steps sk)
   replace Fc_ := Hid.mk_ (Fc_.out.steps sk)
   replace Fd_ := Hid.mk_ (Fd_.out.steps sk)
   replace Fu_ := Hid.mk_ (Fu_.out.steps sk)
   replace Fv_ := Hid.mk_ (Fv_.out.steps sk)
   replace kk := kk.then_ sk
   clear st sk cvv0 cvv1 cvv2 cvv3 lvv
   go_wp2_with fail
   refine (VA _ _ (HL.out.steps belowB)).mono ?_
   rintro e w13 ⟨vg_, rfl, hvg_, hb13⟩
   have st : Steps _ w13 := hb13
   have sk : Below w12.heap.size w12 w13 := belowA st
   replace B := below_steps B (Nat.le_refl _) sk
   replace ok := ok.steps sk
   replace ova := ova.steps sk
   replace ovb := ovb.steps sk
   replace ovc := ovc.steps sk
   replace ovd := ovd.steps sk
   replace ovu := ovu.steps sk
   replace ovv := ovv.steps sk
   replace HL := Hid.mk_ (HL.out.steps sk)
   replace Fb := Hid.mk_ (Fb.out.steps sk)
   replace Fa_ := Hid.mk_ (Fa_.out.steps sk)
   replace Fb_ := Hid.mk_ (Fb_.out.steps sk)
   replace Fc_ := Hid.mk_ (Fc_.out.steps sk)
   replace Fd_ := Hid.mk_ (Fd_.out.steps sk)
   replace Fu_ := Hid.mk_ (Fu_.out.steps sk)
   replace Fv_ := Hid.mk_ (Fv_.out.steps sk)
   replace kk := kk.then_ sk
   clear st sk
   obtain ⟨g_1, g_2, g_3, g_4, g_5, g_6, g_7, g_8, rfl⟩ := hvg_.shape
   have Fg_ := Hid.mk_ hvg_
   clear hvg_
   have zvv_13 : w10.heap.size < w13.heap.size := ovv.lt
   have zz13 := B.size
   go_wp2_with fail
   refine (VB _ _ (Fb.out.steps belowB)).mono ?_
   rintro e w14 ⟨vh_, rfl, hvh_, hb14⟩
   have st : Steps _ w14 := hb14
   have sk : Below w13.heap.size w13 w14 := belowA st
   replace B := below_steps B (Nat.le_refl _) sk
   have ovp : Blk w14 (w13.heap.size) 27 #[.bool g_1, .slice g_2 g_3 g_4, .bool g_5, .slice g_6 g_7 g_8] := Blk.stepsK st
   replace ok := ok.steps sk
   replace ova := ova.steps sk
   replace ovb := ovb.steps sk
   replace ovc := ovc.steps sk
   replace ovd := ovd.steps sk
   replace ovu := ovu.steps sk
   replace ovv := ovv.steps sk
   replace HL := Hid.mk_ (HL.out.steps sk)
   replace Fb := Hid.mk_ (Fb.out.steps sk)
   replace Fa_ := Hid.mk_ (Fa_.out.steps sk)
   replace Fb_ := Hid.mk_ (Fb_.out.steps sk)
   replace Fc_ := Hid.mk_ (Fc_.out.steps sk)
   replace Fd_ := Hid.mk_ (Fd_.out.steps sk)
   replace Fu_ := Hid.mk_ (Fu_.out.steps sk)
   replace Fv_ := Hid.mk_ (Fv_.out.steps sk)
   replace Fg_ := Hid.mk_ (Fg_.out.steps sk)
   replace kk := kk.then_ sk
   clear st sk
   obtain ⟨h_1, h_2, h_3, h_4, h_5, h_6, h_7, h_8, rfl⟩ := hvh_.shape
   have Fh_ := Hid.mk_ hvh_
   clear hvh_
   have zvp_14 : w13.heap.size < w14.heap.size := ovp.lt
   have zz14 := B.size
   go_wp2_with fail
   refine (DA _ _ (HL.out.steps belowB)).mono ?_
   rintro e w15 ⟨ve_, rfl, hve_, hb15⟩
   have st : Steps _ w15 := hb15
   have sk : Below w14.heap.size w14 w15 := belowA st
   replace B := below_steps B (Nat.le_refl _) sk
   have ovq : Blk w15 (w14.heap.size) 27 #[.bool h_1, .slice h_2 h_3 h_4, .bool h_5, .slice h_6 h_7 h_8] := Blk.stepsK st
   replace ok := ok.steps sk
   replace ova := ova.steps sk
   replace ovb := ovb.steps sk
   replace ovc := ovc.steps sk
   replace ovd := ovd.steps sk
   replace ovu := ovu.steps sk
   replace ovv := ovv.steps sk
   replace ovp := ovp.steps sk
   replace HL := Hid.mk_ (HL.out.steps sk)
   replace Fb := Hid.mk_ (Fb.out.steps sk)
   replace Fa_ := Hid.mk_ (Fa_.out.steps sk)
   replace Fb_ := Hid.mk_ (Fb_.out.steps sk)
   replace Fc_ := Hid.mk_ (Fc_.out.steps sk)
   replace Fd_ := Hid.mk_ (Fd_.out.steps sk)
   replace Fu_ := Hid.mk_ (Fu_.out.steps sk)
   replace Fv_ := Hid.mk_ (Fv_.out.steps sk)
   replace Fg_ := Hid.mk_ (Fg_.out.steps sk)
   replace Fh_ := Hid.mk_ (Fh_.out.steps sk)
   replace kk := kk.then_ sk
   clear st sk
   obtain ⟨e_1, e_2, e_3, e_4, e_5, e_6, e_7, e_8, rfl⟩ := hve_.shape
   have Fe_ := Hid.mk_ hve_
   clear hve_
   have zvq_15 : w14.heap.size < w15.heap.size := ovq.lt
   have zz15 := B.size
   go_wp2_with fail
   refine (DB _ _ (Fb.out.steps belowB)).mono ?_
   rintro e w16 ⟨vf_, rfl, hvf_, hb16⟩
   have st : Steps _ w16 := hb16
   have sk : Below w15.heap.size w15 w16 := belowA st
   replace B := below_steps B (Nat.le_refl _) sk
   have ovr : Blk w16 (w15.heap.size) 27 #[.bool e_1, .slice e_2 e_3 e_4, .bool e_5, .slice e_6 e_7 e_8] := Blk.stepsK st
   replace ok := ok.steps sk
   replace ova := ova.steps sk
   replace ovb := ovb.steps sk
   replace ovc := ovc.steps sk
   replace ovd := ovd.steps sk
   replace ovu := ovu.steps sk
   replace ovv := ovv.steps sk
   replace ovp := ovp.steps sk
   replace ovq := ovq.steps sk
   replace HL := Hid.mk_ (HL.out.steps sk)
   replace Fb := Hid.mk_ (Fb.out.steps sk)
   replace Fa_ := Hid.mk_ (Fa_.out.steps sk)
   replace Fb_ := Hid.mk_ (Fb_.out.steps sk)
   replace Fc_ := Hid.mk_ (Fc_.out.steps sk)
   replace Fd_ := Hid.mk_ (Fd_.out.steps sk)
   replace Fu_ := Hid.mk_ (Fu_.out.steps sk)
   replace Fv_ := Hid.mk_ (Fv_.out.steps sk)
   replace Fg_ := Hid.mk_ (Fg_.out.steps sk)
   replace Fh_ := Hid.mk_ (Fh_.out.steps sk)
   replace Fe_ := Hid.mk_ (Fe_.out.steps sk)
   replace kk := kk.then_ sk
   clear st sk
   obtain ⟨f_1, f_2, f_3, f_4, f_5, f_6, f_7, f_8, rfl⟩ := hvf_.shape
   have Ff_ := Hid.mk_ hvf_
   clear hvf_
   have zvr_16 : w15.heap.size < w16.heap.size := ovr.lt
   have zz16 := B.size
   go_wp2_with fail
   refine (PA _ _ (HL.out.steps belowB)).mono ?_
   rintro e w17 ⟨rfl, hb17⟩
   have st : Steps _ w17 := hb17
   have sk : Below w16.heap.size w16 w17 := belowA st
   replace B := below_steps B (Nat.le_refl _) sk
   have ovs : Blk w17 (w16.heap.size) 27 #[.bool f_1, .slice f_2 f_3 f_4, .bool f_5, .slice f_6 f_7 f_8] := Blk.stepsK st
   replace ok := ok.steps sk
   replace ova := ova.steps sk
   replace ovb := ovb.steps sk
   replace ovc := ovc.steps sk
   replace ovd := ovd.steps sk
   replace ovu := ovu.steps sk
   replace ovv := ovv.steps sk
   replace ovp := ovp.steps sk
   replace ovq := ovq.steps sk
   replace ovr := ovr.steps sk
   replace HL := Hid.mk_ (HL.out.steps sk)
   replace Fb := Hid.mk_ (Fb.out.steps sk)
   replace Fa_ := Hid.mk_ (Fa_.out.steps sk)
   replace Fb_ := Hid.mk_ (Fb_.out.steps sk)
   replace Fc_ := Hid.mk_ (Fc_.out.steps sk)
   replace Fd_ := Hid.mk_ (Fd_.out.steps sk)
   replace Fu_ := Hid.mk_ (Fu_.out.steps sk)
   replace Fv_ := Hid.mk_ (Fv_.out.steps sk)
   replace Fg_ := Hid.mk_ (Fg_.out.steps sk)
   replace Fh_ := Hid.mk_ (Fh_.out.steps sk)
   replace Fe_ := Hid.mk_ (Fe_.out.steps sk)
   replace Ff_ := Hid.mk_ (Ff_.out.steps sk)
   replace kk := kk.then_ sk
   clear st sk
   go_wp2_with fail
   refine (PB _ _ (Fb.out.steps belowB)).mono ?_
   rintro e w18 ⟨rfl, hb18⟩
   have st : Steps _ w18 := hb18
   have sk : Below w17.heap.size w17 w18 := belowA st
   replace B := below_steps B (Nat.le_refl _) sk
   replace ok := ok.steps sk
   replace ova := ova.steps sk
   replace ovb := ovb.steps sk
   replace ovc := ovc.steps sk
   replace ovd := ovd.steps sk
   replace ovu := ovu.steps sk
   replace ovv := ovv.steps sk
   replace ovp := ovp.steps sk
   replace ovq := ovq.steps sk
   replace ovr := ovr.steps sk
   replace ovs := ovs.steps sk
   replace HL := Hid.mk_ (HL.out.steps sk)
   replace Fb := Hid.mk_ (Fb.out.steps sk)
   replace Fa_ := Hid.mk_ (Fa_.out.steps sk)
   replace Fb_ := Hid.mk_ (Fb_.out.steps sk)
   replace Fc_ := Hid.mk_ (Fc_.out.steps sk)
   replace Fd_ := Hid.mk_ (Fd_.out.steps sk)
   replace Fu_ := Hid.mk_ (Fu_.out.steps sk)
   replace Fv_ := Hid.mk_ (Fv_.out.steps sk)
   replace Fg_ := Hid.mk_ (Fg_.out.steps sk)
   replace Fh_ := Hid.mk_ (Fh_.out.steps sk)
   replace Fe_ := Hid.mk_ (Fe_.out.steps sk)
   replace Ff_ := Hid.mk_ (Ff_.out.steps sk)
   replace kk := kk.then_ sk
   clear st sk
   obtain ⟨cvp0, cvp1, cvp2, cvp3⟩ := ovp.r3
   have lvp := ovp.lt
   obtain ⟨cvq0, cvq1, cvq2, cvq3⟩ := ovq.r3
   have lvq := ovq.lt
   go_wp2_with fail
   refine (psame (c := 0) (r := rq_) _ (Fg_.out.keeps keepsB) (Fh_.out.keeps keepsB)).mono ?_
   rintro e w19 ⟨rfl, hb19⟩
   have st : Steps _ w19 := hb19
   have sk : Below w18.heap.size w18 w19 := belowA st
   replace B := below_steps B (Nat.le_refl _) sk
   replace ok := ok.steps sk
   replace ova := ova.steps sk
   replace ovb := ovb.steps sk
   replace ovc := ovc.steps sk
   replace ovd := ovd.steps sk
   replace ovu := ovu.steps sk
   replace ovv := ovv.steps sk
   replace ovp := ovp.steps sk
   replace ovq := ovq.steps sk
   replace ovr := ovr.steps sk
   replace ovs := ovs.steps sk
   replace HL := Hid.mk_ (HL.out.steps sk)
   replace Fb := Hid.mk_ (Fb.out.steps sk)
   replace Fa_ := Hid.mk_ (Fa_.out.steps sk)
   replace Fb_ := Hid.mk_ (Fb_.out.steps sk)
   replace Fc_ := Hid.mk_ (Fc_.out.steps sk)
   replace Fd_ := Hid.mk_ (Fd_.out.steps sk)
   replace Fu_ := Hid.mk_ (Fu_.out.steps sk)
   replace Fv_ := Hid.mk_ (Fv_.out.steps sk)
   replace Fg_ := Hid.mk_ (Fg_.out.steps sk)
   replace Fh_ := Hid.mk_ (Fh_.out.steps sk)
   replace Fe_ := Hid.mk_ (Fe_.out.steps sk)
   replace Ff_ := Hid.mk_ (Ff_.out.steps sk)
   replace kk := kk.then_ sk
   clear st sk cvp0 cvp1 cvp2 cvp3 lvp cvq0 cvq1 cvq2 cvq3 lvq
   obtain ⟨cvr0, cvr1, cvr2, cvr3⟩ := ovr.r3
   have lvr := ovr.lt
   obtain ⟨cvs0, cvs1, cvs2, cvs3⟩ := ovs.r3
   have lvs := ovs.lt
   go_wp2_with fail
   refine (psame (c := 0) (r := vq) _ (Fe_.out.keeps keepsB) (Ff_.out.keeps keepsB)).mono ?_
   rintro e w20 ⟨rfl, hb20⟩
   have st : Steps _ w20 := hb20
   have sk : Below w19.heap.size w19 w20 := belowA st
   replace B := below_steps B (Nat.le_refl _) sk
   replace ok := ok.steps sk
   replace ova := ova.steps sk
   replace ovb := ovb.steps sk
   replace ovc := ovc.steps sk
   replace ovd := ovd.steps sk
   replace ovu := ovu.steps sk
   replace ovv := ovv.steps sk
   replace ovp := ovp.steps sk
   replace ovq := ovq.steps sk
   replace ovr := ovr.steps sk
   replace ovs := ovs.steps sk
   replace HL := Hid.mk_ (HL.out.steps sk)
   replace Fb := Hid.mk_ (Fb.out.steps sk)
   replace Fa_ := Hid.mk_ (Fa_.out.steps sk)
   replace Fb_ := Hid.mk_ (Fb_.out.steps sk)
   replace Fc_ := Hid.mk_ (Fc_.out.steps sk)
   replace Fd_ := Hid.mk_ (Fd_.out.steps sk)
   replace Fu_ := Hid.mk_ (Fu_.out.steps sk)
   replace Fv_ := Hid.mk_ (Fv_.out.steps sk)
   replace Fg_ := Hid.mk_ (Fg_.out.steps sk)
   replace Fh_ := Hid.mk_ (Fh_.out.steps sk)
   replace Fe_ := Hid.mk_ (Fe_.out.steps sk)
   replace Ff_ := Hid.mk_ (Ff_.out.steps sk)
   replace kk := kk.then_ sk
   clear st sk cvr0 cvr1 cvr2 cvr3 lvr cvs0 cvs1 cvs2 cvs3 lvs
   obtain ⟨ck0, ck1, ck2, ck3⟩ := ok.r3
   have lk := ok.lt
   go_wp2_with fail
   refine (CA _ _ (kk.trans keepsB) (HL.out.steps belowB)).mono ?_
   rintro e w21 ⟨vu, rfl, hvu, hb21⟩
   have st : Steps _ w21 := hb21
   have sk : Below w20.heap.size w20 w21 := belowA st
   replace B := below_steps B (Nat.le_refl _) sk
   replace ok := ok.steps sk
   replace ova := ova.steps sk
   replace ovb := ovb.steps sk
   replace ovc := ovc.steps sk
   replace ovd := ovd.steps sk
   replace ovu := ovu.steps sk
   replace ovv := ovv.steps sk
   replace ovp := ovp.steps sk
   replace ovq := ovq.steps sk
   replace ovr := ovr.steps sk
   replace ovs := ovs.steps sk
   replace HL := Hid.mk_ (HL.out.steps sk)
   replace Fb := Hid.mk_ (Fb.out.steps sk)
   replace Fa_ := Hid.mk_ (Fa_.out.steps sk)
   replace Fb_ := Hid.mk_ (Fb_.out.steps sk)
   replace Fc_ := Hid.mk_ (Fc_.out.steps sk)
   replace Fd_ := Hid.mk_ (Fd_.out.steps sk)
   replace Fu_ := Hid.mk_ (Fu_.out.steps sk)
   replace Fv_ := Hid.mk_ (Fv_.out.steps sk)
   replace Fg_ := Hid.mk_ (Fg_.out.steps sk)
   replace Fh_ := Hid.mk_ (Fh_.out.steps sk)
   replace Fe_ := Hid.mk_ (Fe_.out.steps sk)
   replace Ff_ := Hid.mk_ (Ff_.out.steps sk)
   replace kk := kk.then_ sk
   clear st sk ck0 ck1 ck2 ck3 lk
   obtain ⟨ck0, ck1, ck2, ck3⟩ := ok.r3
   have lk := ok.lt
   obtain ⟨ua, uc, rfl⟩ := hvu.shape
   rw [xl] at hvu ⊢
   have Fu := Hid.mk_ hvu
   clear hvu
   go_wp2_with fail
   refine (CB _ _ (kk.trans keepsB) (Fb.out.steps belowB)).mono ?_
   rintro e w22 ⟨vy, rfl, hvy, hb22⟩
   have st : Steps _ w22 := hb22
   have sk : Below w21.heap.size w21 w22 := belowA st
   replace B := below_steps B (Nat.le_refl _) sk
   replace ok := ok.steps sk
   replace ova := ova.steps sk
   replace ovb := ovb.steps sk
   replace ovc := ovc.steps sk
   replace ovd := ovd.steps sk
   replace ovu := ovu.steps sk
   replace ovv := ovv.steps sk
   replace ovp := ovp.steps sk
   replace ovq := ovq.steps sk
   replace ovr := ovr.steps sk
   replace ovs := ovs.steps sk
   replace HL := Hid.mk_ (HL.out.steps sk)
   replace Fb := Hid.mk_ (Fb.out.steps sk)
   replace Fa_ := Hid.mk_ (Fa_.out.steps sk)
   replace Fb_ := Hid.mk_ (Fb_.out.steps sk)
   replace Fc_ := Hid.mk_ (Fc_.out.steps sk)
   replace Fd_ := Hid.mk_ (Fd_.out.steps sk)
   replace Fu_ := Hid.mk_ (Fu_.out.steps sk)
   replace Fv_ := Hid.mk_ (Fv_.out.steps sk)
   replace Fg_ := Hid.mk_ (Fg_.out.steps sk)
   replace Fh_ := Hid.mk_ (Fh_.out.steps sk)
   replace Fe_ := Hid.mk_ (Fe_.out.steps sk)
   replace Ff_ := Hid.mk_ (Ff_.out.steps sk)
   replace Fu := Hid.mk_ (Fu.out.steps sk)
   replace kk := kk.then_ sk
   clear st sk ck0 ck1 ck2 ck3 lk
   obtain ⟨ya, yc, rfl⟩ := hvy.shape
   rw [xl] at hvy ⊢
   have Fy := Hid.mk_ hvy
   clear hvy
   go_wp2_with fail
   refine (rsameInts (l := xs) _ (Fu.out.steps belowB) (Fy.out.steps belowB) (by omega)).mono ?_
   rintro e w23 ⟨rfl, hb23⟩
   have st : Steps _ w23 := hb23
   have sk : Below w22.heap.size w22 w23 := belowA st
   replace B := below_steps B (Nat.le_refl _) sk
   replace ok := ok.steps sk
   replace ova := ova.steps sk
   replace ovb := ovb.steps sk
   replace ovc := ovc.steps sk
   replace ovd := ovd.steps sk
   replace ovu := ovu.steps sk
   replace ovv := ovv.steps sk
   replace ovp := ovp.steps sk
   replace ovq := ovq.steps sk
   replace ovr := ovr.steps sk
   replace ovs := ovs.steps sk
   replace HL := Hid.mk_ (HL.out.steps sk)
   replace Fb := Hid.mk_ (Fb.out.steps sk)
   replace Fa_ := Hid.mk_ (Fa_.out.steps sk)
   replace Fb_ := Hid.mk_ (Fb_.out.steps sk)
   replace Fc_ := Hid.mk_ (Fc_.out.steps sk)
   replace Fd_ := Hid.mk_ (Fd_.out.steps sk)
   replace Fu_ := Hid.mk_ (Fu_.out.steps sk)
   replace Fv_ := Hid.mk_ (Fv_.out.steps sk)
   replace Fg_ := Hid.mk_ (Fg_.out.steps sk)
   replace Fh_ := Hid.mk_ (Fh_.out.steps sk)
   replace Fe_ := Hid.mk_ (Fe_.out.steps sk)
   replace Ff_ := Hid.mk_ (Ff_.out.steps sk)
   replace Fu := Hid.mk_ (Fu.out.steps sk)
   replace Fy := Hid.mk_ (Fy.out.steps sk)
   replace kk := kk.then_ sk
   clear st sk
   go_wp2_with fail
   go_returns
   exact ⟨rfl, belowB⟩
theorem moved_law {vl : Value} {l : List Int} {k1 k5 : Bool} {k2 k6 : Option Addr} {p k4 p' k8 : Nat} {o : Option Rat} (bb num den : Int) (w : World) (hl : IntsR w vl l) (hk : FB w (.agg #[.bool k1, .slice k2 p k4, .bool k5, .slice k6 p' k8]) o) (ho : ∀ z, o = some z → absN z.num ≤ bp p ∧ (z.den : Int) ≤ bp p') (hnum : -9223372036854775808 ≤ num ∧ num ≤ 9223372036854775807) (hden : -9223372036854775808 ≤ den ∧ den ≤ 9223372036854775807) :
  Calls Tryz.prog 7 #[vl, .int .i64 bb, .int .i64 num, .int .i64 den, .agg #[.bool k1, .slice k2 p k4, .bool k5, .slice k6 p' k8]] w fun e w' => e = .returned (.bool true) ∧ Steps w w' := by
 by_cases h : l.length ≤ 24
 ·
  by_cases ha : askV l = 0
  ·
   by_cases b1 : bb < -8589934592
   · exact moved_badL bb num den w hl hk ho h ha b1
   ·
    by_cases b2 : 8589934592 < bb
    · exact moved_badG bb num den w hl hk ho h ha b1 b2
    ·
     by_cases h1 : 4 < p
     · exact moved_bad2 bb num den w hl hk ho h ha b1 b2 (.inl h1)
     ·
      by_cases h2 : 4 < p'
      · exact moved_bad2 bb num den w hl hk ho h ha b1 b2 (.inr (.inl h2))
      ·
       cases hf : facB o with
       | false => exact moved_bad2 bb num den w hl hk ho h ha b1 b2 (.inr (.inr hf))
       | true =>
        by_cases hm : chkV (l.map (· + bb)) = 0
        ·
         by_cases hp : (pctS l num den).2 = 0
         · exact moved_ok0 bb num den w hl hk ho hnum hden h ha b1 b2 hf (by omega) (by omega) hm hp
         · exact moved_ok1 bb num den w hl hk ho hnum hden h ha b1 b2 hf (by omega) (by omega) hm hp
        · exact moved_bad3 bb num den w hl hk ho h ha b1 b2 hf (by omega) (by omega) hm
  · exact moved_bad1 bb num den w hl hk ho h _ rfl ha
 · exact moved_bad0 bb num den w hl hk ho h
end Go.Proofs.YtmpambmpknaldaaGreat
