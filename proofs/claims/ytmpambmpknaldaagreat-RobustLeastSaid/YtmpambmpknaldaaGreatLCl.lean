import Derived.Test.YtmpambmpknaldaaGreatLCh
import Derived.Test.YtmpambmpknaldaaGreatLQu
import Derived.Deep.Upon
import Derived.Test.YtmpambmpknaldaaGreatLQj
set_option linter.unusedVariables false
set_option linter.unusedSimpArgs false
set_option maxHeartbeats 6400000
set_option maxRecDepth 1000000
namespace Go.Proofs.YtmpambmpknaldaaGreat
open Go.RowKit
def grB (n : Nat) : Bool := decide (1010 < n) || (decide (24 < n) && decide (n ≤ 1000))
theorem psameN {a b c d a' b' c' d' : Value} {x y : Int} (w : World) (h : Frn w x y a b c d) (h' : Frn w x y a' b' c' d') (fx : fits x) (fy : fits y) :
  Calls Tryz.prog 18 #[.agg #[a, b, c, d], .agg #[a', b', c', d']] w fun e w' => e = .returned (.bool true) ∧ Steps w w' := by
 obtain ⟨g1, s1, n1, c1, rfl, rfl⟩ := h.1.parts2
 obtain ⟨g2, s2, n2, c2, rfl, rfl⟩ := h.2.parts2
 obtain ⟨g3, s3, n3, c3, rfl, rfl⟩ := h'.1.parts2
 obtain ⟨g4, s4, n4, c4, rfl, rfl⟩ := h'.2.parts2
 have p1 : ∀ w', Keeps w w' → Calls Tryz.prog 47 #[.agg #[.bool g1, .slice s1 n1 c1], .agg #[.bool g3, .slice s3 n3 c3]] w' fun e w2 => e = .returned (.bool true) ∧ Steps w' w2 := fun w' k => by
  have := rsame w' (h.1.keeps k) (h'.1.keeps k) fx fx
  rwa [decide_eq_true rfl] at this
 have p2 : ∀ w', Keeps w w' → Calls Tryz.prog 47 #[.agg #[.bool g2, .slice s2 n2 c2], .agg #[.bool g4, .slice s4 n4 c4]] w' fun e w2 => e = .returned (.bool true) ∧ Steps w' w2 := fun w' k => by
  have := rsame w' (h.2.keeps k) (h'.2.keeps k) fy fy
  rwa [decide_eq_true rfl] at this
 clear h h' fx fy
 go_enter Tryz.func18, Tryz.ntmps18
 have kk := Keeps.refl w
 go_wp2_with fail
 refine (p1 _ (kk.trans keepsB)).mono ?_
 rintro e w1 ⟨rfl, hb1⟩
 have st : Steps _ w1 := hb1
 have B : Below w.heap.size w w1 := belowA st
 have kp : Keeps w w1 := Keeps.then_ keepsB st
 replace kk := kk.trans kp
 have oa : Blk w1 (w.heap.size) 27 #[.bool g1, .slice s1 n1 c1, .bool g2, .slice s2 n2 c2] := Blk.stepsK st
 have ob : Blk w1 (w.heap.size + 1) 27 #[.bool g3, .slice s3 n3 c3, .bool g4, .slice s4 n4 c4] := Blk.stepsK st
 clear kp
 clear st
 obtain ⟨ca0, ca1, ca2, ca3⟩ := oa.r3
 have la := oa.lt
 obtain ⟨cb0, cb1, cb2, cb3⟩ := ob.r3
 have lb := ob.lt
 go_wp2_with fail
 refine (p2 _ (kk.trans keepsB)).mono ?_
 rintro e w2 ⟨rfl, hb2⟩
 have st : Steps _ w2 := hb2
 have sk : Below w1.heap.size w1 w2 := belowA st
 replace B := below_steps B (Nat.le_refl _) sk
 replace oa := oa.steps sk
 replace ob := ob.steps sk
 replace kk := kk.then_ sk
 clear st sk ca0 ca1 ca2 ca3 la cb0 cb1 cb2 cb3 lb
 go_wp2_with fail
 refine bodyPost_ret (by simp [results, Tryz.results18, go_sem, ]; rfl) rfl ?_
 exact ⟨rfl, belowB⟩
theorem frn_zeroQ (w : World) : Frn w 0 0 (.bool false) (.slice none 0 0) (.bool false) (.slice none 0 0) := ⟨Num.zero _, Num.zero _⟩
theorem psame {va vb : Value} {c : Int} {r : Rat} (w : World) (h : FE w va c r) (h' : FE w vb c r) : Calls Tryz.prog 18 #[va, vb] w fun e w' => e = .returned (.bool true) ∧ Steps w w' := by
 unfold FE at h h'
 by_cases hc : c = 0
 ·
  rw [if_pos hc] at h h'
  obtain ⟨a2, a3, a4, a6, a7, a8, rfl, n1, n2, -⟩ := h.nums
  obtain ⟨b2, b3, b4, b6, b7, b8, rfl, m1, m2, -⟩ := h'.nums
  exact psameN w ⟨n1, n2⟩ ⟨m1, m2⟩ h.fit.1 h.fit.2
 ·
  rw [if_neg hc] at h h'
  subst h
  subst h'
  exact psameN w (frn_zeroQ w) (frn_zeroQ w) (by decide) (by decide)
theorem FE.keeps {w w' : World} {v : Value} {c : Int} {r : Rat} (h : FE w v c r) (k : Keeps w w') : FE w' v c r := by
 unfold FE at h ⊢
 split
 · rename_i e; rw [if_pos e] at h; exact FR.keeps h k
 · rename_i e; rw [if_neg e] at h; exact h
theorem FE.steps {w w' : World} {v : Value} {c : Int} {r : Rat} (h : FE w v c r) (s : Steps w w') : FE w' v c r := h.keeps (Keeps.steps s)
theorem FE.shape {w : World} {v : Value} {c : Int} {r : Rat} (h : FE w v c r) : ∃ (a : Bool) (s : Option Addr) (n d : Nat) (b : Bool) (t : Option Addr) (m e : Nat), v = .agg #[.bool a, .slice s n d, .bool b, .slice t m e] := by
 unfold FE at h
 split at h
 · exact FR.shape h
 · exact ⟨_, _, _, _, _, _, _, _, h⟩
def gvn : List Int := [1, 2, 3, 4, 100]
theorem gv_ask : askV gvn = 0 := by decide +kernel
theorem srt_gv : srt gvn = gvn := (srt_of (List.Perm.refl _) (by unfold Asc gvn; decide)).symm
theorem srt_aw : srt [4, 2, 0, 2, 194] = [0, 2, 2, 4, 194] := (srt_of (by decide) (by unfold Asc; decide)).symm
theorem tw_gv : twI gvn = 6 := by unfold twI; rw [srt_gv]; decide
theorem gv_mean : meanQ gvn = ((22 : Int) : Rat) / ((1 : Int) : Rat) := by decide +kernel
theorem gv_med : medQ gvn = ((3 : Int) : Rat) / ((1 : Int) : Rat) := by unfold medQ; rw [tw_gv]; decide +kernel
theorem gv_dvn : dvnQ gvn = ((1 : Int) : Rat) / ((1 : Int) : Rat) := by
 unfold dvnQ
 rw [tw_gv, show awI 6 gvn = [4, 2, 0, 2, 194] by decide]
 unfold twI
 rw [srt_aw]
 decide +kernel
theorem gv_var : varQ gvn = ((1522 : Int) : Rat) / ((1 : Int) : Rat) := by decide +kernel
theorem gv_clip : clipS gvn (some (((3 : Int) : Rat) / ((2 : Int) : Rat))) = ([0, 1, 2, 3], 1, 0) := by decide +kernel
theorem gv_trim : meanQ (pick gvn [0, 1, 2, 3]) = ((5 : Int) : Rat) / ((2 : Int) : Rat) := by decide +kernel
theorem lof07 (x y : Int) (w : World) (x0 : -9223372036854775808 ≤ x) (x1 : x ≤ 9223372036854775807) (y0 : -9223372036854775808 ≤ y) (y1 : y ≤ 9223372036854775807) (hy : y ≠ 0) :
  Calls Tryz.prog 24 #[.int .i64 x, .int .i64 y] w fun e w' => ∃ v, e = .returned v ∧ FR w' v ((x : Rat) / (y : Rat)) ∧ Steps w w' := by
 have OF := fun w' => rofF x y w' x0 x1 y0 y1 hy
 generalize (x : Rat) / (y : Rat) = q at *
 clear x0 x1 y0 y1 hy
 go_enter Tryz.func24, Tryz.ntmps24
 go_wp2_with fail
 refine (OF _).mono ?_
 rintro e w1 ⟨vp_, rfl, hvp_, hb1⟩
 have st : Steps _ w1 := hb1
 have B : Below w.heap.size w w1 := belowA st
 have or : Blk w1 (w.heap.size) 27 #[.bool false, .slice none 0 0, .bool false, .slice none 0 0] := Blk.stepsK st
 clear st
 obtain ⟨cr0, cr1, cr2, cr3, fr, lr⟩ := or.s3
 obtain ⟨p_1, p_2, p_3, p_4, p_5, p_6, p_7, p_8, rfl⟩ := hvp_.shape
 have Fp_ := Hid.mk_ hvp_
 clear hvp_
 have zr_1 : w.heap.size < w1.heap.size := or.lt
 have zz1 := B.size
 go_wp2_with fail
 refine bodyPost_ret (by simp [results, Tryz.results24, go_sem, cr0, cr1, cr2, cr3, fr, lr]; rfl) rfl ?_
 exact ⟨_, rfl, Fp_.out.keeps keepsB, belowB⟩
theorem lgiven07 (w : World) : Calls Tryz.prog 27 #[] w fun e w' => ∃ v, e = .returned v ∧ IntsR w' v gvn ∧ Steps w w' := by
 go_enter Tryz.func27, Tryz.ntmps27
 go_wp2_with fail
 go_returns
 have o := Blk.new w 2 #[.int .i64 1, .int .i64 2, .int .i64 3, .int .i64 4, .int .i64 100]
 exact ⟨_, rfl, ⟨_, _, rfl, Nat.le_refl _, fun _ => ⟨w.heap.size, 0, rfl, o.lt, fun t ht => (by
  have h5 : t < 5 := ht
  rcases (show t = 0 ∨ t = 1 ∨ t = 2 ∨ t = 3 ∨ t = 4 by omega) with rfl | rfl | rfl | rfl | rfl
  · exact o.c 0 rfl
  · exact o.c 1 rfl
  · exact o.c 2 rfl
  · exact o.c 3 rfl
  · exact o.c 4 rfl)⟩⟩, belowB⟩
theorem lis (x y : Int) (w : World) {f1 f5 : Bool} {f2 f6 : Option Addr} {f3 f4 f7 f8 : Nat} (hf : FR w (.agg #[.bool f1, .slice f2 f3 f4, .bool f5, .slice f6 f7 f8]) ((x : Rat) / (y : Rat))) (x0 : -9223372036854775808 ≤ x) (x1 : x ≤ 9223372036854775807) (y0 : -9223372036854775808 ≤ y) (y1 : y ≤ 9223372036854775807) (hy : y ≠ 0) :
  Calls Tryz.prog 28 #[.agg #[.bool f1, .slice f2 f3 f4, .bool f5, .slice f6 f7 f8], .int .i64 0, .int .i64 x, .int .i64 y] w fun e w' => e = .returned (.bool true) ∧ Steps w w' := by
 have OF := fun w' => fofQ x y w' x0 x1 y0 y1 hy
 generalize (x : Rat) / (y : Rat) = q at *
 have Ff := Hid.mk_ hf
 clear x0 x1 y0 y1 hy hf
 go_enter Tryz.func28, Tryz.ntmps28
 go_wp2_with fail
 refine (OF _).mono ?_
 rintro e w1 ⟨vp_, rfl, hvp_, hb1⟩
 have st : Steps _ w1 := hb1
 have B : Below w.heap.size w w1 := belowA st
 have kp : Keeps w w1 := Keeps.then_ keepsB st
 have ok : Blk w1 (w.heap.size) 27 #[.bool f1, .slice f2 f3 f4, .bool f5, .slice f6 f7 f8] := Blk.stepsK st
 replace Ff := Hid.mk_ (Ff.out.keeps kp)
 clear kp
 clear st
 obtain ⟨ck0, ck1, ck2, ck3⟩ := ok.r3
 have lk := ok.lt
 obtain ⟨p_1, p_2, p_3, p_4, p_5, p_6, p_7, p_8, rfl⟩ := hvp_.shape
 have Fp_ := Hid.mk_ hvp_
 clear hvp_
 have zk_1 : w.heap.size < w1.heap.size := ok.lt
 have zz1 := B.size
 go_wp2_with fail
 refine (psame (c := 0) (r := q) _ (Ff.out.keeps keepsB) (Fp_.out.keeps keepsB)).mono ?_
 rintro e w2 ⟨rfl, hb2⟩
 have st : Steps _ w2 := hb2
 have sk : Below w1.heap.size w1 w2 := belowA st
 replace B := below_steps B (Nat.le_refl _) sk
 have og : Blk w2 (w1.heap.size) 27 #[.bool p_1, .slice p_2 p_3 p_4, .bool p_5, .slice p_6 p_7 p_8] := Blk.stepsK st
 replace ok := ok.steps sk
 replace Ff := Hid.mk_ (Ff.out.steps sk)
 replace Fp_ := Hid.mk_ (Fp_.out.steps sk)
 clear st sk ck0 ck1 ck2 ck3 lk
 go_wp2_with fail
 go_returns
 exact ⟨rfl, belowB⟩
theorem ints4 {w : World} {g : Nat} {t : TypeId} {x y z u : Int} (h : Blk w g t #[.int .i64 x, .int .i64 y, .int .i64 z, .int .i64 u]) : IntsR w (.slice (some ⟨g, 0, none⟩) 4 4) [x, y, z, u] := by
 refine ⟨_, _, rfl, Nat.le_refl _, fun _ => ⟨g, 0, rfl, h.lt, fun k hk => ?_⟩⟩
 have hk' : k < 4 := hk
 rcases (show k = 0 ∨ k = 1 ∨ k = 2 ∨ k = 3 by omega) with rfl | rfl | rfl | rfl
 · exact h.c 0 rfl
 · exact h.c 1 rfl
 · exact h.c 2 rfl
 · exact h.c 3 rfl
theorem lalive07 (w : World) : Calls Tryz.prog 20 #[] w fun e w' => e = .returned (.bool true) ∧ Steps w w' := by
 have LN : gvn.length = 5 := rfl
 have Ca : ∀ w' v, IntsR w' v gvn → Calls Tryz.prog 10 #[v] w' fun e w2 => ∃ u, e = .returned (.tuple #[u, .int .i64 0]) ∧ FR w2 u (((22 : Int) : Rat) / ((1 : Int) : Rat)) ∧ Steps w' w2 := fun w' v h => by
  have := vMean w' h (by rw [LN]; decide)
  rw [gv_ask, gv_mean] at this
  exact this
 have Ia := fun (w' : World) (f1 f5 : Bool) (f2 f6 : Option Addr) (f3 f4 f7 f8 : Nat) (h : FR w' (.agg #[.bool f1, .slice f2 f3 f4, .bool f5, .slice f6 f7 f8]) _) => lis 22 1 w' h (by decide) (by decide) (by decide) (by decide) (by decide)
 generalize ((22 : Int) : Rat) / ((1 : Int) : Rat) = qa at *
 have Cb : ∀ w' v, IntsR w' v gvn → Calls Tryz.prog 25 #[v] w' fun e w2 => ∃ u, e = .returned (.tuple #[u, .int .i64 0]) ∧ FR w2 u (((3 : Int) : Rat) / ((1 : Int) : Rat)) ∧ Steps w' w2 := fun w' v h => by
  have := vMedian w' h (by rw [LN]; decide) (fun _ => by rw [LN]; decide)
  rw [gv_ask, gv_med] at this
  exact this
 have Ib := fun (w' : World) (f1 f5 : Bool) (f2 f6 : Option Addr) (f3 f4 f7 f8 : Nat) (h : FR w' (.agg #[.bool f1, .slice f2 f3 f4, .bool f5, .slice f6 f7 f8]) _) => lis 3 1 w' h (by decide) (by decide) (by decide) (by decide) (by decide)
 generalize ((3 : Int) : Rat) / ((1 : Int) : Rat) = qb at *
 have Cc : ∀ w' v, IntsR w' v gvn → Calls Tryz.prog 30 #[v] w' fun e w2 => ∃ u, e = .returned (.tuple #[u, .int .i64 0]) ∧ FR w2 u (((1 : Int) : Rat) / ((1 : Int) : Rat)) ∧ Steps w' w2 := fun w' v h => by
  have := vDeviation w' h (by rw [LN]; decide) (fun _ => by rw [LN]; decide)
  rw [gv_ask, gv_dvn] at this
  exact this
 have Ic := fun (w' : World) (f1 f5 : Bool) (f2 f6 : Option Addr) (f3 f4 f7 f8 : Nat) (h : FR w' (.agg #[.bool f1, .slice f2 f3 f4, .bool f5, .slice f6 f7 f8]) _) => lis 1 1 w' h (by decide) (by decide) (by decide) (by decide) (by decide)
 generalize ((1 : Int) : Rat) / ((1 : Int) : Rat) = qc at *
 have Cd : ∀ w' v, IntsR w' v gvn → Calls Tryz.prog 12 #[v] w' fun e w2 => ∃ u, e = .returned (.tuple #[u, .int .i64 0]) ∧ FR w2 u (((1522 : Int) : Rat) / ((1 : Int) : Rat)) ∧ Steps w' w2 := fun w' v h => by
  have := vVariance w' h (by rw [LN]; decide)
  rw [gv_ask, gv_var] at this
  exact this
 have Id := fun (w' : World) (f1 f5 : Bool) (f2 f6 : Option Addr) (f3 f4 f7 f8 : Nat) (h : FR w' (.agg #[.bool f1, .slice f2 f3 f4, .bool f5, .slice f6 f7 f8]) _) => lis 1522 1 w' h (by decide) (by decide) (by decide) (by decide) (by decide)
 generalize ((1522 : Int) : Rat) / ((1 : Int) : Rat) = qd at *
 have Z := fun w' => lof07 3 2 w' (by decide) (by decide) (by decide) (by decide) (by decide)
 have Z4 : ∀ r, some (((3 : Int) : Rat) / ((2 : Int) : Rat)) = some r → sz r 4 := fun r e => by injection e with e; subst e; unfold sz; decide +kernel
 have CC : ∀ w' v k, IntsR w' v gvn → FR w' k (((3 : Int) : Rat) / ((2 : Int) : Rat)) → Calls Tryz.prog 14 #[v, k] w' fun e w2 => ∃ u, e = .returned (.tuple #[u, .int .i64 1, .int .i64 0]) ∧ IntsR w2 u [0, 1, 2, 3] ∧ Steps w' w2 := fun w' v k h hk => by
  have := vClip (o := some (((3 : Int) : Rat) / ((2 : Int) : Rat))) w' h (by rw [LN]; decide) hk Z4
  rw [gv_clip] at this
  exact this
 have CT : ∀ w' v k, IntsR w' v gvn → FR w' k (((3 : Int) : Rat) / ((2 : Int) : Rat)) → Calls Tryz.prog 16 #[v, k] w' fun e w2 => ∃ u, e = .returned (.tuple #[u, .int .i64 0]) ∧ FR w2 u (((5 : Int) : Rat) / ((2 : Int) : Rat)) ∧ Steps w' w2 := fun w' v k h hk => by
  have := vTrimmed (o := some (((3 : Int) : Rat) / ((2 : Int) : Rat))) w' h (by rw [LN]; decide) hk Z4
  rw [gv_clip, show (([0, 1, 2, 3], 1, 0) : List Nat × Nat × Int).1 = [0, 1, 2, 3] from rfl, gv_trim] at this
  exact this
 have It := fun (w' : World) (f1 f5 : Bool) (f2 f6 : Option Addr) (f3 f4 f7 f8 : Nat) (h : FR w' (.agg #[.bool f1, .slice f2 f3 f4, .bool f5, .slice f6 f7 f8]) _) => lis 5 2 w' h (by decide) (by decide) (by decide) (by decide) (by decide)
 generalize ((5 : Int) : Rat) / ((2 : Int) : Rat) = qt at *
 generalize ((3 : Int) : Rat) / ((2 : Int) : Rat) = qk at *
 clear Z4
 have GV := @lgiven07
 rw [show gvn = gvn from rfl] at *
 generalize gvn = gl at *
 go_enter Tryz.func20, Tryz.ntmps20
 go_wp2_with fail
 refine (GV _).mono ?_
 rintro e w1 ⟨vG1_, rfl, hvG1_, hb1⟩
 have st : Steps _ w1 := hb1
 have B : Below w.heap.size w w1 := belowA st
 clear st
 obtain ⟨G1_a, G1_c, rfl⟩ := hvG1_.shape
 rw [LN] at hvG1_ ⊢
 have FG1_ := Hid.mk_ hvG1_
 clear hvG1_
 go_wp2_with fail
 refine (Ca _ _ (FG1_.out.steps belowB)).mono ?_
 rintro e w2 ⟨va_, rfl, hva_, hb2⟩
 have st : Steps _ w2 := hb2
 have sk : Below w1.heap.size w1 w2 := belowA st
 replace B := below_steps B (Nat.le_refl _) sk
 replace FG1_ := Hid.mk_ (FG1_.out.steps sk)
 clear st sk
 obtain ⟨a_1, a_2, a_3, a_4, a_5, a_6, a_7, a_8, rfl⟩ := hva_.shape
 have Fa_ := Hid.mk_ hva_
 clear hva_
 have zz2 := B.size
 go_wp2_with fail
 refine (GV _).mono ?_
 rintro e w3 ⟨vG2_, rfl, hvG2_, hb3⟩
 have st : Steps _ w3 := hb3
 have sk : Below w2.heap.size w2 w3 := belowA st
 replace B := below_steps B (Nat.le_refl _) sk
 have ova : Blk w3 (w2.heap.size) 27 #[.bool a_1, .slice a_2 a_3 a_4, .bool a_5, .slice a_6 a_7 a_8] := Blk.stepsK st
 replace FG1_ := Hid.mk_ (FG1_.out.steps sk)
 replace Fa_ := Hid.mk_ (Fa_.out.steps sk)
 clear st sk
 obtain ⟨G2_a, G2_c, rfl⟩ := hvG2_.shape
 rw [LN] at hvG2_ ⊢
 have FG2_ := Hid.mk_ hvG2_
 clear hvG2_
 go_wp2_with fail
 refine (Cb _ _ (FG2_.out.steps belowB)).mono ?_
 rintro e w4 ⟨vb_, rfl, hvb_, hb4⟩
 have st : Steps _ w4 := hb4
 have sk : Below w3.heap.size w3 w4 := belowA st
 replace B := below_steps B (Nat.le_refl _) sk
 replace ova := ova.steps sk
 replace FG1_ := Hid.mk_ (FG1_.out.steps sk)
 replace Fa_ := Hid.mk_ (Fa_.out.steps sk)
 replace FG2_ := Hid.mk_ (FG2_.out.steps sk)
 clear st sk
 obtain ⟨b_1, b_2, b_3, b_4, b_5, b_6, b_7, b_8, rfl⟩ := hvb_.shape
 have Fb_ := Hid.mk_ hvb_
 clear hvb_
 have zva_4 : w2.heap.size < w4.heap.size := ova.lt
 have zz4 := B.size
 go_wp2_with fail
 refine (GV _).mono ?_
 rintro e w5 ⟨vG3_, rfl, hvG3_, hb5⟩
 have st : Steps _ w5 := hb5
 have sk : Below w4.heap.size w4 w5 := belowA st
 replace B := below_steps B (Nat.le_refl _) sk
 have ovb : Blk w5 (w4.heap.size) 27 #[.bool b_1, .slice b_2 b_3 b_4, .bool b_5, .slice b_6 b_7 b_8] := Blk.stepsK st
 replace ova := ova.steps sk
 replace FG1_ := Hid.mk_ (FG1_.out.steps sk)
 replace Fa_ := Hid.mk_ (Fa_.out.steps sk)
 replace FG2_ := Hid.mk_ (FG2_.out.steps sk)
 replace Fb_ := Hid.mk_ (Fb_.out.steps sk)
 clear st sk
 obtain ⟨G3_a, G3_c, rfl⟩ := hvG3_.shape
 rw [LN] at hvG3_ ⊢
 have FG3_ := Hid.mk_ hvG3_
 clear hvG3_
 go_wp2_with fail
 refine (Cc _ _ (FG3_.out.steps belowB)).mono ?_
 rintro e w6 ⟨vc_, rfl, hvc_, hb6⟩
 have st : Steps _ w6 := hb6
 have sk : Below w5.heap.size w5 w6 := belowA st
 replace B := below_steps B (Nat.le_refl _) sk
 replace ova := ova.steps sk
 replace ovb := ovb.steps sk
 replace FG1_ := Hid.mk_ (FG1_.out.steps sk)
 replace Fa_ := Hid.mk_ (Fa_.out.steps sk)
 replace FG2_ := Hid.mk_ (FG2_.out.steps sk)
 replace Fb_ := Hid.mk_ (Fb_.out.steps sk)
 replace FG3_ := Hid.mk_ (FG3_.out.steps sk)
 clear st sk
 obtain ⟨c_1, c_2, c_3, c_4, c_5, c_6, c_7, c_8, rfl⟩ := hvc_.shape
 have Fc_ := Hid.mk_ hvc_
 clear hvc_
 have zvb_6 : w4.heap.size < w6.heap.size := ovb.lt
 have zz6 := B.size
 go_wp2_with fail
 refine (GV _).mono ?_
 rintro e w7 ⟨vG4_, rfl, hvG4_, hb7⟩
 have st : Steps _ w7 := hb7
 have sk : Below w6.heap.size w6 w7 := belowA st
 replace B := below_steps B (Nat.le_refl _) sk
 have ovc : Blk w7 (w6.heap.size) 27 #[.bool c_1, .slice c_2 c_3 c_4, .bool c_5, .slice c_6 c_7 c_8] := Blk.stepsK st
 replace ova := ova.steps sk
 replace ovb := ovb.steps sk
 replace FG1_ := Hid.mk_ (FG1_.out.steps sk)
 replace Fa_ := Hid.mk_ (Fa_.out.steps sk)
 replace FG2_ := Hid.mk_ (FG2_.out.steps sk)
 replace Fb_ := Hid.mk_ (Fb_.out.steps sk)
 replace FG3_ := Hid.mk_ (FG3_.out.steps sk)
 replace Fc_ := Hid.mk_ (Fc_.out.steps sk)
 clear st sk
 obtain ⟨G4_a, G4_c, rfl⟩ := hvG4_.shape
 rw [LN] at hvG4_ ⊢
 have FG4_ := Hid.mk_ hvG4_
 clear hvG4_
 go_wp2_with fail
 refine (Cd _ _ (FG4_.out.steps belowB)).mono ?_
 rintro e w8 ⟨vd_, rfl, hvd_, hb8⟩
 have st : Steps _ w8 := hb8
 have sk : Below w7.heap.size w7 w8 := belowA st
 replace B := below_steps B (Nat.le_refl _) sk
 replace ova := ova.steps sk
 replace ovb := ovb.steps sk
 replace ovc := ovc.steps sk
 replace FG1_ := Hid.mk_ (FG1_.out.steps sk)
 replace Fa_ := Hid.mk_ (Fa_.out.steps sk)
 replace FG2_ := Hid.mk_ (FG2_.out.steps sk)
 replace Fb_ := Hid.mk_ (Fb_.out.steps sk)
 replace FG3_ := Hid.mk_ (FG3_.out.steps sk)
 replace Fc_ := Hid.mk_ (Fc_.out.steps sk)
 replace FG4_ := Hid.mk_ (FG4_.out.steps sk)
 clear st sk
 obtain ⟨d_1, d_2, d_3, d_4, d_5, d_6, d_7, d_8, rfl⟩ := hvd_.shape
 have Fd_ := Hid.mk_ hvd_
 clear hvd_
 have zvc_8 : w6.heap.size < w8.heap.size := ovc.lt
 have zz8 := B.size
 go_wp2_with fail
 refine (GV _).mono ?_
 rintro e w9 ⟨vG5_, rfl, hvG5_, hb9⟩
 have st : Steps _ w9 := hb9
 have sk : Below w8.heap.size w8 w9 := belowA st
 replace B := below_steps B (Nat.le_refl _) sk
 have ovd : Blk w9 (w8.heap.size) 27 #[.bool d_1, .slice d_2 d_3 d_4, .bool d_5, .slice d_6 d_7 d_8] := Blk.stepsK st
 replace ova := ova.steps sk
 replace ovb := ovb.steps sk
 replace ovc := ovc.steps sk
 replace FG1_ := Hid.mk_ (FG1_.out.steps sk)
 replace Fa_ := Hid.mk_ (Fa_.out.steps sk)
 replace FG2_ := Hid.mk_ (FG2_.out.steps sk)
 replace Fb_ := Hid.mk_ (Fb_.out.steps sk)
 replace FG3_ := Hid.mk_ (FG3_.out.steps sk)
 replace Fc_ := Hid.mk_ (Fc_.out.steps sk)
 replace FG4_ := Hid.mk_ (FG4_.out.steps sk)
 replace Fd_ := Hid.mk_ (Fd_.out.steps sk)
 clear st sk
 obtain ⟨G5_a, G5_c, rfl⟩ := hvG5_.shape
 rw [LN] at hvG5_ ⊢
 have FG5_ := Hid.mk_ hvG5_
 clear hvG5_
 go_wp2_with fail
 refine (Z _).mono ?_
 rintro e w10 ⟨vk1_, rfl, hvk1_, hb10⟩
 have st : Steps _ w10 := hb10
 have sk : Below w9.heap.size w9 w10 := belowA st
 replace B := below_steps B (Nat.le_refl _) sk
 replace ova := ova.steps sk
 replace ovb := ovb.steps sk
 replace ovc := ovc.steps sk
 replace ovd := ovd.steps sk
 replace FG1_ := Hid.mk_ (FG1_.out.steps sk)
 replace Fa_ := Hid.mk_ (Fa_.out.steps sk)
 replace FG2_ := Hid.mk_ (FG2_.out.steps sk)
 replace Fb_ := Hid.mk_ (Fb_.out.steps sk)
 replace FG3_ := Hid.mk_ (FG3_.out.steps sk)
 replace Fc_ := Hid.mk_ (Fc_.out.steps sk)
 replace FG4_ := Hid.mk_ (FG4_.out.steps sk)
 replace Fd_ := Hid.mk_ (Fd_.out.steps sk)
 replace FG5_ := Hid.mk_ (FG5_.out.steps sk)
 clear st sk
 obtain ⟨k1_1, k1_2, k1_3, k1_4, k1_5, k1_6, k1_7, k1_8, rfl⟩ := hvk1_.shape
 have Fk1_ := Hid.mk_ hvk1_
 clear hvk1_
 go_wp2_with fail
 refine (CC _ _ _ (FG5_.out.steps belowB) (Fk1_.out.keeps keepsB)).mono ?_
 rintro e w11 ⟨vu, rfl, hvu, hb11⟩
 have st : Steps _ w11 := hb11
 have sk : Below w10.heap.size w10 w11 := belowA st
 replace B := below_steps B (Nat.le_refl _) sk
 replace ova := ova.steps sk
 replace ovb := ovb.steps sk
 replace ovc := ovc.steps sk
 replace ovd := ovd.steps sk
 replace FG1_ := Hid.mk_ (FG1_.out.steps sk)
 replace Fa_ := Hid.mk_ (Fa_.out.steps sk)
 replace FG2_ := Hid.mk_ (FG2_.out.steps sk)
 replace Fb_ := Hid.mk_ (Fb_.out.steps sk)
 replace FG3_ := Hid.mk_ (FG3_.out.steps sk)
 replace Fc_ := Hid.mk_ (Fc_.out.steps sk)
 replace FG4_ := Hid.mk_ (FG4_.out.steps sk)
 replace Fd_ := Hid.mk_ (Fd_.out.steps sk)
 replace FG5_ := Hid.mk_ (FG5_.out.steps sk)
 replace Fk1_ := Hid.mk_ (Fk1_.out.steps sk)
 clear st sk
 obtain ⟨ua, uc, rfl⟩ := hvu.shape
 have Fu := Hid.mk_ hvu
 clear hvu
 go_wp2_with fail
 refine (GV _).mono ?_
 rintro e w12 ⟨vG6_, rfl, hvG6_, hb12⟩
 have st : Steps _ w12 := hb12
 have sk : Below w11.heap.size w11 w12 := belowA st
 replace B := below_steps B (Nat.le_refl _) sk
 replace ova := ova.steps sk
 replace ovb := ovb.steps sk
 replace ovc := ovc.steps sk
 replace ovd := ovd.steps sk
 replace FG1_ := Hid.mk_ (FG1_.out.steps sk)
 replace Fa_ := Hid.mk_ (Fa_.out.steps sk)
 replace FG2_ := Hid.mk_ (FG2_.out.steps sk)
 replace Fb_ := Hid.mk_ (Fb_.out.steps sk)
 replace FG3_ := Hid.mk_ (FG3_.out.steps sk)
 replace Fc_ := Hid.mk_ (Fc_.out.steps sk)
 replace FG4_ := Hid.mk_ (FG4_.out.steps sk)
 replace Fd_ := Hid.mk_ (Fd_.out.steps sk)
 replace FG5_ := Hid.mk_ (FG5_.out.steps sk)
 replace Fk1_ := Hid.mk_ (Fk1_.out.steps sk)
 replace Fu := Hid.mk_ (Fu.out.steps sk)
 clear st sk
 obtain ⟨G6_a, G6_c, rfl⟩ := hvG6_.shape
 rw [LN] at hvG6_ ⊢
 have FG6_ := Hid.mk_ hvG6_
 clear hvG6_
 go_wp2_with fail
 refine (Z _).mono ?_
 rintro e w13 ⟨vk2_, rfl, hvk2_, hb13⟩
 have st : Steps _ w13 := hb13
 have sk : Below w12.heap.size w12 w13 := belowA st
 replace B := below_steps B (Nat.le_refl _) sk
 replace ova := ova.steps sk
 replace ovb := ovb.steps sk
 replace ovc := ovc.steps sk
 replace ovd := ovd.steps sk
 replace FG1_ := Hid.mk_ (FG1_.out.steps sk)
 replace Fa_ := Hid.mk_ (Fa_.out.steps sk)
 replace FG2_ := Hid.mk_ (FG2_.out.steps sk)
 replace Fb_ := Hid.mk_ (Fb_.out.steps sk)
 replace FG3_ := Hid.mk_ (FG3_.out.steps sk)
 replace Fc_ := Hid.mk_ (Fc_.out.steps sk)
 replace FG4_ := Hid.mk_ (FG4_.out.steps sk)
 replace Fd_ := Hid.mk_ (Fd_.out.steps sk)
 replace FG5_ := Hid.mk_ (FG5_.out.steps sk)
 replace Fk1_ := Hid.mk_ (Fk1_.out.steps sk)
 replace Fu := Hid.mk_ (Fu.out.steps sk)
 replace FG6_ := Hid.mk_ (FG6_.out.steps sk)
 clear st sk
 obtain ⟨k2_1, k2_2, k2_3, k2_4, k2_5, k2_6, k2_7, k2_8, rfl⟩ := hvk2_.shape
 have Fk2_ := Hid.mk_ hvk2_
 clear hvk2_
 go_wp2_with fail
 refine (CT _ _ _ (FG6_.out.steps belowB) (Fk2_.out.keeps keepsB)).mono ?_
 rintro e w14 ⟨vt_, rfl, hvt_, hb14⟩
 have st : Steps _ w14 := hb14
 have sk : Below w13.heap.size w13 w14 := belowA st
 replace B := below_steps B (Nat.le_refl _) sk
 replace ova := ova.steps sk
 replace ovb := ovb.steps sk
 replace ovc := ovc.steps sk
 replace ovd := ovd.steps sk
 replace FG1_ := Hid.mk_ (FG1_.out.steps sk)
 replace Fa_ := Hid.mk_ (Fa_.out.steps sk)
 replace FG2_ := Hid.mk_ (FG2_.out.steps sk)
 replace Fb_ := Hid.mk_ (Fb_.out.steps sk)
 replace FG3_ := Hid.mk_ (FG3_.out.steps sk)
 replace Fc_ := Hid.mk_ (Fc_.out.steps sk)
 replace FG4_ := Hid.mk_ (FG4_.out.steps sk)
 replace Fd_ := Hid.mk_ (Fd_.out.steps sk)
 replace FG5_ := Hid.mk_ (FG5_.out.steps sk)
 replace Fk1_ := Hid.mk_ (Fk1_.out.steps sk)
 replace Fu := Hid.mk_ (Fu.out.steps sk)
 replace FG6_ := Hid.mk_ (FG6_.out.steps sk)
 replace Fk2_ := Hid.mk_ (Fk2_.out.steps sk)
 clear st sk
 obtain ⟨cva0, cva1, cva2, cva3⟩ := ova.r3
 have lva := ova.lt
 obtain ⟨t_1, t_2, t_3, t_4, t_5, t_6, t_7, t_8, rfl⟩ := hvt_.shape
 have Ft_ := Hid.mk_ hvt_
 clear hvt_
 have zvd_14 : w8.heap.size < w14.heap.size := ovd.lt
 have zz14 := B.size
 go_wp2_with fail
 refine (Ia _ _ _ _ _ _ _ _ _ (Fa_.out.keeps keepsB)).mono ?_
 rintro e w15 ⟨rfl, hb15⟩
 have st : Steps _ w15 := hb15
 have sk : Below w14.heap.size w14 w15 := belowA st
 replace B := below_steps B (Nat.le_refl _) sk
 have ovt : Blk w15 (w14.heap.size) 27 #[.bool t_1, .slice t_2 t_3 t_4, .bool t_5, .slice t_6 t_7 t_8] := Blk.stepsK st
 replace ova := ova.steps sk
 replace ovb := ovb.steps sk
 replace ovc := ovc.steps sk
 replace ovd := ovd.steps sk
 replace FG1_ := Hid.mk_ (FG1_.out.steps sk)
 replace Fa_ := Hid.mk_ (Fa_.out.steps sk)
 replace FG2_ := Hid.mk_ (FG2_.out.steps sk)
 replace Fb_ := Hid.mk_ (Fb_.out.steps sk)
 replace FG3_ := Hid.mk_ (FG3_.out.steps sk)
 replace Fc_ := Hid.mk_ (Fc_.out.steps sk)
 replace FG4_ := Hid.mk_ (FG4_.out.steps sk)
 replace Fd_ := Hid.mk_ (Fd_.out.steps sk)
 replace FG5_ := Hid.mk_ (FG5_.out.steps sk)
 replace Fk1_ := Hid.mk_ (Fk1_.out.steps sk)
 replace Fu := Hid.mk_ (Fu.out.steps sk)
 replace FG6_ := Hid.mk_ (FG6_.out.steps sk)
 replace Fk2_ := Hid.mk_ (Fk2_.out.steps sk)
 replace Ft_ := Hid.mk_ (Ft_.out.steps sk)
 clear st sk cva0 cva1 cva2 cva3 lva
 obtain ⟨cvb0, cvb1, cvb2, cvb3⟩ := ovb.r3
 have lvb := ovb.lt
 go_wp2_with fail
 refine (Ib _ _ _ _ _ _ _ _ _ (Fb_.out.keeps keepsB)).mono ?_
 rintro e w16 ⟨rfl, hb16⟩
 have st : Steps _ w16 := hb16
 have sk : Below w15.heap.size w15 w16 := belowA st
 replace B := below_steps B (Nat.le_refl _) sk
 replace ova := ova.steps sk
 replace ovb := ovb.steps sk
 replace ovc := ovc.steps sk
 replace ovd := ovd.steps sk
 replace ovt := ovt.steps sk
 replace FG1_ := Hid.mk_ (FG1_.out.steps sk)
 replace Fa_ := Hid.mk_ (Fa_.out.steps sk)
 replace FG2_ := Hid.mk_ (FG2_.out.steps sk)
 replace Fb_ := Hid.mk_ (Fb_.out.steps sk)
 replace FG3_ := Hid.mk_ (FG3_.out.steps sk)
 replace Fc_ := Hid.mk_ (Fc_.out.steps sk)
 replace FG4_ := Hid.mk_ (FG4_.out.steps sk)
 replace Fd_ := Hid.mk_ (Fd_.out.steps sk)
 replace FG5_ := Hid.mk_ (FG5_.out.steps sk)
 replace Fk1_ := Hid.mk_ (Fk1_.out.steps sk)
 replace Fu := Hid.mk_ (Fu.out.steps sk)
 replace FG6_ := Hid.mk_ (FG6_.out.steps sk)
 replace Fk2_ := Hid.mk_ (Fk2_.out.steps sk)
 replace Ft_ := Hid.mk_ (Ft_.out.steps sk)
 clear st sk cvb0 cvb1 cvb2 cvb3 lvb
 obtain ⟨cvc0, cvc1, cvc2, cvc3⟩ := ovc.r3
 have lvc := ovc.lt
 go_wp2_with fail
 refine (Ic _ _ _ _ _ _ _ _ _ (Fc_.out.keeps keepsB)).mono ?_
 rintro e w17 ⟨rfl, hb17⟩
 have st : Steps _ w17 := hb17
 have sk : Below w16.heap.size w16 w17 := belowA st
 replace B := below_steps B (Nat.le_refl _) sk
 replace ova := ova.steps sk
 replace ovb := ovb.steps sk
 replace ovc := ovc.steps sk
 replace ovd := ovd.steps sk
 replace ovt := ovt.steps sk
 replace FG1_ := Hid.mk_ (FG1_.out.steps sk)
 replace Fa_ := Hid.mk_ (Fa_.out.steps sk)
 replace FG2_ := Hid.mk_ (FG2_.out.steps sk)
 replace Fb_ := Hid.mk_ (Fb_.out.steps sk)
 replace FG3_ := Hid.mk_ (FG3_.out.steps sk)
 replace Fc_ := Hid.mk_ (Fc_.out.steps sk)
 replace FG4_ := Hid.mk_ (FG4_.out.steps sk)
 replace Fd_ := Hid.mk_ (Fd_.out.steps sk)
 replace FG5_ := Hid.mk_ (FG5_.out.steps sk)
 replace Fk1_ := Hid.mk_ (Fk1_.out.steps sk)
 replace Fu := Hid.mk_ (Fu.out.steps sk)
 replace FG6_ := Hid.mk_ (FG6_.out.steps sk)
 replace Fk2_ := Hid.mk_ (Fk2_.out.steps sk)
 replace Ft_ := Hid.mk_ (Ft_.out.steps sk)
 clear st sk cvc0 cvc1 cvc2 cvc3 lvc
 obtain ⟨cvd0, cvd1, cvd2, cvd3⟩ := ovd.r3
 have lvd := ovd.lt
 go_wp2_with fail
 refine (Id _ _ _ _ _ _ _ _ _ (Fd_.out.keeps keepsB)).mono ?_
 rintro e w18 ⟨rfl, hb18⟩
 have st : Steps _ w18 := hb18
 have sk : Below w17.heap.size w17 w18 := belowA st
 replace B := below_steps B (Nat.le_refl _) sk
 replace ova := ova.steps sk
 replace ovb := ovb.steps sk
 replace ovc := ovc.steps sk
 replace ovd := ovd.steps sk
 replace ovt := ovt.steps sk
 replace FG1_ := Hid.mk_ (FG1_.out.steps sk)
 replace Fa_ := Hid.mk_ (Fa_.out.steps sk)
 replace FG2_ := Hid.mk_ (FG2_.out.steps sk)
 replace Fb_ := Hid.mk_ (Fb_.out.steps sk)
 replace FG3_ := Hid.mk_ (FG3_.out.steps sk)
 replace Fc_ := Hid.mk_ (Fc_.out.steps sk)
 replace FG4_ := Hid.mk_ (FG4_.out.steps sk)
 replace Fd_ := Hid.mk_ (Fd_.out.steps sk)
 replace FG5_ := Hid.mk_ (FG5_.out.steps sk)
 replace Fk1_ := Hid.mk_ (Fk1_.out.steps sk)
 replace Fu := Hid.mk_ (Fu.out.steps sk)
 replace FG6_ := Hid.mk_ (FG6_.out.steps sk)
 replace Fk2_ := Hid.mk_ (Fk2_.out.steps sk)
 replace Ft_ := Hid.mk_ (Ft_.out.steps sk)
 clear st sk cvd0 cvd1 cvd2 cvd3 lvd
 have zvt_18 : w14.heap.size < w18.heap.size := ovt.lt
 have zz18 := B.size
 go_wp2_with fail
 refine (rsameInts (l := [0, 1, 2, 3]) _ (Fu.out.steps belowB) (ints4 ownK) (by decide)).mono ?_
 rintro e w19 ⟨rfl, hb19⟩
 have st : Steps _ w19 := hb19
 have sk : Below w18.heap.size w18 w19 := belowA st
 replace B := below_steps B (Nat.le_refl _) sk
 replace ova := ova.steps sk
 replace ovb := ovb.steps sk
 replace ovc := ovc.steps sk
 replace ovd := ovd.steps sk
 replace ovt := ovt.steps sk
 replace FG1_ := Hid.mk_ (FG1_.out.steps sk)
 replace Fa_ := Hid.mk_ (Fa_.out.steps sk)
 replace FG2_ := Hid.mk_ (FG2_.out.steps sk)
 replace Fb_ := Hid.mk_ (Fb_.out.steps sk)
 replace FG3_ := Hid.mk_ (FG3_.out.steps sk)
 replace Fc_ := Hid.mk_ (Fc_.out.steps sk)
 replace FG4_ := Hid.mk_ (FG4_.out.steps sk)
 replace Fd_ := Hid.mk_ (Fd_.out.steps sk)
 replace FG5_ := Hid.mk_ (FG5_.out.steps sk)
 replace Fk1_ := Hid.mk_ (Fk1_.out.steps sk)
 replace Fu := Hid.mk_ (Fu.out.steps sk)
 replace FG6_ := Hid.mk_ (FG6_.out.steps sk)
 replace Fk2_ := Hid.mk_ (Fk2_.out.steps sk)
 replace Ft_ := Hid.mk_ (Ft_.out.steps sk)
 clear st sk
 obtain ⟨cvt0, cvt1, cvt2, cvt3⟩ := ovt.r3
 have lvt := ovt.lt
 go_wp2_with fail
 refine (It _ _ _ _ _ _ _ _ _ (Ft_.out.keeps keepsB)).mono ?_
 rintro e w20 ⟨rfl, hb20⟩
 have st : Steps _ w20 := hb20
 have sk : Below w19.heap.size w19 w20 := belowA st
 replace B := below_steps B (Nat.le_refl _) sk
 replace ova := ova.steps sk
 replace ovb := ovb.steps sk
 replace ovc := ovc.steps sk
 replace ovd := ovd.steps sk
 replace ovt := ovt.steps sk
 replace FG1_ := Hid.mk_ (FG1_.out.steps sk)
 replace Fa_ := Hid.mk_ (Fa_.out.steps sk)
 replace FG2_ := Hid.mk_ (FG2_.out.steps sk)
 replace Fb_ := Hid.mk_ (Fb_.out.steps sk)
 replace FG3_ := Hid.mk_ (FG3_.out.steps sk)
 replace Fc_ := Hid.mk_ (Fc_.out.steps sk)
 replace FG4_ := Hid.mk_ (FG4_.out.steps sk)
 replace Fd_ := Hid.mk_ (Fd_.out.steps sk)
 replace FG5_ := Hid.mk_ (FG5_.out.steps sk)
 replace Fk1_ := Hid.mk_ (Fk1_.out.steps sk)
 replace Fu := Hid.mk_ (Fu.out.steps sk)
 replace FG6_ := Hid.mk_ (FG6_.out.steps sk)
 replace Fk2_ := Hid.mk_ (Fk2_.out.steps sk)
 replace Ft_ := Hid.mk_ (Ft_.out.steps sk)
 clear st sk cvt0 cvt1 cvt2 cvt3 lvt
 go_wp2_with fail
 go_returns
 exact ⟨rfl, belowB⟩
theorem medQ_sz {l : List Int} (hv : valL l) (h0 : l ≠ []) : sz (medQ l) 2 := by
 unfold medQ
 have := tw_val h0 hv
 exact sz_frac (by decide) (by unfold absN; rw [bp2_]; omega) (by rw [bp2_]; decide)
theorem div_one_ (q : Rat) : q / ((1 : Int) : Rat) = q := by
 have : ((1 : Int) : Rat) = 1 := rfl
 rw [this]; grind
theorem wAbs {va : Value} {x : Int} (w : World) (ha : Num w va x) (fx : fits x) :
  Calls Tryz.prog 97 #[va] w fun e w' => ∃ v, e = .returned (.tuple #[v, .int .i64 0]) ∧ Num w' v (absN x) ∧ Steps w w' := by
 have ck : ∀ (w' : World) (q : Nat) (sa : Value), Blk w' q 25 #[.bool (decide (x < 0)), sa] → Lim w' sa (limbs (absN x)) →
   Calls Tryz.prog 92 #[.slice (some ⟨q, 0, none⟩) 1 1] w' fun e w2 => e = .returned (.int .i64 0) ∧ Steps w' w2 := fun w' q sa hb h1 => by
  have := wcheck1 w' hb h1
  rw [show errC (valid (decide (x < 0)) (limbs (absN x))) = 0 from if_pos (valid_of fx)] at this
  exact this
 obtain ⟨aa, ca, rfl, pa⟩ := ha.parts
 have nx : (limbs (absN x)).length ≤ few := by unfold fits at fx; unfold few; omega
 have vx := lval_limbs (absN_nonneg x)
 have cl : ∀ w' sa, Lim w' sa (limbs (absN x)) → Calls Tryz.prog 120 #[sa] w' fun e w2 => ∃ v, e = .returned v ∧ Lim w2 v (limbs (absN x)) ∧ Steps w' w2 := fun w' sa h1 => by
  refine (wclone w' h1 nx).mono ?_
  rintro e w2 ⟨v, rfl, _, h2, h3⟩
  exact ⟨v, rfl, h2, h3⟩
 have mk : ∀ w' s, Lim w' s (limbs (absN x)) → Calls Tryz.prog 94 #[.bool false, s] w' fun e w2 => ∃ v, e = .returned (.tuple #[v, .int .i64 0]) ∧ Num w2 v (absN x) ∧ Steps w' w2 := fun w' s h => by
  have := wmadeN false w' h nx
  have fa : fits (absN x) := by unfold fits at fx ⊢; rw [absN_abs]; exact fx
  rw [show zv false (lval (limbs (absN x))) = absN x from by rw [vx]; rfl, show errN (absN x) = 0 from if_pos fa, show clipN (absN x) = absN x from if_pos fa] at this
  exact this
 obtain ⟨LX, hLX⟩ : ∃ l, limbs (absN x) = l := ⟨_, rfl⟩
 rw [hLX] at cl mk ck pa ⊢
 obtain ⟨n, hn⟩ : ∃ n, LX.length = n := ⟨_, rfl⟩
 rw [hn] at pa ⊢
 obtain ⟨gx, hgx⟩ : ∃ b, decide (x < 0) = b := ⟨_, rfl⟩
 rw [hgx] at ck ⊢
 have Fa := Hid.mk_ pa
 clear ha pa hn hgx hLX fx nx vx
 go_enter Tryz.func97, Tryz.ntmps97
 go_wp2_with fail
 refine (ck _ _ _ ownK (Fa.out.keeps keepsB)).mono ?_
 rintro e w1 ⟨rfl, hb1⟩
 have st : Steps _ w1 := hb1
 have B : Below w.heap.size w w1 := belowA st
 have kp : Keeps w w1 := Keeps.then_ keepsB st
 have oa : Blk w1 (w.heap.size) 25 #[.bool gx, .slice aa n ca] := Blk.stepsK st
 have or : Blk w1 (w.heap.size + 1) 25 #[.bool false, .slice none 0 0] := Blk.stepsK st
 replace Fa := Hid.mk_ (Fa.out.keeps kp)
 clear kp
 clear st
 obtain ⟨ca0, ca1⟩ := oa.r1
 have la := oa.lt
 have lr := or.lt
 clear ck
 go_wp2_with fail
 refine (cl _ _ (Fa.out.keeps keepsB)).mono ?_
 rintro e w2 ⟨tv, rfl, ht, hb2⟩
 have st : Steps _ w2 := hb2
 have sk : Below w1.heap.size w1 w2 := belowA st
 replace B := below_steps B (Nat.le_refl _) sk
 replace oa := oa.steps sk
 replace or := or.steps sk
 replace Fa := Hid.mk_ (Fa.out.steps sk)
 clear st sk ca0 ca1 la lr
 have Ft := Hid.mk_ ht
 clear ht
 go_wp2_with fail
 refine (mk _ _ (Ft.out.keeps keepsB)).mono ?_
 rintro e w3 ⟨vp, rfl, hvp, hb3⟩
 have st : Steps _ w3 := hb3
 have sk : Below w2.heap.size w2 w3 := belowA st
 replace B := below_steps B (Nat.le_refl _) sk
 replace oa := oa.steps sk
 replace or := or.steps sk
 replace Fa := Hid.mk_ (Fa.out.steps sk)
 replace Ft := Hid.mk_ (Ft.out.steps sk)
 clear st sk
 have la := oa.lt
 obtain ⟨cr0, cr1, fr, lr⟩ := or.s1
 obtain ⟨p1, p2, p3, p4, rfl⟩ := hvp.shape
 have Fp := Hid.mk_ hvp
 clear hvp
 go_wp2_with fail
 refine bodyPost_ret (by simp [results, Tryz.results97, go_sem, la, cr0, cr1, fr, lr]; rfl) rfl ?_
 exact ⟨_, rfl, Fp.out.keeps keepsB, belowB⟩
def getC (c : Array Value) : Value → Array Value
 | .agg a => #[a.getD 0 (.bool false), a.getD 1 (.bool false), c.getD 0 (.bool false), c.getD 1 (.bool false)]
 | _ => #[]
theorem fnget {n1 d1 : Bool} {n2 d2 : Option Addr} {n3 n4 d3 d4 : Nat} {x y : Int} (w : World) (ha : Num w (.agg #[.bool n1, .slice n2 n3 n4]) x) (hb : Num w (.agg #[.bool d1, .slice d2 d3 d4]) y) (fx : fits x) :
  Calls Tryz.prog 96 #[.agg #[.bool n1, .slice n2 n3 n4, .bool d1, .slice d2 d3 d4]] w fun e w' => ∃ p1 p2 p3 p4, e = .returned (.agg #[.bool p1, .slice p2 p3 p4, .bool d1, .slice d2 d3 d4]) ∧ Num w' (.agg #[.bool p1, .slice p2 p3 p4]) (-x) ∧ Num w' (.agg #[.bool d1, .slice d2 d3 d4]) y ∧ Steps w w' := by
 have ng : ∀ w' v, Num w' v x → Calls Tryz.prog 104 #[v] w' fun e w2 => ∃ v, e = .returned (.tuple #[v, .int .i64 0]) ∧ Num w2 v (-x) ∧ Steps w' w2 := fun w' v h => wNeg w' h fx
 have Fn := Hid.mk_ ha
 have Fd := Hid.mk_ hb
 clear ha hb fx
 go_enter Tryz.func96, Tryz.ntmps96
 go_wp2_with fail
 go_upto_region 1 with fail
 refine Reg.wp_chain_n (fun N0 D v W => Below w.heap.size w W ∧ Keeps w W ∧ N0 ≤ W.heap.size ∧ Blk W (w.heap.size) 125 #[.bool n1, .slice n2 n3 n4, .bool d1, .slice d2 d3 d4] ∧ ((D 11 = false → Blk W (w.heap.size + 1) 27 #[.bool false, .slice none 0 0, .bool false, .slice none 0 0]) ∧ (D 11 = true → D 6 = true ∧ Blk W (w.heap.size + 1) 27 (getC #[.bool d1, .slice d2 d3 d4] (v 6)))))
  (Reg.inl [3, 6, 11]) (Reg.gv [(3, IsNuE 0), (6, IsNu)]) (gw [(3, GNuE (-x) 0), (6, GNu (-x))]) (fun _ => Keeps) (fun _ _ => False) (Reg.pl [(6, [(3, some 6)]), (11, [(6, some 9)]), (12, [(3, some 6), (6, some 9)])]) (Reg.pl [(6, [11])])
  (by kernel_rfl) (by kernel_rfl) (by kernel_rfl) (Reg.gvA _) (fun N0 hN0 => ⟨fun v => ?_, fun D v v' W hv hj => ?_, fun D v k j W W' x _ _ _ _ hk hg => gwA hk hg, fun _ _ _ _ h => h.elim, fun ops' Q' hops hQ => ?_⟩)
 · exact ⟨belowB, keepsB, by first | with_reducible exact Nat.le_of_eq hN0.out | (simp only [World.size_drew]; with_reducible exact Nat.le_of_eq hN0.out), ownK, ⟨fun _ => ownK, (fun h => Bool.noConfusion h)⟩⟩
 ·
  obtain ⟨j0, jk, jn, b_a, b_r⟩ := hj
  exact ⟨j0, jk, jn, b_a, ⟨b_r.1, fun h => by obtain ⟨d_6, hb⟩ := b_r.2 h; refine ⟨d_6, ?_⟩; first | (rw [hv 6 d_6]; exact hb) | (rw [← hv 6 d_6]; exact hb)⟩⟩
 have eN := hN0.out
 try simp only [World.size_alloc, World.size_setCell, World.size_drew, World.heap_drewN] at eN
 have i_a : w.heap.size < N0 := by first | omega | (have h := oa.lt; omega)
 have i_r : w.heap.size + 1 < N0 := by first | omega | (have h := or.lt; omega)
 have iw : w.heap.size ≤ N0 := by first | omega | (have h := B.size; omega)
 clear hN0 eN
 refine Reg.RP0 3 ?_
 refine Reg.RP0 4 ?_
 apply Reg.RP rfl rfl rfl 5 rfl rfl
 ·
  intro D v' W' hc hj hf K hK
  obtain ⟨j0, jk, jn, b_a, b_r⟩ := hj
  obtain ⟨c0, c1⟩ := b_a.r1
  go_step
  exact hK.out
 · rfl
 refine Reg.RC_call rfl (tlt rfl) rfl (fun D v' W' hc hj hf K hK => ?_) ?_
 ·
  obtain ⟨j0, jk, jn, b_a, b_r⟩ := hj
  clear hf
  go_step
  refine (ng W' _ (Fn.out.keeps jk)).mono ?_
  rintro e W2 ⟨u, rfl, hu, hs⟩
  obtain ⟨p1, p2, p3, p4, rfl⟩ := hu.shape
  exact hK.out _ W2 (Keeps.steps hs) ⟨jst j0 hs, jk.then_ hs, jsz jn hs, b_a.steps hs, ⟨fun h => (b_r.1 h).steps hs, fun h => by obtain ⟨d_6, hb⟩ := b_r.2 h; exact ⟨d_6, hb.steps hs⟩⟩⟩ ⟨_, rfl, hu⟩ ⟨_, _, _, _, rfl⟩
 rintro _ ⟨p1, p2, p3, p4, rfl⟩
 refine Reg.RC_at (b := ⟨#[_,_,_,_,_,_,_,_,_,_,_,_,_,_], _⟩) rfl ?_
 refine Reg.RP0 7 ?_
 refine Reg.RP0 8 ?_
 refine Reg.RC_call rfl (tlt rfl) rfl (fun D v' W' hc hj hf K hK => ?_) ?_
 ·
  obtain ⟨j0, jk, jn, b_a, b_r⟩ := hj
  have g3 : GNuE (-x) 0 _ W' := (hf (3, some 6) (.head _) rfl).2.2
  have g3 := g3.get
  clear hf
  go_step
  refine (fmust W' g3).mono ?_
  rintro e W2 ⟨u, rfl, hu, hs⟩
  obtain ⟨q1, q2, q3, q4, rfl⟩ := hu.shape
  exact hK.out _ W2 (Keeps.steps hs) ⟨jst j0 hs, jk.then_ hs, jsz jn hs, b_a.steps hs, ⟨fun h => (b_r.1 h).steps hs, fun h => Bool.noConfusion ((hc.2 11 (by decide)).symm.trans h)⟩⟩ hu ⟨_, _, _, _, rfl⟩
 rintro _ ⟨q1, q2, q3, q4, rfl⟩
 refine Reg.RC_at (b := ⟨#[_,_,_,_,_,_,_,_,_,_,_,_,_,_], _⟩) rfl ?_
 refine Reg.RP0 10 ?_
 refine Reg.RP0 11 ?_
 apply Reg.RP rfl rfl rfl 12 rfl rfl
 ·
  intro D v' W' hc hj hf K hK
  obtain ⟨j0, jk, jn, b_a, b_r⟩ := hj
  have c2 := b_a.q2
  have c3 := b_a.q3
  go_step
  exact hK.out
 · rfl
 refine Reg.RP0 13 ?_
 refine Reg.RC_call rfl (by intro t ht; cases ht) rfl (fun D v' W' hc hj hf K hK => ?_) (fun _ _ => Reg.RC_at (b := ⟨_, _⟩) rfl ?_)
 ·
  obtain ⟨j0, jk, jn, b_a, b_r⟩ := hj
  have hb := b_r.1 hc.1
  have e2 : w.heap.size ≤ w.heap.size + 1 := by omega
  have ff := hb.fr
  have fc_6 := hf (6, some 9) (.head _) rfl
  have ec_6 : v' 6 = .agg #[.bool q1, .slice q2 q3 q4] := fc_6.2.1
  obtain ⟨cc0, cc1, cc2, cc3⟩ := hb.r3
  go_step
  have nb2 : Blk ((((W'.setCell ⟨w.heap.size + 1, 0, none⟩ (.bool q1)).setCell ⟨w.heap.size + 1, 1, none⟩ (.slice q2 q3 q4)).setCell ⟨w.heap.size + 1, 2, none⟩ (.bool d1)).setCell ⟨w.heap.size + 1, 3, none⟩ (.slice d2 d3 d4)) (w.heap.size + 1) 27 (getC #[.bool d1, .slice d2 d3 d4] (v' 6)) := by rw [ec_6]; exact (Blk.set2 (cs' := #[.bool q1, .slice q2 q3 q4, .bool d1, .slice d2 d3 d4]) (Blk.set2 (cs' := #[.bool q1, .slice q2 q3 q4, .bool d1, .slice none 0 0]) (Blk.set2 (cs' := #[.bool q1, .slice q2 q3 q4, .bool false, .slice none 0 0]) (Blk.set2 (cs' := #[.bool q1, .slice none 0 0, .bool false, .slice none 0 0]) hb (i := 0) rfl) (i := 1) rfl) (i := 2) rfl) (i := 3) rfl)
  exact hK.out undef _ (keeps4 hb rfl) ⟨(below4 j0 (by show w.heap.size ≤ w.heap.size + 1; omega)), jk.trans (keeps4 hb rfl), by simpa using jn, (b_a).far4 (show w.heap.size ≠ w.heap.size + 1 by omega), ⟨fun h => Bool.noConfusion h, fun _ => ⟨fc_6.1, nb2⟩⟩⟩ trivial trivial
 refine Reg.RC_end (fun Dn v' w1 hd hj hf => ?_)
 obtain ⟨j0, jk, jn, b_a, b_r⟩ := hj
 have B := j0
 have oa := b_a
 clear b_a
 obtain ⟨-, or⟩ := b_r.2 (hd 11 (Nat.le_of_ble_eq_true rfl))
 have ef6 : v' 6 = .agg #[.bool q1, .slice q2 q3 q4] := (hf (6, some 9) (.tail _ (.head _)) rfl).2.1
 rw [ef6] at or
 replace or : Blk _ _ _ #[.bool q1, .slice q2 q3 q4, .bool d1, .slice d2 d3 d4] := or
 clear b_r ef6
 have Fq : Hid (Num w1 (.agg #[.bool q1, .slice q2 q3 q4]) (-x)) := (hf (6, some 9) (.tail _ (.head _)) rfl).2.2
 replace Fn := Hid.mk_ (Fn.out.keeps jk)
 replace Fd := Hid.mk_ (Fd.out.keeps jk)
 clear hd hf jk j0
 refine hQ _ _ ?_
 clear hQ hops Q' ops'
 have la := oa.lt
 obtain ⟨cr0, cr1, cr2, cr3⟩ := or.r3
 have lr := or.lt
 go_wp2_with fail
 refine bodyPost_ret (by simp [results, Tryz.results96, go_sem, la, cr0, cr1, cr2, cr3, lr]; rfl) rfl ?_
 exact ⟨_, _, _, _, rfl, Fq.out.keeps keepsB, Fd.out.keeps keepsB, belowB⟩
theorem gcd_neg_ (x y : Int) : gcdI (-x) y = gcdI x y := by unfold gcdI; rw [Int.neg_gcd]
theorem fNegQ {va : Value} {r : Rat} (w : World) (ha : FR w va r) :
  Calls Tryz.prog 61 #[va] w fun e w' => ∃ v, e = .returned (.tuple #[v, .int .i64 0]) ∧ FR w' v (-r) ∧ Steps w w' := by
 have fa := ha.fit
 have ck : ∀ w' v, FR w' v r → Calls Tryz.prog 65 #[v] w' fun e w2 => e = .returned (.int .i64 0) ∧ Steps w' w2 := fun w' v h => fcheck_q w' h
 have ab : ∀ w' v, Num w' v (r.den : Int) → Calls Tryz.prog 97 #[v] w' fun e w2 => ∃ v, e = .returned (.tuple #[v, .int .i64 0]) ∧ Num w2 v (r.den : Int) ∧ Steps w' w2 := fun w' v h => by
  have := wAbs w' h fa.2
  rw [den_abs] at this
  exact this
 have gt : ∀ w' n1 n2 n3 n4 d1 d2 d3 d4, Num w' (.agg #[.bool n1, .slice n2 n3 n4]) r.num → Num w' (.agg #[.bool d1, .slice d2 d3 d4]) (r.den : Int) → Calls Tryz.prog 96 #[.agg #[.bool n1, .slice n2 n3 n4, .bool d1, .slice d2 d3 d4]] w' fun e w2 => ∃ v, e = .returned v ∧ FR w2 v (-r) ∧ Steps w' w2 := fun w' n1 n2 n3 n4 d1 d2 d3 d4 h1 h2 => by
  refine (fnget w' h1 h2 fa.1).mono ?_
  rintro e w2 ⟨p1, p2, p3, p4, rfl, h3, h4, hs⟩
  refine ⟨_, rfl, ?_, hs⟩
  unfold FR
  rw [Rat.neg_num, Rat.neg_den]
  exact Frc.mk' h3 h4 (den_pos' r) (by rw [gcd_neg_]; exact gcd_rat r) (fits_neg fa.1) fa.2
 have ha0 := ha
 obtain ⟨a2, a3, a4, a6, a7, a8, rfl, na, da, -⟩ := ha.nums
 obtain ⟨ga, hga⟩ : ∃ g, decide (r < 0) = g := ⟨_, rfl⟩
 rw [hga] at na ha0 ⊢
 have Fa := Hid.mk_ ha0
 have Fn := Hid.mk_ na
 have Fd := Hid.mk_ da
 clear hga na da ha ha0 fa
 go_enter_defers Tryz.func61, Tryz.ntmps61
 go_wp2_with fail
 refine (ck _ _ (Fa.out.keeps keepsB)).mono ?_
 rintro e w1 ⟨rfl, hb1⟩
 have st : Steps _ w1 := hb1
 have B : Below w.heap.size w w1 := belowA st
 have kp : Keeps w w1 := Keeps.then_ keepsB st
 have oa : Blk w1 (w.heap.size) 27 #[.bool ga, .slice a2 a3 a4, .bool false, .slice a6 a7 a8] := Blk.stepsK st
 have or : Blk w1 (w.heap.size + 1) 27 #[.bool false, .slice none 0 0, .bool false, .slice none 0 0] := Blk.stepsK st
 have oe : Blk w1 (w.heap.size + 1 + 1) 29 #[.int .i64 0] := Blk.stepsK st
 replace Fa := Hid.mk_ (Fa.out.keeps kp)
 replace Fn := Hid.mk_ (Fn.out.keeps kp)
 replace Fd := Hid.mk_ (Fd.out.keeps kp)
 clear kp
 clear st
 go_wp2_with fail
 refine (fwant0s _).mono ?_
 rintro e w2 ⟨rfl, hb2⟩
 have st : Steps _ w2 := hb2
 have sk : Below w1.heap.size w1 w2 := belowA st
 replace B := below_steps B (Nat.le_refl _) sk
 replace oa := oa.steps sk
 replace or := or.steps sk
 replace oe := oe.steps sk
 replace Fa := Hid.mk_ (Fa.out.steps sk)
 replace Fn := Hid.mk_ (Fn.out.steps sk)
 replace Fd := Hid.mk_ (Fd.out.steps sk)
 clear st sk
 obtain ⟨ca0, ca1, ca2, ca3⟩ := oa.r3
 have la := oa.lt
 have lr := or.lt
 have le := oe.lt
 go_wp2_with fail
 have ze_2 : w.heap.size + 1 + 1 < w2.heap.size := oe.lt
 have zz2 := B.size
 go_upto_region 4 with fail
 refine Reg.wp_chain_n (fun N0 D v W => Below w.heap.size w W ∧ Keeps w2 W ∧ N0 ≤ W.heap.size ∧ Blk W (w.heap.size) 27 #[.bool ga, .slice a2 a3 a4, .bool false, .slice a6 a7 a8] ∧ ((D 12 = false → Blk W (w.heap.size + 1) 27 #[.bool false, .slice none 0 0, .bool false, .slice none 0 0]) ∧ (D 12 = true → D 11 = true ∧ ∃ cs, v 11 = .agg cs ∧ Blk W (w.heap.size + 1) 27 cs)) ∧ ((D 13 = false → Blk W (w.heap.size + 1 + 1) 29 #[.int .i64 0]) ∧ (D 13 = true → Blk W (w.heap.size + 1 + 1) 29 #[.int .i64 0])))
  (Reg.inl [5, 8, 11, 12, 13]) (Reg.gv [(5, IsNuE 0), (8, IsNu), (11, IsFr)]) (gw [(5, GNuE ((r.den : Int)) 0), (8, GNu ((r.den : Int))), (11, GFr (-r))]) (fun _ => Keeps) (fun _ _ => False) (Reg.pl [(8, [(5, some 13)]), (11, [(8, some 16)]), (12, [(11, some 19)]), (14, [(5, some 13), (8, some 16), (11, some 19)])]) (Reg.pl [(11, [12])])
  (by kernel_rfl) (by kernel_rfl) (by kernel_rfl) (Reg.gvA _) (fun N0 hN0 => ⟨fun v => ?_, fun D v v' W hv hj => ?_, fun D v k j W W' x _ _ _ _ hk hg => gwA hk hg, fun _ _ _ _ h => h.elim, fun ops' Q' hops hQ => ?_⟩)
 · exact ⟨belowB, keepsB, by first | with_reducible exact Nat.le_of_eq hN0.out | (simp only [World.size_drew]; with_reducible exact Nat.le_of_eq hN0.out), ownK, ⟨fun _ => ownK, (fun h => Bool.noConfusion h)⟩, ⟨fun _ => ownK, (fun h => Bool.noConfusion h)⟩⟩
 ·
  obtain ⟨j0, jk, jn, b_a, b_r, b_e⟩ := hj
  exact ⟨j0, jk, jn, b_a, ⟨b_r.1, fun h => by obtain ⟨d, cs, e, hb⟩ := b_r.2 h; exact ⟨d, cs, (hv 11 d) ▸ e, hb⟩⟩, b_e⟩
 have eN := hN0.out
 try simp only [World.size_alloc, World.size_setCell, World.size_drew, World.heap_drewN] at eN
 have i_a : w.heap.size < N0 := by first | omega | (have h := oa.lt; omega)
 have i_r : w.heap.size + 1 < N0 := by first | omega | (have h := or.lt; omega)
 have i_e : w.heap.size + 1 + 1 < N0 := by first | omega | (have h := oe.lt; omega)
 have iw : w.heap.size ≤ N0 := by first | omega | (have h := B.size; omega)
 clear ca0 ca1 ca2 ca3 la lr le
 clear hN0
 refine Reg.RP0 8 ?_
 refine Reg.RP0 9 ?_
 apply Reg.RP rfl rfl rfl 10 rfl rfl
 ·
  intro D v' W' hc hj hf K hK
  obtain ⟨j0, jk, jn, b_a, b_r, b_e⟩ := hj
  obtain ⟨c0, c1⟩ := b_a.r1
  go_step
  exact hK.out
 · rfl
 refine Reg.RP0 11 ?_
 apply Reg.RP rfl rfl rfl 12 rfl rfl
 ·
  intro D v' W' hc hj hf K hK
  obtain ⟨j0, jk, jn, b_a, b_r, b_e⟩ := hj
  have c2 := b_a.q2
  have c3 := b_a.q3
  go_step
  exact hK.out
 · rfl
 refine Reg.RC_call rfl (tlt rfl) rfl (fun D v' W' hc hj hf K hK => ?_) ?_
 ·
  obtain ⟨j0, jk, jn, b_a, b_r, b_e⟩ := hj
  clear hf
  go_step
  refine (ab W' _ (Fd.out.keeps jk)).mono ?_
  rintro e W2 ⟨u, rfl, hu, hs⟩
  obtain ⟨p1, p2, p3, p4, rfl⟩ := hu.shape
  exact hK.out _ W2 (Keeps.steps hs) ⟨jst j0 hs, jk.then_ hs, jsz jn hs, b_a.steps hs, ⟨fun h => (b_r.1 h).steps hs, fun h => by obtain ⟨d, cs, e, hb⟩ := b_r.2 h; exact ⟨d, cs, e, hb.steps hs⟩⟩, ⟨fun h => (b_e.1 h).steps hs, fun h => (b_e.2 h).steps hs⟩⟩ ⟨_, rfl, hu⟩ ⟨_, _, _, _, rfl⟩
 rintro _ ⟨p1, p2, p3, p4, rfl⟩
 refine Reg.RC_at (b := ⟨#[_,_,_,_,_,_,_,_,_,_,_,_,_,_,_,_,_,_,_,_], _⟩) rfl ?_
 refine Reg.RP0 14 ?_
 refine Reg.RP0 15 ?_
 refine Reg.RC_call rfl (tlt rfl) rfl (fun D v' W' hc hj hf K hK => ?_) ?_
 ·
  obtain ⟨j0, jk, jn, b_a, b_r, b_e⟩ := hj
  have g5 : GNuE ((r.den : Int)) 0 _ W' := (hf (5, some 13) (.head _) rfl).2.2
  have g5 := g5.get
  clear hf
  go_step
  refine (fmust W' g5).mono ?_
  rintro e W2 ⟨u, rfl, hu, hs⟩
  obtain ⟨u1, u2, u3, u4, rfl⟩ := hu.shape
  exact hK.out _ W2 (Keeps.steps hs) ⟨jst j0 hs, jk.then_ hs, jsz jn hs, b_a.steps hs, ⟨fun h => (b_r.1 h).steps hs, fun h => by obtain ⟨d, cs, e, hb⟩ := b_r.2 h; exact ⟨d, cs, e, hb.steps hs⟩⟩, ⟨fun h => (b_e.1 h).steps hs, fun h => (b_e.2 h).steps hs⟩⟩ hu ⟨_, _, _, _, rfl⟩
 rintro _ ⟨u1, u2, u3, u4, rfl⟩
 refine Reg.RC_at (b := ⟨#[_,_,_,_,_,_,_,_,_,_,_,_,_,_,_,_,_,_,_,_], _⟩) rfl ?_
 refine Reg.RP0 17 ?_
 refine Reg.RP0 18 ?_
 refine Reg.RC_call rfl (tlt rfl) rfl (fun D v' W' hc hj hf K hK => ?_) ?_
 ·
  obtain ⟨j0, jk, jn, b_a, b_r, b_e⟩ := hj
  have g8 : GNu ((r.den : Int)) _ W' := (hf (8, some 16) (.head _) rfl).2.2
  have g8 : Num W' _ ((r.den : Int)) := g8
  clear hf
  go_step
  refine (gt W' _ _ _ _ _ _ _ _ (Fn.out.keeps jk) g8).mono ?_
  rintro e W2 ⟨u, rfl, hu, hs⟩
  obtain ⟨q1, q2, q3, q4, q5, q6, q7, q8, rfl⟩ := hu.shape
  exact hK.out _ W2 (Keeps.steps hs) ⟨jst j0 hs, jk.then_ hs, jsz jn hs, b_a.steps hs, ⟨fun h => (b_r.1 h).steps hs, fun h => Bool.noConfusion ((hc.2 12 (by decide)).symm.trans h)⟩, ⟨fun h => (b_e.1 h).steps hs, fun h => (b_e.2 h).steps hs⟩⟩ hu ⟨_, _, _, _, _, _, _, _, rfl⟩
 rintro _ ⟨q1, q2, q3, q4, q5, q6, q7, q8, rfl⟩
 refine Reg.RC_at (b := ⟨#[_,_,_,_,_,_,_,_,_,_,_,_,_,_,_,_,_,_,_,_], _⟩) rfl ?_
 refine Reg.RC_call rfl (by intro t ht; cases ht) rfl (fun D v' W' hc hj hf K hK => ?_) (fun _ _ => Reg.RC_at (b := ⟨_, _⟩) rfl ?_)
 ·
  obtain ⟨j0, jk, jn, b_a, b_r, b_e⟩ := hj
  have hb := b_r.1 hc.1
  have e2 : w.heap.size ≤ w.heap.size + 1 := by omega
  have fc := hf (11, some 19) (.head _) rfl
  have ec : v' 11 = .agg #[.bool q1, .slice q2 q3 q4, .bool q5, .slice q6 q7 q8] := fc.2.1
  have ff := hb.fr
  obtain ⟨cc0, cc1, cc2, cc3⟩ := hb.r3
  go_step
  exact hK.out undef _ (keeps4 hb rfl) ⟨(below4 j0 (by show w.heap.size ≤ w.heap.size + 1; omega)), jk.trans (keeps4 hb rfl), by simpa using jn, (b_a).far4 (show w.heap.size ≠ w.heap.size + 1 by omega), ⟨fun h => Bool.noConfusion h, fun _ => ⟨fc.1, _, ec, (Blk.set2 (cs' := #[.bool q1, .slice q2 q3 q4, .bool q5, .slice q6 q7 q8]) (Blk.set2 (cs' := #[.bool q1, .slice q2 q3 q4, .bool q5, .slice none 0 0]) (Blk.set2 (cs' := #[.bool q1, .slice q2 q3 q4, .bool false, .slice none 0 0]) (Blk.set2 (cs' := #[.bool q1, .slice none 0 0, .bool false, .slice none 0 0]) hb (i := 0) rfl) (i := 1) rfl) (i := 2) rfl) (i := 3) rfl)⟩⟩, ⟨fun h => (b_e.1 h).far4 (show w.heap.size + 1 + 1 ≠ w.heap.size + 1 by omega), fun h => (b_e.2 h).far4 (show w.heap.size + 1 + 1 ≠ w.heap.size + 1 by omega)⟩⟩ trivial trivial
 refine Reg.RC_call rfl (by intro t ht; cases ht) rfl (fun D v' W' hc hj hf K hK => ?_) (fun _ _ => Reg.RC_at (b := ⟨_, _⟩) rfl ?_)
 ·
  obtain ⟨j0, jk, jn, b_a, b_r, b_e⟩ := hj
  have hb := b_e.1 hc.1
  have e2 : w.heap.size ≤ w.heap.size + 1 + 1 := by omega
  have ff := hb.fr
  have cc0 := hb.q0
  go_step
  exact hK.out undef _ (Keeps.only hb rfl ((Only.refl _ _).set)) ⟨(Below.setCell (p := ⟨w.heap.size + 1 + 1, 0, none⟩) j0 (by show w.heap.size ≤ w.heap.size + 1 + 1; omega) _), jk.trans (Keeps.only hb rfl ((Only.refl _ _).set)), by simpa using jn, (b_a).far' (show w.heap.size ≠ w.heap.size + 1 + 1 by omega), ⟨fun h => (b_r.1 h).far' (show w.heap.size + 1 ≠ w.heap.size + 1 + 1 by omega), fun h => by obtain ⟨d, cs, e, hb2⟩ := b_r.2 h; exact ⟨d, cs, e, (hb2).far' (show w.heap.size + 1 ≠ w.heap.size + 1 + 1 by omega)⟩⟩, ⟨fun h => Bool.noConfusion h, fun _ => (Blk.set2 (cs' := #[.int .i64 0]) hb (i := 0) rfl)⟩⟩ trivial trivial
 refine Reg.RC_end (fun Dn v' w3 hd hj hf => ?_)
 obtain ⟨j0, jk, jn, b_a, b_r, b_e⟩ := hj
 have B := j0
 have oa := b_a
 clear b_a
 obtain ⟨-, cs_, ee, or⟩ := b_r.2 (hd 12 (Nat.le_of_ble_eq_true rfl))
 have ef : v' 11 = .agg #[.bool q1, .slice q2 q3 q4, .bool q5, .slice q6 q7 q8] := (hf (11, some 19) (.tail _ (.tail _ (.head _))) rfl).2.1
 obtain rfl : #[.bool q1, .slice q2 q3 q4, .bool q5, .slice q6 q7 q8] = cs_ := by have := ef.symm.trans ee; simpa only [Value.tuple.injEq, Value.agg.injEq, Array.mk.injEq, List.cons.injEq, and_true, true_and] using this
 clear b_r ee ef
 have oe := b_e.2 (hd 13 (Nat.le_of_ble_eq_true rfl))
 clear b_e
 have Fq : Hid (FR w3 (.agg #[.bool q1, .slice q2 q3 q4, .bool q5, .slice q6 q7 q8]) (-r)) := (hf (11, some 19) (.tail _ (.tail _ (.head _))) rfl).2.2
 replace Fa := Hid.mk_ (Fa.out.keeps jk)
 replace Fn := Hid.mk_ (Fn.out.keeps jk)
 replace Fd := Hid.mk_ (Fd.out.keeps jk)
 clear hd hf jk j0
 refine hQ _ _ ?_
 clear hQ hops Q' ops'
 have la := oa.lt
 obtain ⟨cr0, cr1, cr2, cr3⟩ := or.r3
 have lr := or.lt
 have ce0 := oe.q0
 have le := oe.lt
 go_wp2_with fail
 refine leaves_cons (f := 63) (args := #[.pointer (some ⟨w.heap.size + 1 + 1, 0, none⟩)]) (by simp) (by simp [go_sem]) ?_
 refine (fcatch_idle _ _).mono ?_
 rintro e u' w'' ⟨rfl, rfl, rfl⟩
 refine ⟨_, by simp [results, Tryz.results61, go_sem, la, cr0, cr1, cr2, cr3, lr, ce0, le]; rfl, ?_⟩
 exact ⟨_, rfl, Fq.out.keeps keepsB, belowB⟩
theorem away_step {y : Rat} {l : List Int} {i : Nat} (h : i < l.length) : awayQ y (l.take (i + 1)) = awayQ y (l.take i) + absQ ((l.getD i 0 : Rat) - y) := by
 rw [take_step h, awayQ_app]
 simp only [awayQ]
 grind
theorem sz_away {y : Rat} {k : Nat} : ∀ (l : List Int), (∀ x ∈ l, sz (absQ ((x : Rat) - y)) k) → sz (awayQ y l) ((k + 1) * l.length + 1)
 | [], _ => by unfold sz; simp only [awayQ]; exact ⟨by have := bp_pos ((k + 1) * ([] : List Int).length + 1); show absN 0 ≤ _; unfold absN; omega, by have := bp_pos ((k + 1) * ([] : List Int).length + 1); show (1 : Int) ≤ _; omega⟩
 | x :: l, h => by
  have h1 := h x (List.mem_cons_self ..)
  have h2 := sz_away l (fun y hy => h y (List.mem_cons_of_mem _ hy))
  have := h1.add h2
  simp only [awayQ]
  refine this.mono ?_
  simp only [List.length_cons, Nat.mul_add, Nat.mul_one]; omega
theorem FR.sgn {w : World} {a b : Bool} {s t : Value} {r : Rat} (h : FR w (.agg #[.bool a, s, .bool b, t]) r) : a = decide (r < 0) := by
 obtain ⟨_, _, _, _, _, _, e, -⟩ := h.nums
 simp only [Value.agg.injEq, Array.mk.injEq, List.cons.injEq, and_true, Value.bool.injEq] at e
 exact e.1
theorem absQ_neg' {q : Rat} (h : q < 0) : absQ q = -q := by unfold absQ; rw [if_pos h]
theorem absQ_pos' {q : Rat} (h : ¬ q < 0) : absQ q = q := by unfold absQ; rw [if_neg h]
theorem laway {vl vx : Value} {l : List Int} {r : Rat} (w : World) (hl : IntsR w vl l) (hv : ∀ x ∈ l, -4294967296 ≤ x ∧ x ≤ 4294967296) (hn : l.length ≤ 24) (hx : FR w vx r) (zr : sz r 2) :
  Calls Tryz.prog 33 #[vl, vx] w fun e w' => ∃ v, e = .returned (.tuple #[v, .bool true]) ∧ FR w' v (awayQ r l) ∧ Steps w w' := by
 have zd : ∀ x ∈ l, sz ((x : Rat) - r) 5 := fun x hx => sz.mono ((sz_val (hv x hx)).sub zr) (show 2 + 2 + 1 ≤ 5 by omega)
 have zs : ∀ i, sz (awayQ r (l.take i)) 145 := fun i => sz.mono (sz_away (k := 5) (l.take i) (fun x hx => (zd x ((List.take_sublist _ _).subset hx)).abs)) (by
  have : (l.take i).length ≤ 24 := by rw [List.length_take]; omega
  have := Nat.mul_le_mul_left 6 this
  omega)
 have W0 := fun w' => lof07 0 1 w' (by decide) (by decide) (by decide) (by decide) (by decide)
 have e0 : ((0 : Int) : Rat) / ((1 : Int) : Rat) = awayQ r (l.take 0) := by simp only [List.take_zero, awayQ]; decide +kernel
 rw [e0] at W0
 have WX : ∀ i, i < l.length → ∀ w', Calls Tryz.prog 24 #[.int .i64 (l.getD i 0), .int .i64 1] w' fun e w2 => ∃ v, e = .returned v ∧ FR w2 v ((l.getD i 0 : Int) : Rat) ∧ Steps w' w2 := fun i hi w' => by
  have hr := hv _ (getD_mem hi)
  have := lof07 (l.getD i 0) 1 w' (by omega) (by omega) (by decide) (by decide) (by decide)
  rw [div_one_] at this
  exact this
 have SB : ∀ i, i < l.length → ∀ w' u v, FR w' u ((l.getD i 0 : Int) : Rat) → FR w' v r → Calls Tryz.prog 32 #[u, v] w' fun e w2 => ∃ v, e = .returned (.tuple #[v, .int .i64 0]) ∧ FR w2 v (((l.getD i 0 : Int) : Rat) - r) ∧ Steps w' w2 := fun i hi w' u v h1 h2 => fSubQ w' h1 h2 (sz_val (hv _ (getD_mem hi))) zr (by omega)
 have AD : ∀ i, i < l.length → ∀ w' u v, FR w' u (awayQ r (l.take i)) → FR w' v (absQ (((l.getD i 0 : Int) : Rat) - r)) → Calls Tryz.prog 62 #[u, v] w' fun e w2 => ∃ v, e = .returned (.tuple #[v, .int .i64 0]) ∧ FR w2 v (awayQ r (l.take (i + 1))) ∧ Steps w' w2 := fun i hi w' u v h1 h2 => by
  have := fAddQ w' h1 h2 (zs i) (zd _ (getD_mem hi)).abs (by omega)
  rw [← away_step hi] at this
  exact this
 have eN : awayQ r (l.take l.length) = awayQ r l := by rw [List.take_length]
 rw [← eN]
 have HX : Hid (∀ i, l.getD i 0 = l.getD i 0) := Hid.mk_ (fun _ => rfl)
 obtain ⟨fX, hX⟩ : ∃ f : Nat → Int, ∀ i, l.getD i 0 = f i := ⟨_, fun _ => rfl⟩
 obtain ⟨fS, hS⟩ : ∃ f : Nat → Rat, ∀ i, awayQ r (l.take i) = f i := ⟨_, fun _ => rfl⟩
 obtain ⟨fQ, hQ⟩ : ∃ f : Nat → Rat, ∀ i, ((l.getD i 0 : Int) : Rat) - r = f i := ⟨_, fun _ => rfl⟩
 obtain ⟨fR, hR⟩ : ∃ f : Nat → Rat, ∀ i, ((l.getD i 0 : Int) : Rat) = f i := ⟨_, fun _ => rfl⟩
 simp only [hQ, hS] at W0 SB AD ⊢
 simp only [hR] at WX SB
 simp only [hX] at WX
 replace HX := Hid.mk_ hX
 obtain ⟨m1, m2, m3, m4, m5, m6, m7, m8, rfl⟩ := hx.shape
 have Fm := Hid.mk_ hx
 obtain ⟨la, lc, rfl⟩ := hl.shape
 have HL := Hid.mk_ hl
 obtain ⟨N, hN⟩ : ∃ n, l.length = n := ⟨_, rfl⟩
 have HN := Hid.mk_ hN
 rw [hN] at WX SB AD HL hn ⊢
 clear hl hv hx zr zd zs e0 eN hX hS hQ hR hN
 go_enter Tryz.func33, Tryz.ntmps33
 have kk := Keeps.refl w
 go_wp2_with fail
 refine (W0 _).mono ?_
 rintro e w1 ⟨vz, rfl, hvz, hb1⟩
 have st : Steps _ w1 := hb1
 have B : Below w.heap.size w w1 := belowA st
 have kp : Keeps w w1 := Keeps.then_ keepsB st
 replace kk := kk.trans kp
 have om : Blk w1 (w.heap.size) 27 #[.bool m1, .slice m2 m3 m4, .bool m5, .slice m6 m7 m8] := Blk.stepsK st
 have or : Blk w1 (w.heap.size + 1) 27 #[.bool false, .slice none 0 0, .bool false, .slice none 0 0] := Blk.stepsK st
 replace Fm := Hid.mk_ (Fm.out.keeps kp)
 clear kp
 clear st
 obtain ⟨z1, z2, z3, z4, z5, z6, z7, z8, rfl⟩ := hvz.shape
 have Fz := Hid.mk_ hvz
 clear hvz
 have zr_1 : w.heap.size + 1 < w1.heap.size := or.lt
 have zz1 := B.size
 go_wp2_with fail
 go_loopw [8, 7] (fun sl0 sl1 wr => ∃ (i : Nat) (y1 : Bool) (y2 : Option Addr) (y3 y4 : Nat) (y5 : Bool) (y6 : Option Addr) (y7 y8 : Nat), i ≤ N ∧ sl0 = .int .i64 i ∧ sl1 = .bool true ∧ Blk wr (w1.heap.size) 27 #[.bool y1, .slice y2 y3 y4, .bool y5, .slice y6 y7 y8] ∧ FR wr (.agg #[.bool y1, .slice y2 y3 y4, .bool y5, .slice y6 y7 y8]) (fS i) ∧ Blk wr (w.heap.size) 27 #[.bool m1, .slice m2 m3 m4, .bool m5, .slice m6 m7 m8] ∧ Blk wr (w.heap.size + 1) 27 #[.bool false, .slice none 0 0, .bool false, .slice none 0 0] ∧ Below w.heap.size w wr ∧ Keeps w1 wr) (fun sl0 sl1 _ => N - (intOf sl0).toNat)
 case atStart => exact ⟨0, _, _, _, _, _, _, _, _, by omega, rfl, rfl, ownK, Fz.out.keeps keepsB, ownK, ownK, belowB, keepsB⟩
 case round =>
  clear om or
  try clear B
  try clear kk
  clear Fz
  obtain ⟨i, y1, y2, y3, y4, y5, y6, y7, y8, hi, rfl, rfl, os, fy, om, or, B, kk⟩ := hrel
  replace Fm := Hid.mk_ (Fm.out.keeps kk)
  have Fy := Hid.mk_ fy
  clear fy
  obtain ⟨cm0, cm1, cm2, cm3⟩ := om.r3
  have lm := om.lt
  obtain ⟨cr0, cr1, cr2, cr3, fr, lr⟩ := or.s3
  obtain ⟨cs0, cs1, cs2, cs3⟩ := os.r3
  have ls := os.lt
  rcases Nat.lt_or_ge i N with i4 | i4
  ·
   have hlt : decide ((i : Int) < (N : Int)) = true := decide_eq_true (by omega)
   obtain ⟨b, of, rfl, hbl, hx0⟩ := HL.out.at' (t := i) (by have := HN.out; omega)
   rw [HX.out] at hx0
   have wxi := WX i i4
   have sbi := SB i i4
   have adi := AD i i4
   go_wp2_with fail
   have zs_1 : w1.heap.size < wr.heap.size := os.lt
   have zz1 := B.size
   go_upto_region 5 with fail
   refine Reg.wp_chain_n (fun N0 D v W => Below w.heap.size w W ∧ Keeps wr W ∧ N0 ≤ W.heap.size ∧ Blk W (w.heap.size) 27 #[.bool m1, .slice m2 m3 m4, .bool m5, .slice m6 m7 m8] ∧ Blk W (w.heap.size + 1) 27 #[.bool false, .slice none 0 0, .bool false, .slice none 0 0] ∧ Blk W (w1.heap.size) 27 #[.bool y1, .slice y2 y3 y4, .bool y5, .slice y6 y7 y8] ∧ (D 10 = true → ∃ g : Nat, v 10 = .pointer (some ⟨g, 0, none⟩) ∧ N0 ≤ g ∧ g < W.heap.size ∧ (D 11 = false → Blk W g 27 #[.bool false, .slice none 0 0, .bool false, .slice none 0 0]) ∧ (D 11 = true → D 6 = true ∧ ∃ cs, v 6 = .tuple #[.agg cs, .int .i64 0] ∧ Blk W g 27 cs)))
    (Reg.inl [4, 6, 10, 11]) (Reg.gv [(4, IsFr), (6, IsFrE 0), (10, IsPtr)]) (gw [(4, GFr ((fR i))), (6, GFrE ((fQ i)) 0)]) (fun _ => Keeps) (fun _ _ => False) (Reg.pl [(6, [(4, some 25)]), (11, [(6, some 27), (10, some 9)]), (13, [(4, some 25), (6, some 27), (10, some 9)])]) (Reg.pl [(10, [11]), (6, [11])])
    (by kernel_rfl) (by kernel_rfl) (by kernel_rfl) (Reg.gvA _) (fun N0 hN0 => ⟨fun v => ?_, fun D v v' W hv hj => ?_, fun D v k j W W' x _ _ _ _ hk hg => gwA hk hg, fun _ _ _ _ h => h.elim, fun ops' Q' hops hQ => ?_⟩)
   · exact ⟨belowB, keepsB, by first | with_reducible exact Nat.le_of_eq hN0.out | (simp only [World.size_drew]; with_reducible exact Nat.le_of_eq hN0.out), ownK, ownK, ownK, (fun h => Bool.noConfusion h)⟩
   ·
    obtain ⟨j0, jk, jn, b_m, b_r, b_s, a_10⟩ := hj
    exact ⟨j0, jk, jn, b_m, b_r, b_s, fun h => by obtain ⟨g, e1, e2, e3, e4, e5⟩ := a_10 h; exact ⟨g, (hv 10 h) ▸ e1, e2, e3, e4, fun h => by obtain ⟨d, cs, e, hb⟩ := e5 h; exact ⟨d, cs, (hv 6 d) ▸ e, hb⟩⟩⟩
   have eN := hN0.out
   try simp only [World.size_alloc, World.size_setCell, World.size_drew, World.heap_drewN] at eN
   have i_m : w.heap.size < N0 := by first | omega | (have h := om.lt; omega)
   have i_r : w.heap.size + 1 < N0 := by first | omega | (have h := or.lt; omega)
   have i_s : w1.heap.size < N0 := by first | omega | (have h := os.lt; omega)
   have iw : w.heap.size ≤ N0 := by first | omega | (have h := B.size; omega)
   clear cm0 cm1 cm2 cm3 lm cr0 cr1 cr2 cr3 fr lr cs0 cs1 cs2 cs3 ls
   clear hN0
   refine Reg.RP0 21 ?_
   refine Reg.RP0 22 ?_
   refine Reg.RP0 23 ?_
   apply Reg.RP rfl rfl rfl 24 rfl rfl
   ·
    intro D v' W' hc hj hf K hK
    obtain ⟨j0, jk, jn, b_m, b_r, b_s, a_10⟩ := hj
    have x0_ : W'.cell? ⟨b, of + i, none⟩ = some (.int .i64 (fX i)) := (j0.cell (p := ⟨b, _, none⟩) hbl).trans hx0
    go_step
    exact hK.out
   · rfl
   refine Reg.RC_call rfl (tlt rfl) rfl (fun D v' W' hc hj hf K hK => ?_) ?_
   ·
    obtain ⟨j0, jk, jn, b_m, b_r, b_s, a_10⟩ := hj
    clear hf
    go_step
    refine (wxi W').mono ?_
    rintro e W2 ⟨u, rfl, hu, hs⟩
    obtain ⟨e1, e2, e3, e4, e5, e6, e7, e8, rfl⟩ := hu.shape
    exact hK.out _ W2 (Keeps.steps hs) ⟨jst j0 hs, jk.then_ hs, jsz jn hs, b_m.steps hs, b_r.steps hs, b_s.steps hs, fun h => by obtain ⟨g, e1, e2, e3, e4, e5⟩ := a_10 h; exact ⟨g, e1, e2, Nat.lt_of_lt_of_le e3 (hs).size, fun h => (e4 h).steps hs, fun h => by obtain ⟨d, cs, e, hb⟩ := e5 h; exact ⟨d, cs, e, hb.steps hs⟩⟩⟩ hu ⟨_, _, _, _, _, _, _, _, rfl⟩
   rintro _ ⟨e1, e2, e3, e4, e5, e6, e7, e8, rfl⟩
   refine Reg.at56 rfl ?_
   apply Reg.RP rfl rfl rfl 26 rfl rfl
   ·
    intro D v' W' hc hj hf K hK
    obtain ⟨j0, jk, jn, b_m, b_r, b_s, a_10⟩ := hj
    obtain ⟨c0, c1, c2, c3⟩ := b_m.r3
    go_step
    exact hK.out
   · rfl
   refine Reg.RC_call rfl (tlt rfl) rfl (fun D v' W' hc hj hf K hK => ?_) ?_
   ·
    obtain ⟨j0, jk, jn, b_m, b_r, b_s, a_10⟩ := hj
    have g4 : GFr ((fR i)) _ W' := (hf (4, some 25) (.head _) rfl).2.2
    have g4 : FR W' _ ((fR i)) := g4
    clear hf
    go_step
    refine (sbi W' _ _ g4 (Fm.out.keeps jk)).mono ?_
    rintro e W2 ⟨u, rfl, hu, hs⟩
    obtain ⟨d1, d2, d3, d4, d5, d6, d7, d8, rfl⟩ := hu.shape
    exact hK.out _ W2 (Keeps.steps hs) ⟨jst j0 hs, jk.then_ hs, jsz jn hs, b_m.steps hs, b_r.steps hs, b_s.steps hs, fun h => by obtain ⟨g, e1, e2, e3, e4, e5⟩ := a_10 h; exact ⟨g, e1, e2, Nat.lt_of_lt_of_le e3 (hs).size, fun h => (e4 h).steps hs, fun h => Bool.noConfusion ((hc.2 11 (by decide)).symm.trans h)⟩⟩ ⟨_, rfl, hu⟩ ⟨_, _, _, _, _, _, _, _, rfl⟩
   rintro _ ⟨d1, d2, d3, d4, d5, d6, d7, d8, rfl⟩
   refine Reg.at56 rfl ?_
   refine Reg.RP0 20 ?_
   refine Reg.RP0 28 ?_
   refine Reg.RP0 29 ?_
   refine Reg.RC_call rfl (tlt rfl) rfl (fun D v' W' hc hj hf K hK => ?_) ?_
   ·
    obtain ⟨j0, jk, jn, b_m, b_r, b_s, a_10⟩ := hj
    go_step
    have hs : ∀ o : Obj, Steps W' (W'.alloc o) := fun o => (Below.refl _ _).alloc (Nat.le_refl _) o
    exact hK.out _ _ (Keeps.steps (hs _)) ⟨jst j0 (hs _), jk.then_ (hs _), jsz jn (hs _), b_m.steps (hs _), b_r.steps (hs _), b_s.steps (hs _), fun _ => ⟨W'.heap.size, rfl, jn, by rw [World.size_alloc]; omega, fun _ => Blk.new _ _ _, fun h => Bool.noConfusion ((hc.2 11 (by decide)).symm.trans h)⟩⟩ trivial ⟨_, rfl⟩
   rintro _ ⟨p9, rfl⟩
   refine Reg.at56 rfl ?_
   refine Reg.RC_call rfl (by intro t ht; cases ht) rfl (fun D v' W' hc hj hf K hK => ?_) (fun _ _ => Reg.RC_at (b := ⟨_, _⟩) rfl ?_)
   ·
    obtain ⟨j0, jk, jn, b_m, b_r, b_s, a_10⟩ := hj
    have f := hf (10, some 9) (.tail _ (.head _)) rfl
    have e6 : v' 10 = .pointer (some ⟨p9, 0, none⟩) := f.2.1
    obtain ⟨g, e1, e2, e3, e4, e5⟩ := a_10 f.1
    obtain rfl : p9 = g := Reg.ptr_eq (e6.symm.trans e1)
    have hb := e4 hc.1
    clear e4 e5
    have fc := hf (6, some 27) (.head _) rfl
    have ec : v' 6 = .tuple #[.agg #[.bool d1, .slice d2 d3 d4, .bool d5, .slice d6 d7 d8], .int .i64 0] := fc.2.1
    have ff := hb.fr
    obtain ⟨cc0, cc1, cc2, cc3⟩ := hb.r3
    go_step
    exact hK.out undef _ (keeps4 hb rfl) ⟨(below4 j0 (by show w.heap.size ≤ p9; omega)), jk.trans (keeps4 hb rfl), by simpa using jn, (b_m).far4 (show w.heap.size ≠ p9 by omega), (b_r).far4 (show w.heap.size + 1 ≠ p9 by omega), (b_s).far4 (show w1.heap.size ≠ p9 by omega), fun _ => ⟨p9, e1, e2, by simpa using e3, fun h => Bool.noConfusion h, fun _ => ⟨fc.1, _, ec, (Blk.set2 (cs' := #[.bool d1, .slice d2 d3 d4, .bool d5, .slice d6 d7 d8]) (Blk.set2 (cs' := #[.bool d1, .slice d2 d3 d4, .bool d5, .slice none 0 0]) (Blk.set2 (cs' := #[.bool d1, .slice d2 d3 d4, .bool false, .slice none 0 0]) (Blk.set2 (cs' := #[.bool d1, .slice none 0 0, .bool false, .slice none 0 0]) hb (i := 0) rfl) (i := 1) rfl) (i := 2) rfl) (i := 3) rfl)⟩⟩⟩ trivial trivial
   refine Reg.RP0 10 ?_
   refine Reg.RC_end (fun Dn v' w2 hd hj hf => ?_)
   obtain ⟨j0, jk, jn, b_m, b_r, b_s, a_10⟩ := hj
   have B := j0
   have om := b_m
   clear b_m
   have or := b_r
   clear b_r
   have os := b_s
   clear b_s
   have f := hf (10, some 9) (.tail _ (.tail _ (.head _))) rfl
   have e6_ : v' 10 = .pointer (some ⟨p9, 0, none⟩) := f.2.1
   obtain ⟨g, e1_, zd, -, -, e5_⟩ := a_10 f.1
   obtain rfl : p9 = g := Reg.ptr_eq (e6_.symm.trans e1_)
   obtain ⟨-, cs_, ee, od⟩ := e5_ (hd 11 (Nat.le_of_ble_eq_true rfl))
   have ef : v' 6 = .tuple #[.agg #[.bool d1, .slice d2 d3 d4, .bool d5, .slice d6 d7 d8], .int .i64 0] := (hf (6, some 27) (.tail _ (.head _)) rfl).2.1
   obtain rfl : #[.bool d1, .slice d2 d3 d4, .bool d5, .slice d6 d7 d8] = cs_ := by have := ef.symm.trans ee; simpa only [Value.tuple.injEq, Value.agg.injEq, Array.mk.injEq, List.cons.injEq, and_true, true_and] using this
   clear ee ef f e5_ e1_ e6_
   have Fd := Hid.mk_ (GFrE.get (r := (fQ i)) (e := 0) (v := .agg #[.bool d1, .slice d2 d3 d4, .bool d5, .slice d6 d7 d8]) (hf (6, some 27) (.tail _ (.head _)) rfl).2.2)
   replace Fm := Hid.mk_ (Fm.out.keeps jk)
   replace Fy := Hid.mk_ (Fy.out.keeps jk)
   replace kk := kk.trans jk
   clear hd hf jk j0
   refine hQ _ _ ?_
   clear hQ hops Q' ops'
   have hd1 := Fd.out.sgn
   by_cases hq : fQ i < 0
   ·
    rw [decide_eq_true hq] at hd1
    subst hd1
    rw [absQ_neg' hq] at adi
    clear hq
    obtain ⟨cd0, cd1, cd2, cd3⟩ := od.r3
    have ld := od.lt
    go_wp2_with fail
    refine (fNegQ _ (Fd.out.keeps keepsB)).mono ?_
    rintro e w3 ⟨vn, rfl, hvn, hb3⟩
    have st : Steps _ w3 := hb3
    have sk : Below w2.heap.size w2 w3 := belowA st
    replace B := below_steps B (Nat.le_refl _) sk
    replace om := om.steps sk
    replace or := or.steps sk
    replace os := os.steps sk
    replace od := od.steps sk
    replace Fm := Hid.mk_ (Fm.out.steps sk)
    replace Fy := Hid.mk_ (Fy.out.steps sk)
    replace Fd := Hid.mk_ (Fd.out.steps sk)
    replace kk := kk.then_ sk
    clear st sk cd0 cd1 cd2 cd3 ld
    obtain ⟨cs0, cs1, cs2, cs3⟩ := os.r3
    have ls := os.lt
    obtain ⟨cd0, cd1, cd2, cd3, fd, ld⟩ := od.s3
    obtain ⟨n1, n2, n3, n4, n5, n6, n7, n8, rfl⟩ := hvn.shape
    have Fn := Hid.mk_ hvn
    clear hvn
    go_wp2_with fail
    refine (adi _ _ _ (Fy.out.keeps keepsB) (Fn.out.keeps keepsB)).mono ?_
    rintro e w4 ⟨vu, rfl, hvu, hb4⟩
    have st : Steps _ w4 := hb4
    have Bn : Below w.heap.size w w4 := belowA st
    have kp : Keeps w3 w4 := Keeps.then_ keepsB st
    replace kk := kk.trans kp
    replace om : Blk w4 (w.heap.size) 27 #[.bool m1, .slice m2 m3 m4, .bool m5, .slice m6 m7 m8] := Blk.stepsK st
    replace or : Blk w4 (w.heap.size + 1) 27 #[.bool false, .slice none 0 0, .bool false, .slice none 0 0] := Blk.stepsK st
    replace os : Blk w4 (w1.heap.size) 27 #[.bool y1, .slice y2 y3 y4, .bool y5, .slice y6 y7 y8] := Blk.stepsK st
    replace od : Blk w4 (p9) 27 #[.bool n1, .slice n2 n3 n4, .bool n5, .slice n6 n7 n8] := Blk.stepsK st
    clear cs0 cs1 cs2 cs3 ls cd0 cd1 cd2 cd3 fd ld
    replace B := Bn
    replace Fm := Hid.mk_ (Fm.out.keeps kp)
    replace Fy := Hid.mk_ (Fy.out.keeps kp)
    replace Fd := Hid.mk_ (Fd.out.keeps kp)
    replace Fn := Hid.mk_ (Fn.out.keeps kp)
    clear kp
    clear st
    obtain ⟨cs0, cs1, cs2, cs3, fs, ls⟩ := os.s3
    obtain ⟨u1, u2, u3, u4, u5, u6, u7, u8, rfl⟩ := hvu.shape
    have Fu := Hid.mk_ hvu
    clear hvu
    have zd_4 : p9 < w4.heap.size := od.lt
    have zz4 := B.size
    go_wp2_with fail
    go_roundw
    case rel => exact ⟨i + 1, _, _, _, _, _, _, _, _, by omega, by go_num, rfl, ownK, Fu.out.keeps keepsB, ownK, ownK, belowB, kk.trans keepsB⟩
    case measure => simp [intOf]; omega
   ·
    rw [decide_eq_false hq] at hd1
    subst hd1
    rw [absQ_pos' hq] at adi
    clear hq
    obtain ⟨cs0, cs1, cs2, cs3⟩ := os.r3
    have ls := os.lt
    obtain ⟨cd0, cd1, cd2, cd3⟩ := od.r3
    have ld := od.lt
    go_wp2_with fail
    refine (adi _ _ _ (Fy.out.keeps keepsB) (Fd.out.keeps keepsB)).mono ?_
    rintro e w3 ⟨vu, rfl, hvu, hb3⟩
    have st : Steps _ w3 := hb3
    have sk : Below w2.heap.size w2 w3 := belowA st
    replace B := below_steps B (Nat.le_refl _) sk
    replace om := om.steps sk
    replace or := or.steps sk
    replace os := os.steps sk
    replace od := od.steps sk
    replace Fm := Hid.mk_ (Fm.out.steps sk)
    replace Fy := Hid.mk_ (Fy.out.steps sk)
    replace Fd := Hid.mk_ (Fd.out.steps sk)
    replace kk := kk.then_ sk
    clear st sk cs0 cs1 cs2 cs3 ls cd0 cd1 cd2 cd3 ld
    obtain ⟨cs0, cs1, cs2, cs3, fs, ls⟩ := os.s3
    obtain ⟨u1, u2, u3, u4, u5, u6, u7, u8, rfl⟩ := hvu.shape
    have Fu := Hid.mk_ hvu
    clear hvu
    have zd_3 : p9 < w3.heap.size := od.lt
    have zz3 := B.size
    go_wp2_with fail
    go_roundw
    case rel => exact ⟨i + 1, _, _, _, _, _, _, _, _, by omega, by go_num, rfl, ownK, Fu.out.keeps keepsB, ownK, ownK, belowB, kk.trans keepsB⟩
    case measure => simp [intOf]; omega
  ·
   obtain rfl : i = N := by omega
   have hlt : decide ((i : Int) < (i : Int)) = false := decide_eq_false (by omega)
   go_wp2_with fail
   refine bodyPost_ret (by simp [results, Tryz.results33, go_sem, cm0, cm1, cm2, cm3, lm, cr0, cr1, cr2, cr3, fr, lr, cs0, cs1, cs2, cs3, ls]; rfl) rfl ?_
   exact ⟨_, rfl, Fy.out.keeps keepsB, belowB⟩
theorem least_bad0 {vl : Value} {l : List Int} (num den : Int) (w : World) (hl : IntsR w vl l) (h : ¬ l.length ≤ 24) :
  Calls Tryz.prog 8 #[vl, .int .i64 num, .int .i64 den] w fun e w' => e = .returned (.bool true) ∧ Steps w w' := by
 obtain ⟨la, lc, rfl⟩ := hl.shape
 obtain ⟨N, hN⟩ : ∃ n, l.length = n := ⟨_, rfl⟩
 rw [hN] at h ⊢
 have d0 : (24 : Int) < (N : Int) := by omega
 clear hl hN
 go_enter Tryz.func8, Tryz.ntmps8
 go_wp2_with fail
 refine (lalive07 _).mono ?_
 rintro e w1 ⟨rfl, hs1⟩
 have B1 : Below w.heap.size w w1 := hs1
 clear hs1
 dsimp only
 go_wp2_with fail
 go_returns
 exact ⟨rfl, belowB⟩
theorem least_bad1 {vl : Value} {l : List Int} (num den : Int) (w : World) (hl : IntsR w vl l) (h : l.length ≤ 24) (c : Int) (ha : askV l = c) (hc : c ≠ 0) :
  Calls Tryz.prog 8 #[vl, .int .i64 num, .int .i64 den] w fun e w' => e = .returned (.bool true) ∧ Steps w w' := by
 have AS : ∀ w', Steps w w' → Calls Tryz.prog 21 #[vl] w' fun e w2 => e = .returned (.int .i64 c) ∧ Steps w' w2 := fun w' s => by rw [← ha]; exact pvasked w' (hl.steps s) (by omega)
 obtain ⟨la, lc, rfl⟩ := hl.shape
 obtain ⟨N, hN⟩ : ∃ n, l.length = n := ⟨_, rfl⟩
 rw [hN] at h AS ⊢
 have d0 : ¬ (24 : Int) < (N : Int) := by omega
 have dc : (c != 0) = true := by simpa using hc
 clear hl hN ha hc
 go_enter Tryz.func8, Tryz.ntmps8
 go_wp2_with fail
 refine (lalive07 _).mono ?_
 rintro e w1 ⟨rfl, hs1⟩
 have B1 : Below w.heap.size w w1 := hs1
 clear hs1
 dsimp only
 go_wp2_with fail
 refine (AS _ B1).mono ?_
 rintro e w2 ⟨rfl, hs2⟩
 have B2 : Below w.heap.size w w2 := below_steps B1 (Nat.le_refl _) hs2
 clear hs2 B1 AS
 dsimp only
 go_wp2_with fail
 go_returns
 exact ⟨rfl, belowB⟩
theorem least_bad2 {vl : Value} {l : List Int} (num den : Int) (w : World) (hl : IntsR w vl l) (h : l.length ≤ 24) (ha : askV l = 0) (b0 : den < 1) :
  Calls Tryz.prog 8 #[vl, .int .i64 num, .int .i64 den] w fun e w' => e = .returned (.bool true) ∧ Steps w w' := by
 have AS : ∀ w', Steps w w' → Calls Tryz.prog 21 #[vl] w' fun e w2 => e = .returned (.int .i64 0) ∧ Steps w' w2 := fun w' s => by have := pvasked w' (hl.steps s) (by omega); rw [ha] at this; exact this
 obtain ⟨la, lc, rfl⟩ := hl.shape
 obtain ⟨N, hN⟩ : ∃ n, l.length = n := ⟨_, rfl⟩
 rw [hN] at h AS ⊢
 have d0 : ¬ (24 : Int) < (N : Int) := by omega
 clear hl hN ha
 go_enter Tryz.func8, Tryz.ntmps8
 go_wp2_with fail
 refine (lalive07 _).mono ?_
 rintro e w1 ⟨rfl, hs1⟩
 have B1 : Below w.heap.size w w1 := hs1
 clear hs1
 dsimp only
 go_wp2_with fail
 refine (AS _ B1).mono ?_
 rintro e w2 ⟨rfl, hs2⟩
 have B2 : Below w.heap.size w w2 := below_steps B1 (Nat.le_refl _) hs2
 clear hs2 B1 AS
 dsimp only
 go_wp2_with fail
 go_returns
 exact ⟨rfl, belowB⟩
theorem least_bad3 {vl : Value} {l : List Int} (num den : Int) (w : World) (hl : IntsR w vl l) (h : l.length ≤ 24) (ha : askV l = 0) (b0 : ¬ den < 1) (b1 : 4294967296 < den) :
  Calls Tryz.prog 8 #[vl, .int .i64 num, .int .i64 den] w fun e w' => e = .returned (.bool true) ∧ Steps w w' := by
 have AS : ∀ w', Steps w w' → Calls Tryz.prog 21 #[vl] w' fun e w2 => e = .returned (.int .i64 0) ∧ Steps w' w2 := fun w' s => by have := pvasked w' (hl.steps s) (by omega); rw [ha] at this; exact this
 obtain ⟨la, lc, rfl⟩ := hl.shape
 obtain ⟨N, hN⟩ : ∃ n, l.length = n := ⟨_, rfl⟩
 rw [hN] at h AS ⊢
 have d0 : ¬ (24 : Int) < (N : Int) := by omega
 clear hl hN ha
 go_enter Tryz.func8, Tryz.ntmps8
 go_wp2_with fail
 refine (lalive07 _).mono ?_
 rintro e w1 ⟨rfl, hs1⟩
 have B1 : Below w.heap.size w w1 := hs1
 clear hs1
 dsimp only
 go_wp2_with fail
 refine (AS _ B1).mono ?_
 rintro e w2 ⟨rfl, hs2⟩
 have B2 : Below w.heap.size w w2 := below_steps B1 (Nat.le_refl _) hs2
 clear hs2 B1 AS
 dsimp only
 go_wp2_with fail
 go_returns
 exact ⟨rfl, belowB⟩
theorem least_bad4 {vl : Value} {l : List Int} (num den : Int) (w : World) (hl : IntsR w vl l) (h : l.length ≤ 24) (ha : askV l = 0) (b0 : ¬ den < 1) (b1 : ¬ 4294967296 < den) (b2 : num < -1125899906842624) :
  Calls Tryz.prog 8 #[vl, .int .i64 num, .int .i64 den] w fun e w' => e = .returned (.bool true) ∧ Steps w w' := by
 have AS : ∀ w', Steps w w' → Calls Tryz.prog 21 #[vl] w' fun e w2 => e = .returned (.int .i64 0) ∧ Steps w' w2 := fun w' s => by have := pvasked w' (hl.steps s) (by omega); rw [ha] at this; exact this
 obtain ⟨la, lc, rfl⟩ := hl.shape
 obtain ⟨N, hN⟩ : ∃ n, l.length = n := ⟨_, rfl⟩
 rw [hN] at h AS ⊢
 have d0 : ¬ (24 : Int) < (N : Int) := by omega
 clear hl hN ha
 go_enter Tryz.func8, Tryz.ntmps8
 go_wp2_with fail
 refine (lalive07 _).mono ?_
 rintro e w1 ⟨rfl, hs1⟩
 have B1 : Below w.heap.size w w1 := hs1
 clear hs1
 dsimp only
 go_wp2_with fail
 refine (AS _ B1).mono ?_
 rintro e w2 ⟨rfl, hs2⟩
 have B2 : Below w.heap.size w w2 := below_steps B1 (Nat.le_refl _) hs2
 clear hs2 B1 AS
 dsimp only
 go_wp2_with fail
 go_returns
 exact ⟨rfl, belowB⟩
theorem least_bad5 {vl : Value} {l : List Int} (num den : Int) (w : World) (hl : IntsR w vl l) (h : l.length ≤ 24) (ha : askV l = 0) (b0 : ¬ den < 1) (b1 : ¬ 4294967296 < den) (b2 : ¬ num < -1125899906842624) (b3 : 1125899906842624 < num) :
  Calls Tryz.prog 8 #[vl, .int .i64 num, .int .i64 den] w fun e w' => e = .returned (.bool true) ∧ Steps w w' := by
 have AS : ∀ w', Steps w w' → Calls Tryz.prog 21 #[vl] w' fun e w2 => e = .returned (.int .i64 0) ∧ Steps w' w2 := fun w' s => by have := pvasked w' (hl.steps s) (by omega); rw [ha] at this; exact this
 obtain ⟨la, lc, rfl⟩ := hl.shape
 obtain ⟨N, hN⟩ : ∃ n, l.length = n := ⟨_, rfl⟩
 rw [hN] at h AS ⊢
 have d0 : ¬ (24 : Int) < (N : Int) := by omega
 clear hl hN ha
 go_enter Tryz.func8, Tryz.ntmps8
 go_wp2_with fail
 refine (lalive07 _).mono ?_
 rintro e w1 ⟨rfl, hs1⟩
 have B1 : Below w.heap.size w w1 := hs1
 clear hs1
 dsimp only
 go_wp2_with fail
 refine (AS _ B1).mono ?_
 rintro e w2 ⟨rfl, hs2⟩
 have B2 : Below w.heap.size w w2 := below_steps B1 (Nat.le_refl _) hs2
 clear hs2 B1 AS
 dsimp only
 go_wp2_with fail
 go_returns
 exact ⟨rfl, belowB⟩
def IsFrB (x : Value) : Prop := ∃ a s n c b t m d, x = .tuple #[.agg #[.bool a, .slice s n c, .bool b, .slice t m d], .bool true]
def GFrB (r : Rat) (x : Value) (W : World) : Prop := ∃ v, x = .tuple #[v, .bool true] ∧ FR W v r
theorem GFrB.keeps {r : Rat} (x : Value) (W W' : World) (k : Keeps W W') (h : GFrB r x W) : GFrB r x W' := by obtain ⟨v, h1, h2⟩ := h; exact ⟨v, h1, h2.keeps k⟩
theorem GFrB.get {r : Rat} {v : Value} {W : World} (h : GFrB r (.tuple #[v, .bool true]) W) : FR W v r := by
 obtain ⟨u, e, h⟩ := h
 simp only [Value.tuple.injEq, Array.mk.injEq, List.cons.injEq, and_true] at e
 rw [e]; exact h
theorem ints_one {w : World} {b o c : Nat} {x : Int} (hc : 1 ≤ c) (hb : b < w.heap.size) (h : w.cell? ⟨b, o, none⟩ = some (.int .i64 x)) : IntsR w (.slice (some ⟨b, o, none⟩) 1 c) [x] :=
 ⟨_, _, rfl, hc, fun _ => ⟨b, o, rfl, hb, fun t ht => by
  obtain rfl : t = 0 := by simpa using ht
  exact h⟩⟩
theorem IntsR.cap_ {w : World} {ao : Option Addr} {n cap : Nat} {l : List Int} (h : IntsR w (.slice ao n cap) l) : l.length ≤ cap := by
 obtain ⟨ao', cap', e, h1, _⟩ := h
 injection e with e1 e2 e3
 rw [e3]; exact h1
theorem away_one (y : Rat) (x : Int) : awayQ y [x] = absQ ((x : Rat) - y) := by simp only [awayQ]; grind
theorem away_sz {y : Rat} {l : List Int} (hv : ∀ x ∈ l, -4294967296 ≤ x ∧ x ≤ 4294967296) (hn : l.length ≤ 24) (zr : sz y 2) : sz (awayQ y l) 145 := by
 have zd : ∀ x ∈ l, sz ((x : Rat) - y) 5 := fun x hx => sz.mono ((sz_val (hv x hx)).sub zr) (show 2 + 2 + 1 ≤ 5 by omega)
 exact sz.mono (sz_away (k := 5) l (fun x hx => (zd x hx).abs)) (by
  have := Nat.mul_le_mul_left 6 hn
  omega)
theorem dvnQ_sz {l : List Int} (hv : valL l) (hn : l.length ≤ 24) (h0 : l ≠ []) : sz (dvnQ l) 2 := by
 unfold dvnQ
 have mr := tw_val h0 hv
 have am := awI_mid hv hn mr
 have a0 : awI (twI l) l ≠ [] := fun e => h0 (List.eq_nil_of_length_eq_zero (by have := congrArg List.length e; rwa [awI_len] at this))
 have := tw_range a0 am
 exact sz_frac (by decide) (by unfold absN; rw [bp2_]; omega) (by rw [bp2_]; decide)
theorem count_step {p : Int → Bool} {l : List Int} {i : Nat} (h : i < l.length) : (l.take (i + 1)).countP p = (l.take i).countP p + if p (l.getD i 0) = true then 1 else 0 := by
 rw [take_step h, List.countP_append]
 simp [List.countP_cons]
theorem least_ok {vl : Value} {l : List Int} (num den : Int) (w : World) (hl : IntsR w vl l) (h : l.length ≤ 24) (ha : askV l = 0) (b0 : ¬ den < 1) (b1 : ¬ 4294967296 < den) (b2 : ¬ num < -1125899906842624) (b3 : ¬ 1125899906842624 < num) :
  Calls Tryz.prog 8 #[vl, .int .i64 num, .int .i64 den] w fun e w' => e = .returned (.bool true) ∧ Steps w w' := by
 obtain ⟨hv, h0⟩ := askV_val ha
 have hl24 := h
 have AS : ∀ w', Steps w w' → Calls Tryz.prog 21 #[vl] w' fun e w2 => e = .returned (.int .i64 0) ∧ Steps w' w2 := fun w' s => by have := pvasked w' (hl.steps s) (by omega); rw [ha] at this; exact this
 have NA : ∀ w' v, IntsR w' v l → Calls Tryz.prog 25 #[v] w' fun e w2 => ∃ u, e = .returned (.tuple #[u, .int .i64 0]) ∧ FR w2 u (medQ l) ∧ Steps w' w2 := fun w' v h => by
  have := vMedian w' h (by omega) (fun _ => hl24)
  rw [ha] at this
  exact this
 have DA : ∀ w' v, IntsR w' v l → Calls Tryz.prog 30 #[v] w' fun e w2 => ∃ u, e = .returned (.tuple #[u, .int .i64 0]) ∧ FR w2 u (dvnQ l) ∧ Steps w' w2 := fun w' v h => by
  have := vDeviation w' h (by omega) (fun _ => hl24)
  rw [ha] at this
  exact this
 have zm := medQ_sz hv h0
 have zv := dvnQ_sz hv hl24 h0
 have zq : sz ((num : Rat) / (den : Rat)) 2 := sz_frac (by omega) (by unfold absN; rw [bp2_]; omega) (by unfold absN; rw [bp2_]; omega)
 have OF := fun w' => lof07 num den w' (by omega) (by omega) (by omega) (by omega) (by omega)
 have AA : ∀ w' v u, IntsR w' v l → FR w' u (medQ l) → Calls Tryz.prog 33 #[v, u] w' fun e w2 => ∃ v, e = .returned (.tuple #[v, .bool true]) ∧ FR w2 v (awayQ (medQ l) l) ∧ Steps w' w2 := fun w' v u h1 h2 => laway w' h1 hv.2 hl24 h2 zm
 have AB : ∀ w' v u, IntsR w' v l → FR w' u ((num : Rat) / (den : Rat)) → Calls Tryz.prog 33 #[v, u] w' fun e w2 => ∃ v, e = .returned (.tuple #[v, .bool true]) ∧ FR w2 v (awayQ ((num : Rat) / (den : Rat)) l) ∧ Steps w' w2 := fun w' v u h1 h2 => laway w' h1 hv.2 hl24 h2 zq
 have CM : ∀ w' u v, FR w' u (awayQ (medQ l) l) → FR w' v (awayQ ((num : Rat) / (den : Rat)) l) → Calls Tryz.prog 34 #[u, v] w' fun e w2 => e = .returned (.tuple #[.int .i64 (cmpQ (awayQ (medQ l) l) (awayQ ((num : Rat) / (den : Rat)) l)), .int .i64 0]) ∧ Steps w' w2 := fun w' u v h1 h2 => fCmpQ w' h1 h2 (away_sz hv.2 hl24 zm) (away_sz hv.2 hl24 zq) (by omega)
 have lec : cmpQ (awayQ (medQ l) l) (awayQ ((num : Rat) / (den : Rat)) l) ≤ 0 := cmpQ_le.2 (away_least h0 _)
 have AI : ∀ i, i < l.length → ∀ w' v u, IntsR w' v [l.getD i 0] → FR w' u (medQ l) → Calls Tryz.prog 33 #[v, u] w' fun e w2 => ∃ v, e = .returned (.tuple #[v, .bool true]) ∧ FR w2 v (absQ (((l.getD i 0 : Int) : Rat) - medQ l)) ∧ Steps w' w2 := fun i hi w' v u h1 h2 => by
  have hr := hv.2 _ (getD_mem hi)
  have := laway w' h1 (fun x hx => by rw [List.mem_singleton.1 hx]; exact hr) (by simp) h2 zm
  rw [away_one] at this
  exact this
 have CI : ∀ i, i < l.length → ∀ w' u v, FR w' u (absQ (((l.getD i 0 : Int) : Rat) - medQ l)) → FR w' v (dvnQ l) → Calls Tryz.prog 34 #[u, v] w' fun e w2 => e = .returned (.tuple #[.int .i64 (cmpQ (absQ (((l.getD i 0 : Int) : Rat) - medQ l)) (dvnQ l)), .int .i64 0]) ∧ Steps w' w2 := fun i hi w' u v h1 h2 => by
  have hr := hv.2 _ (getD_mem hi)
  have zd : sz (((l.getD i 0 : Int) : Rat) - medQ l) 5 := sz.mono ((sz_val hr).sub zm) (show 2 + 2 + 1 ≤ 5 by omega)
  exact fCmpQ w' h1 h2 zd.abs zv (by omega)
 have SL := fun i (hi : i < l.length) => count_step (p := fun x : Int => decide (absQ ((x : Rat) - medQ l) ≤ dvnQ l)) hi
 have SM := fun i (hi : i < l.length) => count_step (p := fun x : Int => decide (dvnQ l ≤ absQ ((x : Rat) - medQ l))) hi
 obtain ⟨EL, EM⟩ := count_dvn l
 have hL : ∀ i, (l.take i).countP (fun x : Int => decide (absQ ((x : Rat) - medQ l) ≤ dvnQ l)) ≤ i := fun i => Nat.le_trans (List.countP_le_length) (by rw [List.length_take]; omega)
 have hM : ∀ i, (l.take i).countP (fun x : Int => decide (dvnQ l ≤ absQ ((x : Rat) - medQ l))) ≤ i := fun i => Nat.le_trans (List.countP_le_length) (by rw [List.length_take]; omega)
 have eN : l.take l.length = l := List.take_length
 replace EL : l.length ≤ 2 * (l.take l.length).countP (fun x : Int => decide (absQ ((x : Rat) - medQ l) ≤ dvnQ l)) := by rw [eN]; exact EL
 replace EM : l.length ≤ 2 * (l.take l.length).countP (fun x : Int => decide (dvnQ l ≤ absQ ((x : Rat) - medQ l))) := by rw [eN]; exact EM
 have z0 : ∀ p : Int → Bool, (l.take 0).countP p = 0 := fun p => rfl
 have zL := z0 (fun x : Int => decide (absQ ((x : Rat) - medQ l) ≤ dvnQ l))
 have zM := z0 (fun x : Int => decide (dvnQ l ≤ absQ ((x : Rat) - medQ l)))
 have gL : ∀ i, (decide (absQ (((l.getD i 0 : Int) : Rat) - medQ l) ≤ dvnQ l)) = decide (cmpQ (absQ (((l.getD i 0 : Int) : Rat) - medQ l)) (dvnQ l) ≤ 0) := fun i => decide_eq_decide.2 cmpQ_le.symm
 have gM : ∀ i, (decide (dvnQ l ≤ absQ (((l.getD i 0 : Int) : Rat) - medQ l))) = decide (0 ≤ cmpQ (absQ (((l.getD i 0 : Int) : Rat) - medQ l)) (dvnQ l)) := fun i => decide_eq_decide.2 (by rw [← Rat.not_lt, ← cmpQ_lt]; omega)
 simp only [gL] at SL
 simp only [gM] at SM
 obtain ⟨cL, hcL⟩ : ∃ f : Nat → Nat, ∀ i, (l.take i).countP (fun x : Int => decide (absQ ((x : Rat) - medQ l) ≤ dvnQ l)) = f i := ⟨_, fun _ => rfl⟩
 obtain ⟨cM, hcM⟩ : ∃ f : Nat → Nat, ∀ i, (l.take i).countP (fun x : Int => decide (dvnQ l ≤ absQ ((x : Rat) - medQ l))) = f i := ⟨_, fun _ => rfl⟩
 obtain ⟨fC, hfC⟩ : ∃ f : Nat → Int, ∀ i, cmpQ (absQ (((l.getD i 0 : Int) : Rat) - medQ l)) (dvnQ l) = f i := ⟨_, fun _ => rfl⟩
 obtain ⟨fA, hfA⟩ : ∃ f : Nat → Rat, ∀ i, absQ (((l.getD i 0 : Int) : Rat) - medQ l) = f i := ⟨_, fun _ => rfl⟩
 rw [hcL] at EL zL
 rw [hcM] at EM zM
 simp only [hcL] at SL hL
 simp only [hcM] at SM hM
 simp only [hfC] at SL SM CI
 simp only [hfA] at AI CI
 clear hcL hcM hfC hfA gL gM z0
 generalize cmpQ (awayQ (medQ l) l) (awayQ ((num : Rat) / (den : Rat)) l) = cc at *
 generalize awayQ (medQ l) l = qa at *
 generalize awayQ ((num : Rat) / (den : Rat)) l = qb at *
 generalize (num : Rat) / (den : Rat) = qn at *
 generalize medQ l = dq at *
 generalize dvnQ l = vq at *
 obtain ⟨la, lc, rfl⟩ := hl.shape
 have HL := Hid.mk_ hl
 obtain ⟨N, hN⟩ : ∃ n, l.length = n := ⟨_, rfl⟩
 have HLN := Hid.mk_ hN
 rw [hN] at h AS HL AI CI SL SM EL EM ⊢
 have HSL := Hid.mk_ SL
 have HSM := Hid.mk_ SM
 have HcL := Hid.mk_ hL
 have HcM := Hid.mk_ hM
 have HZ := Hid.mk_ (And.intro zL zM)
 have HE := Hid.mk_ (And.intro EL EM)
 have HAI := Hid.mk_ AI
 have HCI := Hid.mk_ CI
 have d0 : ¬ (24 : Int) < (N : Int) := by omega
 have dcc : decide (0 < cc) = false := decide_eq_false (by omega)
 clear ha hv h0 hl24 zm zv zq lec AI CI SL SM EL EM hL hM zL zM eN hl hN
 have kk := Keeps.refl w
 have HL0 := Hid.mk_ HL.out
 go_enter Tryz.func8, Tryz.ntmps8
 go_wp2_with fail
 refine (lalive07 _).mono ?_
 rintro e w1 ⟨rfl, hb1⟩
 have st : Steps _ w1 := hb1
 have B : Below w.heap.size w w1 := belowA st
 have kp : Keeps w w1 := Keeps.then_ keepsB st
 replace kk := kk.trans kp
 replace HL := Hid.mk_ (HL0.out.steps B)
 clear kp
 clear st
 go_wp2_with fail
 refine (AS _ belowB).mono ?_
 rintro e w2 ⟨rfl, hb2⟩
 have st : Steps _ w2 := hb2
 have sk : Below w1.heap.size w1 w2 := belowA st
 replace B := below_steps B (Nat.le_refl _) sk
 replace HL := Hid.mk_ (HL.out.steps sk)
 replace kk := kk.then_ sk
 clear st sk
 go_wp2_with fail
 refine (NA _ _ (HL.out.steps belowB)).mono ?_
 rintro e w3 ⟨va_, rfl, hva_, hb3⟩
 have st : Steps _ w3 := hb3
 have sk : Below w2.heap.size w2 w3 := belowA st
 replace B := below_steps B (Nat.le_refl _) sk
 replace HL := Hid.mk_ (HL.out.steps sk)
 replace kk := kk.then_ sk
 clear st sk
 obtain ⟨a_1, a_2, a_3, a_4, a_5, a_6, a_7, a_8, rfl⟩ := hva_.shape
 have Fa_ := Hid.mk_ hva_
 clear hva_
 have zz3 := B.size
 go_wp2_with fail
 refine (DA _ _ (HL.out.steps belowB)).mono ?_
 rintro e w4 ⟨vb_, rfl, hvb_, hb4⟩
 have st : Steps _ w4 := hb4
 have sk : Below w3.heap.size w3 w4 := belowA st
 replace B := below_steps B (Nat.le_refl _) sk
 have ova : Blk w4 (w3.heap.size) 27 #[.bool a_1, .slice a_2 a_3 a_4, .bool a_5, .slice a_6 a_7 a_8] := Blk.stepsK st
 replace HL := Hid.mk_ (HL.out.steps sk)
 replace Fa_ := Hid.mk_ (Fa_.out.steps sk)
 replace kk := kk.then_ sk
 clear st sk
 obtain ⟨cva0, cva1, cva2, cva3⟩ := ova.r3
 have lva := ova.lt
 obtain ⟨b_1, b_2, b_3, b_4, b_5, b_6, b_7, b_8, rfl⟩ := hvb_.shape
 have Fb_ := Hid.mk_ hvb_
 clear hvb_
 have zva_4 : w3.heap.size < w4.heap.size := ova.lt
 have zz4 := B.size
 go_wp2_with fail
 refine (AA _ _ _ (HL.out.steps belowB) (Fa_.out.keeps keepsB)).mono ?_
 rintro e w5 ⟨vc_, rfl, hvc_, hb5⟩
 have st : Steps _ w5 := hb5
 have sk : Below w4.heap.size w4 w5 := belowA st
 replace B := below_steps B (Nat.le_refl _) sk
 have ovb : Blk w5 (w4.heap.size) 27 #[.bool b_1, .slice b_2 b_3 b_4, .bool b_5, .slice b_6 b_7 b_8] := Blk.stepsK st
 replace ova := ova.steps sk
 replace HL := Hid.mk_ (HL.out.steps sk)
 replace Fa_ := Hid.mk_ (Fa_.out.steps sk)
 replace Fb_ := Hid.mk_ (Fb_.out.steps sk)
 replace kk := kk.then_ sk
 clear st sk cva0 cva1 cva2 cva3 lva
 obtain ⟨c_1, c_2, c_3, c_4, c_5, c_6, c_7, c_8, rfl⟩ := hvc_.shape
 have Fc_ := Hid.mk_ hvc_
 clear hvc_
 have zvb_5 : w4.heap.size < w5.heap.size := ovb.lt
 have zz5 := B.size
 go_wp2_with fail
 refine (OF _).mono ?_
 rintro e w6 ⟨vo_, rfl, hvo_, hb6⟩
 have st : Steps _ w6 := hb6
 have sk : Below w5.heap.size w5 w6 := belowA st
 replace B := below_steps B (Nat.le_refl _) sk
 have ovc : Blk w6 (w5.heap.size) 27 #[.bool c_1, .slice c_2 c_3 c_4, .bool c_5, .slice c_6 c_7 c_8] := Blk.stepsK st
 replace ova := ova.steps sk
 replace ovb := ovb.steps sk
 replace HL := Hid.mk_ (HL.out.steps sk)
 replace Fa_ := Hid.mk_ (Fa_.out.steps sk)
 replace Fb_ := Hid.mk_ (Fb_.out.steps sk)
 replace Fc_ := Hid.mk_ (Fc_.out.steps sk)
 replace kk := kk.then_ sk
 clear st sk
 obtain ⟨o_1, o_2, o_3, o_4, o_5, o_6, o_7, o_8, rfl⟩ := hvo_.shape
 have Fo_ := Hid.mk_ hvo_
 clear hvo_
 go_wp2_with fail
 refine (AB _ _ _ (HL.out.steps belowB) (Fo_.out.keeps keepsB)).mono ?_
 rintro e w7 ⟨vd_, rfl, hvd_, hb7⟩
 have st : Steps _ w7 := hb7
 have sk : Below w6.heap.size w6 w7 := belowA st
 replace B := below_steps B (Nat.le_refl _) sk
 replace ova := ova.steps sk
 replace ovb := ovb.steps sk
 replace ovc := ovc.steps sk
 replace HL := Hid.mk_ (HL.out.steps sk)
 replace Fa_ := Hid.mk_ (Fa_.out.steps sk)
 replace Fb_ := Hid.mk_ (Fb_.out.steps sk)
 replace Fc_ := Hid.mk_ (Fc_.out.steps sk)
 replace Fo_ := Hid.mk_ (Fo_.out.steps sk)
 replace kk := kk.then_ sk
 clear st sk
 obtain ⟨cvc0, cvc1, cvc2, cvc3⟩ := ovc.r3
 have lvc := ovc.lt
 obtain ⟨d_1, d_2, d_3, d_4, d_5, d_6, d_7, d_8, rfl⟩ := hvd_.shape
 have Fd_ := Hid.mk_ hvd_
 clear hvd_
 have zvc_7 : w5.heap.size < w7.heap.size := ovc.lt
 have zz7 := B.size
 go_wp2_with fail
 refine (CM _ _ _ (Fc_.out.keeps keepsB) (Fd_.out.keeps keepsB)).mono ?_
 rintro e w8 ⟨rfl, hb8⟩
 have st : Steps _ w8 := hb8
 have sk : Below w7.heap.size w7 w8 := belowA st
 replace B := below_steps B (Nat.le_refl _) sk
 have ovd : Blk w8 (w7.heap.size) 27 #[.bool d_1, .slice d_2 d_3 d_4, .bool d_5, .slice d_6 d_7 d_8] := Blk.stepsK st
 replace ova := ova.steps sk
 replace ovb := ovb.steps sk
 replace ovc := ovc.steps sk
 replace HL := Hid.mk_ (HL.out.steps sk)
 replace Fa_ := Hid.mk_ (Fa_.out.steps sk)
 replace Fb_ := Hid.mk_ (Fb_.out.steps sk)
 replace Fc_ := Hid.mk_ (Fc_.out.steps sk)
 replace Fo_ := Hid.mk_ (Fo_.out.steps sk)
 replace Fd_ := Hid.mk_ (Fd_.out.steps sk)
 replace kk := kk.then_ sk
 clear st sk cvc0 cvc1 cvc2 cvc3 lvc
 go_wp2_with fail
 go_loopw [20, 18, 19] (fun sl0 sl1 sl2 wr => ∃ (i a b : Nat), i ≤ N ∧ sl0 = .int .i64 i ∧ sl1 = .int .i64 a ∧ sl2 = .int .i64 b ∧ a = cL i ∧ b = cM i ∧ Blk wr (w3.heap.size) 27 #[.bool a_1, .slice a_2 a_3 a_4, .bool a_5, .slice a_6 a_7 a_8] ∧ Blk wr (w4.heap.size) 27 #[.bool b_1, .slice b_2 b_3 b_4, .bool b_5, .slice b_6 b_7 b_8] ∧ Blk wr (w5.heap.size) 27 #[.bool c_1, .slice c_2 c_3 c_4, .bool c_5, .slice c_6 c_7 c_8] ∧ Blk wr (w7.heap.size) 27 #[.bool d_1, .slice d_2 d_3 d_4, .bool d_5, .slice d_6 d_7 d_8] ∧ Below w.heap.size w wr ∧ Keeps w8 wr) (fun sl0 sl1 sl2 _ => N - (intOf sl0).toNat)
 case atStart => exact ⟨0, 0, 0, by omega, rfl, rfl, rfl, HZ.out.1.symm, HZ.out.2.symm, ownK, ownK, ownK, ownK, belowB, keepsB⟩
 case round =>
  clear ova ovb ovc ovd
  try clear B
  try clear kk
  obtain ⟨i, a, b, hi, rfl, rfl, rfl, ha, hb, ova, ovb, ovc, ovd, B, kk⟩ := hrel
  replace HL := Hid.mk_ (HL0.out.steps B)
  replace Fa_ := Hid.mk_ (Fa_.out.keeps kk)
  replace Fb_ := Hid.mk_ (Fb_.out.keeps kk)
  replace Fc_ := Hid.mk_ (Fc_.out.keeps kk)
  replace Fo_ := Hid.mk_ (Fo_.out.keeps kk)
  replace Fd_ := Hid.mk_ (Fd_.out.keeps kk)
  obtain ⟨cva0, cva1, cva2, cva3⟩ := ova.r3
  have lva := ova.lt
  have HAB := Hid.mk_ (And.intro ha hb)
  have a24 : a ≤ 24 := by have := HcL.out i; omega
  have b24 : b ≤ 24 := by have := HcM.out i; omega
  clear ha hb
  rcases Nat.lt_or_ge i N with i4 | i4
  ·
   have hlt : decide ((i : Int) < (N : Int)) = true := decide_eq_true (by omega)
   obtain ⟨bk, of, rfl, hbl, hx0⟩ := HL0.out.at' (t := i) (by have := HLN.out; omega)
   have hcap := HL0.out.cap_
   have ai := HAI.out i i4
   have ci := HCI.out i i4
   have hsl := HSL.out i i4
   have hsm := HSM.out i i4
   obtain ⟨x, hx⟩ : ∃ x, l.getD i 0 = x := ⟨_, rfl⟩
   rw [hx] at hx0 ai
   obtain ⟨c, hc⟩ : ∃ c, fC i = c := ⟨_, rfl⟩
   rw [hc] at ci hsl hsm
   obtain ⟨q, hq⟩ : ∃ q, fA i = q := ⟨_, rfl⟩
   rw [hq] at ci ai
   obtain ⟨i1, hi1⟩ : ∃ j, i + 1 = j := ⟨_, rfl⟩
   have ei1 : (i : Int) + 1 = (i1 : Int) := by omega
   have i1N : i1 ≤ N := by omega
   have i1c : i1 ≤ lc := by have := HLN.out; omega
   have ii1 : i ≤ i1 := by omega
   have e11 : i1 - i = 1 := by omega
   have hlci : ¬ lc = i := by omega
   have H1 : Hid (IntsR w (.slice (some ⟨bk, of + i, none⟩) 1 (lc - i)) [x]) := Hid.mk_ (ints_one (by have := HLN.out; omega) hbl hx0)
   rw [hi1] at hsl hsm
   have HI1 := Hid.mk_ hi1
   have HS_ := Hid.mk_ (And.intro hsl hsm)
   clear hx hc hq hi1 hx0 hsl hsm
   go_wp2_with fail
   have zvd_8 : w7.heap.size < wr.heap.size := ovd.lt
   have zz8 := B.size
   go_upto_region 17 with fail
   refine Reg.wp_chain_n (fun N0 D v W => Below w.heap.size w W ∧ Keeps wr W ∧ N0 ≤ W.heap.size ∧ Blk W (w3.heap.size) 27 #[.bool a_1, .slice a_2 a_3 a_4, .bool a_5, .slice a_6 a_7 a_8] ∧ Blk W (w4.heap.size) 27 #[.bool b_1, .slice b_2 b_3 b_4, .bool b_5, .slice b_6 b_7 b_8] ∧ Blk W (w5.heap.size) 27 #[.bool c_1, .slice c_2 c_3 c_4, .bool c_5, .slice c_6 c_7 c_8] ∧ Blk W (w7.heap.size) 27 #[.bool d_1, .slice d_2 d_3 d_4, .bool d_5, .slice d_6 d_7 d_8] ∧ (D 10 = true → ∃ g : Nat, v 10 = .pointer (some ⟨g, 0, none⟩) ∧ N0 ≤ g ∧ g < W.heap.size ∧ (D 11 = false → Blk W g 27 #[.bool false, .slice none 0 0, .bool false, .slice none 0 0]) ∧ (D 11 = true → D 6 = true ∧ ∃ cs, v 6 = .tuple #[.agg cs, .bool true] ∧ Blk W g 27 cs)))
    (Reg.inl [6, 10, 11]) (Reg.gv [(6, IsFrB), (10, IsPtr)]) (gw [(6, GFrB (q))]) (fun _ => Keeps) (fun _ _ => False) (Reg.pl [(11, [(6, some 118), (10, some 21)]), (13, [(6, some 118), (10, some 21)])]) (Reg.pl [(10, [11]), (6, [11])])
    (by kernel_rfl) (by kernel_rfl) (by kernel_rfl) (Reg.gvA _) (fun N0 hN0 => ⟨fun v => ?_, fun D v v' W hv hj => ?_, fun D v k j W W' x _ _ _ _ hk hg => gw_keeps _ (by intro p hp; simp only [List.mem_cons, List.not_mem_nil, or_false] at hp; rcases hp with rfl <;> first | exact GFr.keeps | exact GFrE.keeps | exact GFrB.keeps | exact GNu.keeps | exact GNuE.keeps | exact GLi.keeps) hk hg, fun _ _ _ _ h => h.elim, fun ops' Q' hops hQ => ?_⟩)
   · exact ⟨belowB, keepsB, by first | with_reducible exact Nat.le_of_eq hN0.out | (simp only [World.size_drew]; with_reducible exact Nat.le_of_eq hN0.out), ownK, ownK, ownK, ownK, (fun h => Bool.noConfusion h)⟩
   ·
    obtain ⟨j0, jk, jn, b_va, b_vb, b_vc, b_vd, a_10⟩ := hj
    exact ⟨j0, jk, jn, b_va, b_vb, b_vc, b_vd, fun h => by obtain ⟨g, e1, e2, e3, e4, e5⟩ := a_10 h; exact ⟨g, (hv 10 h) ▸ e1, e2, e3, e4, fun h => by obtain ⟨d, cs, e, hb⟩ := e5 h; exact ⟨d, cs, (hv 6 d) ▸ e, hb⟩⟩⟩
   have eN := hN0.out
   try simp only [World.size_alloc, World.size_setCell, World.size_drew, World.heap_drewN] at eN
   have i_va : w3.heap.size < N0 := by first | omega | (have h := ova.lt; omega)
   have i_vb : w4.heap.size < N0 := by first | omega | (have h := ovb.lt; omega)
   have i_vc : w5.heap.size < N0 := by first | omega | (have h := ovc.lt; omega)
   have i_vd : w7.heap.size < N0 := by first | omega | (have h := ovd.lt; omega)
   have iw : w.heap.size ≤ N0 := by first | omega | (have h := B.size; omega)
   clear cva0 cva1 cva2 cva3 lva
   clear hN0
   refine Reg.RP0 112 ?_
   refine Reg.RP0 113 ?_
   refine Reg.RP0 114 ?_
   refine Reg.RP0 115 ?_
   refine Reg.RP0 116 ?_
   apply Reg.RP rfl rfl rfl 117 rfl rfl
   ·
    intro D v' W' hc hj hf K hK
    obtain ⟨j0, jk, jn, b_va, b_vb, b_vc, b_vd, a_10⟩ := hj
    obtain ⟨c0, c1, c2, c3⟩ := b_va.r3
    go_step
    exact hK.out
   · rfl
   refine Reg.RC_call rfl (tlt rfl) rfl (fun D v' W' hc hj hf K hK => ?_) ?_
   ·
    obtain ⟨j0, jk, jn, b_va, b_vb, b_vc, b_vd, a_10⟩ := hj
    clear hf
    go_step
    refine (ai W' _ _ (H1.out.steps j0) (Fa_.out.keeps jk)).mono ?_
    rintro e W2 ⟨u, rfl, hu, hs⟩
    obtain ⟨e_1, e_2, e_3, e_4, e_5, e_6, e_7, e_8, rfl⟩ := hu.shape
    exact hK.out _ W2 (Keeps.steps hs) ⟨jst j0 hs, jk.then_ hs, jsz jn hs, b_va.steps hs, b_vb.steps hs, b_vc.steps hs, b_vd.steps hs, fun h => by obtain ⟨g, e1, e2, e3, e4, e5⟩ := a_10 h; exact ⟨g, e1, e2, Nat.lt_of_lt_of_le e3 (hs).size, fun h => (e4 h).steps hs, fun h => Bool.noConfusion ((hc.2 11 (by decide)).symm.trans h)⟩⟩ ⟨_, rfl, hu⟩ ⟨_, _, _, _, _, _, _, _, rfl⟩
   rintro _ ⟨e_1, e_2, e_3, e_4, e_5, e_6, e_7, e_8, rfl⟩
   refine Reg.RC_at (b := ⟨#[_,_,_,_,_,_,_,_,_,_,_,_,_,_,_,_,_,_,_,_,_,_,_,_,_,_,_,_,_,_,_,_,_,_,_,_,_,_,_,_,_,_,_,_,_,_,_,_,_,_,_,_,_,_,_,_,_,_,_,_,_,_,_,_,_,_,_,_,_,_,_,_,_,_,_,_,_,_,_,_,_,_,_,_,_,_,_,_,_,_,_,_,_,_,_,_,_,_,_,_,_,_,_,_,_,_,_,_,_,_,_,_,_,_,_,_,_,_,_,_,_,_,_,_,_,_,_,_,_,_,_,_,_,_,_,_,_,_,_,_,_,_,_,_,_,_,_,_,_,_,_,_], _⟩) rfl ?_
   refine Reg.RP0 111 ?_
   refine Reg.RP0 119 ?_
   refine Reg.RP0 120 ?_
   refine Reg.RC_call rfl (tlt rfl) rfl (fun D v' W' hc hj hf K hK => ?_) ?_
   ·
    obtain ⟨j0, jk, jn, b_va, b_vb, b_vc, b_vd, a_10⟩ := hj
    go_step
    have hs : ∀ o : Obj, Steps W' (W'.alloc o) := fun o => (Below.refl _ _).alloc (Nat.le_refl _) o
    exact hK.out _ _ (Keeps.steps (hs _)) ⟨jst j0 (hs _), jk.then_ (hs _), jsz jn (hs _), b_va.steps (hs _), b_vb.steps (hs _), b_vc.steps (hs _), b_vd.steps (hs _), fun _ => ⟨W'.heap.size, rfl, jn, by rw [World.size_alloc]; omega, fun _ => Blk.new _ _ _, fun h => Bool.noConfusion ((hc.2 11 (by decide)).symm.trans h)⟩⟩ trivial ⟨_, rfl⟩
   rintro _ ⟨p21, rfl⟩
   refine Reg.RC_at (b := ⟨#[_,_,_,_,_,_,_,_,_,_,_,_,_,_,_,_,_,_,_,_,_,_,_,_,_,_,_,_,_,_,_,_,_,_,_,_,_,_,_,_,_,_,_,_,_,_,_,_,_,_,_,_,_,_,_,_,_,_,_,_,_,_,_,_,_,_,_,_,_,_,_,_,_,_,_,_,_,_,_,_,_,_,_,_,_,_,_,_,_,_,_,_,_,_,_,_,_,_,_,_,_,_,_,_,_,_,_,_,_,_,_,_,_,_,_,_,_,_,_,_,_,_,_,_,_,_,_,_,_,_,_,_,_,_,_,_,_,_,_,_,_,_,_,_,_,_,_,_,_,_,_,_], _⟩) rfl ?_
   refine Reg.RC_call rfl (by intro t ht; cases ht) rfl (fun D v' W' hc hj hf K hK => ?_) (fun _ _ => Reg.RC_at (b := ⟨_, _⟩) rfl ?_)
   ·
    obtain ⟨j0, jk, jn, b_va, b_vb, b_vc, b_vd, a_10⟩ := hj
    have f := hf (10, some 21) (.tail _ (.head _)) rfl
    have e6 : v' 10 = .pointer (some ⟨p21, 0, none⟩) := f.2.1
    obtain ⟨g, e1, e2, e3, e4, e5⟩ := a_10 f.1
    obtain rfl : p21 = g := Reg.ptr_eq (e6.symm.trans e1)
    have hb := e4 hc.1
    clear e4 e5
    have fc := hf (6, some 118) (.head _) rfl
    have ec : v' 6 = .tuple #[.agg #[.bool e_1, .slice e_2 e_3 e_4, .bool e_5, .slice e_6 e_7 e_8], .bool true] := fc.2.1
    have ff := hb.fr
    obtain ⟨cc0, cc1, cc2, cc3⟩ := hb.r3
    go_step
    exact hK.out undef _ (keeps4 hb rfl) ⟨(below4 j0 (by show w.heap.size ≤ p21; omega)), jk.trans (keeps4 hb rfl), by simpa using jn, (b_va).far4 (show w3.heap.size ≠ p21 by omega), (b_vb).far4 (show w4.heap.size ≠ p21 by omega), (b_vc).far4 (show w5.heap.size ≠ p21 by omega), (b_vd).far4 (show w7.heap.size ≠ p21 by omega), fun _ => ⟨p21, e1, e2, by simpa using e3, fun h => Bool.noConfusion h, fun _ => ⟨fc.1, _, ec, (Blk.set2 (cs' := #[.bool e_1, .slice e_2 e_3 e_4, .bool e_5, .slice e_6 e_7 e_8]) (Blk.set2 (cs' := #[.bool e_1, .slice e_2 e_3 e_4, .bool e_5, .slice none 0 0]) (Blk.set2 (cs' := #[.bool e_1, .slice e_2 e_3 e_4, .bool false, .slice none 0 0]) (Blk.set2 (cs' := #[.bool e_1, .slice none 0 0, .bool false, .slice none 0 0]) hb (i := 0) rfl) (i := 1) rfl) (i := 2) rfl) (i := 3) rfl)⟩⟩⟩ trivial trivial
   refine Reg.RP0 22 ?_
   refine Reg.RC_end (fun Dn v' w9 hd hj hf => ?_)
   obtain ⟨j0, jk, jn, b_va, b_vb, b_vc, b_vd, a_10⟩ := hj
   have B := j0
   have ova := b_va
   clear b_va
   have ovb := b_vb
   clear b_vb
   have ovc := b_vc
   clear b_vc
   have ovd := b_vd
   clear b_vd
   have f := hf (10, some 21) (.tail _ (.head _)) rfl
   have e6_ : v' 10 = .pointer (some ⟨p21, 0, none⟩) := f.2.1
   obtain ⟨g, e1_, zve, -, -, e5_⟩ := a_10 f.1
   obtain rfl : p21 = g := Reg.ptr_eq (e6_.symm.trans e1_)
   obtain ⟨-, cs_, ee, ove⟩ := e5_ (hd 11 (Nat.le_of_ble_eq_true rfl))
   have ef : v' 6 = .tuple #[.agg #[.bool e_1, .slice e_2 e_3 e_4, .bool e_5, .slice e_6 e_7 e_8], .bool true] := (hf (6, some 118) (.head _) rfl).2.1
   obtain rfl : #[.bool e_1, .slice e_2 e_3 e_4, .bool e_5, .slice e_6 e_7 e_8] = cs_ := by have := ef.symm.trans ee; simpa only [Value.tuple.injEq, Value.agg.injEq, Array.mk.injEq, List.cons.injEq, and_true, true_and] using this
   clear ee ef f e5_ e1_ e6_
   have Fe_ := Hid.mk_ (GFrB.get (r := q) (v := .agg #[.bool e_1, .slice e_2 e_3 e_4, .bool e_5, .slice e_6 e_7 e_8]) (hf (6, some 118) (.head _) rfl).2.2)
   replace HL := Hid.mk_ (HL0.out.steps B)
   replace Fa_ := Hid.mk_ (Fa_.out.keeps jk)
   replace Fb_ := Hid.mk_ (Fb_.out.keeps jk)
   replace Fc_ := Hid.mk_ (Fc_.out.keeps jk)
   replace Fo_ := Hid.mk_ (Fo_.out.keeps jk)
   replace Fd_ := Hid.mk_ (Fd_.out.keeps jk)
   replace kk := kk.trans jk
   clear hd hf jk j0
   refine hQ _ _ ?_
   clear hQ hops Q' ops'
   obtain ⟨cvb0, cvb1, cvb2, cvb3⟩ := ovb.r3
   have lvb := ovb.lt
   obtain ⟨cve0, cve1, cve2, cve3⟩ := ove.r3
   have lve := ove.lt
   rcases (show c < 0 ∨ c = 0 ∨ 0 < c by omega) with c0 | c0 | c0
   ·
    have dle : decide (c ≤ 0) = true := decide_eq_true (by omega)
    have dge : decide (0 ≤ c) = false := decide_eq_false (by omega)
    have hs1 := HS_.out.1
    have hs2 := HS_.out.2
    rw [dle] at hs1
    rw [dge] at hs2
    have HSS := Hid.mk_ (And.intro hs1 hs2)
    clear hs1 hs2
    clear c0
    go_wp2_with fail
    refine (ci _ _ _ (Fe_.out.keeps keepsB) (Fb_.out.keeps keepsB)).mono ?_
    rintro e w10 ⟨rfl, hb10⟩
    have st : Steps _ w10 := hb10
    have sk : Below w9.heap.size w9 w10 := belowA st
    replace B := below_steps B (Nat.le_refl _) sk
    replace ova := ova.steps sk
    replace ovb := ovb.steps sk
    replace ovc := ovc.steps sk
    replace ovd := ovd.steps sk
    replace ove := ove.steps sk
    replace HL := Hid.mk_ (HL.out.steps sk)
    replace Fa_ := Hid.mk_ (Fa_.out.steps sk)
    replace Fb_ := Hid.mk_ (Fb_.out.steps sk)
    replace Fc_ := Hid.mk_ (Fc_.out.steps sk)
    replace Fo_ := Hid.mk_ (Fo_.out.steps sk)
    replace Fd_ := Hid.mk_ (Fd_.out.steps sk)
    replace Fe_ := Hid.mk_ (Fe_.out.steps sk)
    replace kk := kk.then_ sk
    clear st sk cvb0 cvb1 cvb2 cvb3 lvb cve0 cve1 cve2 cve3 lve
    go_wp2_with fail
    go_roundw
    case rel => exact ⟨i1, a + 1, b, i1N, by go_num, by go_num, by go_num, by have h1 := HSS.out.1; have h2 := HAB.out.1; simp at h1; omega, by have h1 := HSS.out.2; have h2 := HAB.out.2; simp at h1; omega, ownK, ownK, ownK, ownK, belowB, kk.trans keepsB⟩
    case measure => simp [intOf]; have := HI1.out; omega
   ·
    have dle : decide (c ≤ 0) = true := decide_eq_true (by omega)
    have dge : decide (0 ≤ c) = true := decide_eq_true (by omega)
    have hs1 := HS_.out.1
    have hs2 := HS_.out.2
    rw [dle] at hs1
    rw [dge] at hs2
    have HSS := Hid.mk_ (And.intro hs1 hs2)
    clear hs1 hs2
    subst c0
    clear dle dge
    go_wp2_with fail
    refine (ci _ _ _ (Fe_.out.keeps keepsB) (Fb_.out.keeps keepsB)).mono ?_
    rintro e w10 ⟨rfl, hb10⟩
    have st : Steps _ w10 := hb10
    have sk : Below w9.heap.size w9 w10 := belowA st
    replace B := below_steps B (Nat.le_refl _) sk
    replace ova := ova.steps sk
    replace ovb := ovb.steps sk
    replace ovc := ovc.steps sk
    replace ovd := ovd.steps sk
    replace ove := ove.steps sk
    replace HL := Hid.mk_ (HL.out.steps sk)
    replace Fa_ := Hid.mk_ (Fa_.out.steps sk)
    replace Fb_ := Hid.mk_ (Fb_.out.steps sk)
    replace Fc_ := Hid.mk_ (Fc_.out.steps sk)
    replace Fo_ := Hid.mk_ (Fo_.out.steps sk)
    replace Fd_ := Hid.mk_ (Fd_.out.steps sk)
    replace Fe_ := Hid.mk_ (Fe_.out.steps sk)
    replace kk := kk.then_ sk
    clear st sk cvb0 cvb1 cvb2 cvb3 lvb cve0 cve1 cve2 cve3 lve
    go_wp2_with fail
    go_roundw
    case rel => exact ⟨i1, a + 1, b + 1, i1N, by go_num, by go_num, by go_num, by have h1 := HSS.out.1; have h2 := HAB.out.1; simp at h1; omega, by have h1 := HSS.out.2; have h2 := HAB.out.2; simp at h1; omega, ownK, ownK, ownK, ownK, belowB, kk.trans keepsB⟩
    case measure => simp [intOf]; have := HI1.out; omega
   ·
    have dle : decide (c ≤ 0) = false := decide_eq_false (by omega)
    have dge : decide (0 ≤ c) = true := decide_eq_true (by omega)
    have hs1 := HS_.out.1
    have hs2 := HS_.out.2
    rw [dle] at hs1
    rw [dge] at hs2
    have HSS := Hid.mk_ (And.intro hs1 hs2)
    clear hs1 hs2
    clear c0
    go_wp2_with fail
    refine (ci _ _ _ (Fe_.out.keeps keepsB) (Fb_.out.keeps keepsB)).mono ?_
    rintro e w10 ⟨rfl, hb10⟩
    have st : Steps _ w10 := hb10
    have sk : Below w9.heap.size w9 w10 := belowA st
    replace B := below_steps B (Nat.le_refl _) sk
    replace ova := ova.steps sk
    replace ovb := ovb.steps sk
    replace ovc := ovc.steps sk
    replace ovd := ovd.steps sk
    replace ove := ove.steps sk
    replace HL := Hid.mk_ (HL.out.steps sk)
    replace Fa_ := Hid.mk_ (Fa_.out.steps sk)
    replace Fb_ := Hid.mk_ (Fb_.out.steps sk)
    replace Fc_ := Hid.mk_ (Fc_.out.steps sk)
    replace Fo_ := Hid.mk_ (Fo_.out.steps sk)
    replace Fd_ := Hid.mk_ (Fd_.out.steps sk)
    replace Fe_ := Hid.mk_ (Fe_.out.steps sk)
    replace kk := kk.then_ sk
    clear st sk cvb0 cvb1 cvb2 cvb3 lvb cve0 cve1 cve2 cve3 lve
    go_wp2_with fail
    go_roundw
    case rel => exact ⟨i1, a, b + 1, i1N, by go_num, by go_num, by go_num, by have h1 := HSS.out.1; have h2 := HAB.out.1; simp at h1; omega, by have h1 := HSS.out.2; have h2 := HAB.out.2; simp at h1; omega, ownK, ownK, ownK, ownK, belowB, kk.trans keepsB⟩
    case measure => simp [intOf]; have := HI1.out; omega
  ·
   have hlt : decide ((i : Int) < (N : Int)) = false := decide_eq_false (by omega)
   have hiN : i = N := by omega
   have dga : decide ((N : Int) ≤ 2 * (a : Int)) = true := decide_eq_true (by have h1 := HAB.out.1; have h2 := HE.out.1; rw [hiN] at h1; omega)
   have dgb : decide ((N : Int) ≤ 2 * (b : Int)) = true := decide_eq_true (by have h1 := HAB.out.2; have h2 := HE.out.2; rw [hiN] at h1; omega)
   have dgaN : decide (N ≤ 2 * a) = true := decide_eq_true (by have h1 := HAB.out.1; have h2 := HE.out.1; rw [hiN] at h1; omega)
   have dgbN : decide (N ≤ 2 * b) = true := decide_eq_true (by have h1 := HAB.out.2; have h2 := HE.out.2; rw [hiN] at h1; omega)
   clear hiN
   go_wp2_with fail
   go_returns
   exact ⟨rfl, belowB⟩
theorem least_law {vl : Value} {l : List Int} (num den : Int) (w : World) (hl : IntsR w vl l) (hnum : -9223372036854775808 ≤ num ∧ num ≤ 9223372036854775807) (hden : -9223372036854775808 ≤ den ∧ den ≤ 9223372036854775807) :
  Calls Tryz.prog 8 #[vl, .int .i64 num, .int .i64 den] w fun e w' => e = .returned (.bool true) ∧ Steps w w' := by
 by_cases h : l.length ≤ 24
 ·
  by_cases ha : askV l = 0
  ·
   by_cases b0 : den < 1
   · exact least_bad2 num den w hl h ha b0
   ·
    by_cases b1 : 4294967296 < den
    · exact least_bad3 num den w hl h ha b0 b1
    ·
     by_cases b2 : num < -1125899906842624
     · exact least_bad4 num den w hl h ha b0 b1 b2
     ·
      by_cases b3 : 1125899906842624 < num
      · exact least_bad5 num den w hl h ha b0 b1 b2 b3
      · exact least_ok num den w hl h ha b0 b1 b2 b3
  · exact least_bad1 num den w hl h _ rfl ha
 · exact least_bad0 num den w hl h
end Go.Proofs.YtmpambmpknaldaaGreat
