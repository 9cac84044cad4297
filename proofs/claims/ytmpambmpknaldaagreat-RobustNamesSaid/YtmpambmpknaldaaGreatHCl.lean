import Derived.Test.YtmpambmpknaldaaGreatHCh
import Derived.Test.YtmpambmpknaldaaGreatHQu
import Derived.Deep.Upon
import Derived.Test.YtmpambmpknaldaaGreatHQj
set_option linter.unusedVariables false
set_option linter.unusedSimpArgs false
set_option maxHeartbeats 6400000
set_option maxRecDepth 1000000
namespace Go.Proofs.YtmpambmpknaldaaGreat
open Go.RowKit
def grB (n : Nat) : Bool := decide (1010 < n) || (decide (24 < n) && decide (n ≤ 1000))
theorem psameN {a b c d a' b' c' d' : Value} {x y : Int} (w : World) (h : Frn w x y a b c d) (h' : Frn w x y a' b' c' d') (fx : fits x) (fy : fits y) :
  Calls Tryz.prog 18 #[.agg #[a, b, c, d], .agg #[a', b', c', d']] w fun e w' => e = .returned (.bool true) ∧ Steps w w' := by
 obtain ⟨g1, s1, n1, c1, rfl, rfl⟩ := h.1.parts2
 obtain ⟨g2, s2, n2, c2, rfl, rfl⟩ := h.2.parts2
 obtain ⟨g3, s3, n3, c3, rfl, rfl⟩ := h'.1.parts2
 obtain ⟨g4, s4, n4, c4, rfl, rfl⟩ := h'.2.parts2
 have p1 : ∀ w', Keeps w w' → Calls Tryz.prog 47 #[.agg #[.bool g1, .slice s1 n1 c1], .agg #[.bool g3, .slice s3 n3 c3]] w' fun e w2 => e = .returned (.bool true) ∧ Steps w' w2 := fun w' k => by
  have := rsame w' (h.1.keeps k) (h'.1.keeps k) fx fx
  rwa [decide_eq_true rfl] at this
 have p2 : ∀ w', Keeps w w' → Calls Tryz.prog 47 #[.agg #[.bool g2, .slice s2 n2 c2], .agg #[.bool g4, .slice s4 n4 c4]] w' fun e w2 => e = .returned (.bool true) ∧ Steps w' w2 := fun w' k => by
  have := rsame w' (h.2.keeps k) (h'.2.keeps k) fy fy
  rwa [decide_eq_true rfl] at this
 clear h h' fx fy
 go_enter Tryz.func18, Tryz.ntmps18
 have kk := Keeps.refl w
 go_wp2_with fail
 refine (p1 _ (kk.trans keepsB)).mono ?_
 rintro e w1 ⟨rfl, hb1⟩
 have st : Steps _ w1 := hb1
 have B : Below w.heap.size w w1 := belowA st
 have kp : Keeps w w1 := Keeps.then_ keepsB st
 replace kk := kk.trans kp
 have oa : Blk w1 (w.heap.size) 27 #[.bool g1, .slice s1 n1 c1, .bool g2, .slice s2 n2 c2] := Blk.stepsK st
 have ob : Blk w1 (w.heap.size + 1) 27 #[.bool g3, .slice s3 n3 c3, .bool g4, .slice s4 n4 c4] := Blk.stepsK st
 clear kp
 clear st
 obtain ⟨ca0, ca1, ca2, ca3⟩ := oa.r3
 have la := oa.lt
 obtain ⟨cb0, cb1, cb2, cb3⟩ := ob.r3
 have lb := ob.lt
 go_wp2_with fail
 refine (p2 _ (kk.trans keepsB)).mono ?_
 rintro e w2 ⟨rfl, hb2⟩
 have st : Steps _ w2 := hb2
 have sk : Below w1.heap.size w1 w2 := belowA st
 replace B := below_steps B (Nat.le_refl _) sk
 replace oa := oa.steps sk
 replace ob := ob.steps sk
 replace kk := kk.then_ sk
 clear st sk ca0 ca1 ca2 ca3 la cb0 cb1 cb2 cb3 lb
 go_wp2_with fail
 refine bodyPost_ret (by simp [results, Tryz.results18, go_sem, ]; rfl) rfl ?_
 exact ⟨rfl, belowB⟩
theorem frn_zeroQ (w : World) : Frn w 0 0 (.bool false) (.slice none 0 0) (.bool false) (.slice none 0 0) := ⟨Num.zero _, Num.zero _⟩
theorem psame {va vb : Value} {c : Int} {r : Rat} (w : World) (h : FE w va c r) (h' : FE w vb c r) : Calls Tryz.prog 18 #[va, vb] w fun e w' => e = .returned (.bool true) ∧ Steps w w' := by
 unfold FE at h h'
 by_cases hc : c = 0
 ·
  rw [if_pos hc] at h h'
  obtain ⟨a2, a3, a4, a6, a7, a8, rfl, n1, n2, -⟩ := h.nums
  obtain ⟨b2, b3, b4, b6, b7, b8, rfl, m1, m2, -⟩ := h'.nums
  exact psameN w ⟨n1, n2⟩ ⟨m1, m2⟩ h.fit.1 h.fit.2
 ·
  rw [if_neg hc] at h h'
  subst h
  subst h'
  exact psameN w (frn_zeroQ w) (frn_zeroQ w) (by decide) (by decide)
theorem FE.keeps {w w' : World} {v : Value} {c : Int} {r : Rat} (h : FE w v c r) (k : Keeps w w') : FE w' v c r := by
 unfold FE at h ⊢
 split
 · rename_i e; rw [if_pos e] at h; exact FR.keeps h k
 · rename_i e; rw [if_neg e] at h; exact h
theorem FE.steps {w w' : World} {v : Value} {c : Int} {r : Rat} (h : FE w v c r) (s : Steps w w') : FE w' v c r := h.keeps (Keeps.steps s)
theorem FE.shape {w : World} {v : Value} {c : Int} {r : Rat} (h : FE w v c r) : ∃ (a : Bool) (s : Option Addr) (n d : Nat) (b : Bool) (t : Option Addr) (m e : Nat), v = .agg #[.bool a, .slice s n d, .bool b, .slice t m e] := by
 unfold FE at h
 split at h
 · exact FR.shape h
 · exact ⟨_, _, _, _, _, _, _, _, h⟩
def gvn : List Int := [1, 2, 3, 4, 100]
theorem gv_ask : askV gvn = 0 := by decide +kernel
theorem srt_gv : srt gvn = gvn := (srt_of (List.Perm.refl _) (by unfold Asc gvn; decide)).symm
theorem srt_aw : srt [4, 2, 0, 2, 194] = [0, 2, 2, 4, 194] := (srt_of (by decide) (by unfold Asc; decide)).symm
theorem tw_gv : twI gvn = 6 := by unfold twI; rw [srt_gv]; decide
theorem gv_mean : meanQ gvn = ((22 : Int) : Rat) / ((1 : Int) : Rat) := by decide +kernel
theorem gv_med : medQ gvn = ((3 : Int) : Rat) / ((1 : Int) : Rat) := by unfold medQ; rw [tw_gv]; decide +kernel
theorem gv_dvn : dvnQ gvn = ((1 : Int) : Rat) / ((1 : Int) : Rat) := by
 unfold dvnQ
 rw [tw_gv, show awI 6 gvn = [4, 2, 0, 2, 194] by decide]
 unfold twI
 rw [srt_aw]
 decide +kernel
theorem gv_var : varQ gvn = ((1522 : Int) : Rat) / ((1 : Int) : Rat) := by decide +kernel
theorem gv_clip : clipS gvn (some (((3 : Int) : Rat) / ((2 : Int) : Rat))) = ([0, 1, 2, 3], 1, 0) := by decide +kernel
theorem gv_trim : meanQ (pick gvn [0, 1, 2, 3]) = ((5 : Int) : Rat) / ((2 : Int) : Rat) := by decide +kernel
theorem lof07 (x y : Int) (w : World) (x0 : -9223372036854775808 ≤ x) (x1 : x ≤ 9223372036854775807) (y0 : -9223372036854775808 ≤ y) (y1 : y ≤ 9223372036854775807) (hy : y ≠ 0) :
  Calls Tryz.prog 24 #[.int .i64 x, .int .i64 y] w fun e w' => ∃ v, e = .returned v ∧ FR w' v ((x : Rat) / (y : Rat)) ∧ Steps w w' := by
 have OF := fun w' => rofF x y w' x0 x1 y0 y1 hy
 generalize (x : Rat) / (y : Rat) = q at *
 clear x0 x1 y0 y1 hy
 go_enter Tryz.func24, Tryz.ntmps24
 go_wp2_with fail
 refine (OF _).mono ?_
 rintro e w1 ⟨vp_, rfl, hvp_, hb1⟩
 have st : Steps _ w1 := hb1
 have B : Below w.heap.size w w1 := belowA st
 have or : Blk w1 (w.heap.size) 27 #[.bool false, .slice none 0 0, .bool false, .slice none 0 0] := Blk.stepsK st
 clear st
 obtain ⟨cr0, cr1, cr2, cr3, fr, lr⟩ := or.s3
 obtain ⟨p_1, p_2, p_3, p_4, p_5, p_6, p_7, p_8, rfl⟩ := hvp_.shape
 have Fp_ := Hid.mk_ hvp_
 clear hvp_
 have zr_1 : w.heap.size < w1.heap.size := or.lt
 have zz1 := B.size
 go_wp2_with fail
 refine bodyPost_ret (by simp [results, Tryz.results24, go_sem, cr0, cr1, cr2, cr3, fr, lr]; rfl) rfl ?_
 exact ⟨_, rfl, Fp_.out.keeps keepsB, belowB⟩
theorem lgiven07 (w : World) : Calls Tryz.prog 27 #[] w fun e w' => ∃ v, e = .returned v ∧ IntsR w' v gvn ∧ Steps w w' := by
 go_enter Tryz.func27, Tryz.ntmps27
 go_wp2_with fail
 go_returns
 have o := Blk.new w 2 #[.int .i64 1, .int .i64 2, .int .i64 3, .int .i64 4, .int .i64 100]
 exact ⟨_, rfl, ⟨_, _, rfl, Nat.le_refl _, fun _ => ⟨w.heap.size, 0, rfl, o.lt, fun t ht => (by
  have h5 : t < 5 := ht
  rcases (show t = 0 ∨ t = 1 ∨ t = 2 ∨ t = 3 ∨ t = 4 by omega) with rfl | rfl | rfl | rfl | rfl
  · exact o.c 0 rfl
  · exact o.c 1 rfl
  · exact o.c 2 rfl
  · exact o.c 3 rfl
  · exact o.c 4 rfl)⟩⟩, belowB⟩
theorem lis (x y : Int) (w : World) {f1 f5 : Bool} {f2 f6 : Option Addr} {f3 f4 f7 f8 : Nat} (hf : FR w (.agg #[.bool f1, .slice f2 f3 f4, .bool f5, .slice f6 f7 f8]) ((x : Rat) / (y : Rat))) (x0 : -9223372036854775808 ≤ x) (x1 : x ≤ 9223372036854775807) (y0 : -9223372036854775808 ≤ y) (y1 : y ≤ 9223372036854775807) (hy : y ≠ 0) :
  Calls Tryz.prog 28 #[.agg #[.bool f1, .slice f2 f3 f4, .bool f5, .slice f6 f7 f8], .int .i64 0, .int .i64 x, .int .i64 y] w fun e w' => e = .returned (.bool true) ∧ Steps w w' := by
 have OF := fun w' => fofQ x y w' x0 x1 y0 y1 hy
 generalize (x : Rat) / (y : Rat) = q at *
 have Ff := Hid.mk_ hf
 clear x0 x1 y0 y1 hy hf
 go_enter Tryz.func28, Tryz.ntmps28
 go_wp2_with fail
 refine (OF _).mono ?_
 rintro e w1 ⟨vp_, rfl, hvp_, hb1⟩
 have st : Steps _ w1 := hb1
 have B : Below w.heap.size w w1 := belowA st
 have kp : Keeps w w1 := Keeps.then_ keepsB st
 have ok : Blk w1 (w.heap.size) 27 #[.bool f1, .slice f2 f3 f4, .bool f5, .slice f6 f7 f8] := Blk.stepsK st
 replace Ff := Hid.mk_ (Ff.out.keeps kp)
 clear kp
 clear st
 obtain ⟨ck0, ck1, ck2, ck3⟩ := ok.r3
 have lk := ok.lt
 obtain ⟨p_1, p_2, p_3, p_4, p_5, p_6, p_7, p_8, rfl⟩ := hvp_.shape
 have Fp_ := Hid.mk_ hvp_
 clear hvp_
 have zk_1 : w.heap.size < w1.heap.size := ok.lt
 have zz1 := B.size
 go_wp2_with fail
 refine (psame (c := 0) (r := q) _ (Ff.out.keeps keepsB) (Fp_.out.keeps keepsB)).mono ?_
 rintro e w2 ⟨rfl, hb2⟩
 have st : Steps _ w2 := hb2
 have sk : Below w1.heap.size w1 w2 := belowA st
 replace B := below_steps B (Nat.le_refl _) sk
 have og : Blk w2 (w1.heap.size) 27 #[.bool p_1, .slice p_2 p_3 p_4, .bool p_5, .slice p_6 p_7 p_8] := Blk.stepsK st
 replace ok := ok.steps sk
 replace Ff := Hid.mk_ (Ff.out.steps sk)
 replace Fp_ := Hid.mk_ (Fp_.out.steps sk)
 clear st sk ck0 ck1 ck2 ck3 lk
 go_wp2_with fail
 go_returns
 exact ⟨rfl, belowB⟩
theorem ints4 {w : World} {g : Nat} {t : TypeId} {x y z u : Int} (h : Blk w g t #[.int .i64 x, .int .i64 y, .int .i64 z, .int .i64 u]) : IntsR w (.slice (some ⟨g, 0, none⟩) 4 4) [x, y, z, u] := by
 refine ⟨_, _, rfl, Nat.le_refl _, fun _ => ⟨g, 0, rfl, h.lt, fun k hk => ?_⟩⟩
 have hk' : k < 4 := hk
 rcases (show k = 0 ∨ k = 1 ∨ k = 2 ∨ k = 3 by omega) with rfl | rfl | rfl | rfl
 · exact h.c 0 rfl
 · exact h.c 1 rfl
 · exact h.c 2 rfl
 · exact h.c 3 rfl
theorem lalive07 (w : World) : Calls Tryz.prog 20 #[] w fun e w' => e = .returned (.bool true) ∧ Steps w w' := by
 have LN : gvn.length = 5 := rfl
 have Ca : ∀ w' v, IntsR w' v gvn → Calls Tryz.prog 10 #[v] w' fun e w2 => ∃ u, e = .returned (.tuple #[u, .int .i64 0]) ∧ FR w2 u (((22 : Int) : Rat) / ((1 : Int) : Rat)) ∧ Steps w' w2 := fun w' v h => by
  have := vMean w' h (by rw [LN]; decide)
  rw [gv_ask, gv_mean] at this
  exact this
 have Ia := fun (w' : World) (f1 f5 : Bool) (f2 f6 : Option Addr) (f3 f4 f7 f8 : Nat) (h : FR w' (.agg #[.bool f1, .slice f2 f3 f4, .bool f5, .slice f6 f7 f8]) _) => lis 22 1 w' h (by decide) (by decide) (by decide) (by decide) (by decide)
 generalize ((22 : Int) : Rat) / ((1 : Int) : Rat) = qa at *
 have Cb : ∀ w' v, IntsR w' v gvn → Calls Tryz.prog 25 #[v] w' fun e w2 => ∃ u, e = .returned (.tuple #[u, .int .i64 0]) ∧ FR w2 u (((3 : Int) : Rat) / ((1 : Int) : Rat)) ∧ Steps w' w2 := fun w' v h => by
  have := vMedian w' h (by rw [LN]; decide) (fun _ => by rw [LN]; decide)
  rw [gv_ask, gv_med] at this
  exact this
 have Ib := fun (w' : World) (f1 f5 : Bool) (f2 f6 : Option Addr) (f3 f4 f7 f8 : Nat) (h : FR w' (.agg #[.bool f1, .slice f2 f3 f4, .bool f5, .slice f6 f7 f8]) _) => lis 3 1 w' h (by decide) (by decide) (by decide) (by decide) (by decide)
 generalize ((3 : Int) : Rat) / ((1 : Int) : Rat) = qb at *
 have Cc : ∀ w' v, IntsR w' v gvn → Calls Tryz.prog 30 #[v] w' fun e w2 => ∃ u, e = .returned (.tuple #[u, .int .i64 0]) ∧ FR w2 u (((1 : Int) : Rat) / ((1 : Int) : Rat)) ∧ Steps w' w2 := fun w' v h => by
  have := vDeviation w' h (by rw [LN]; decide) (fun _ => by rw [LN]; decide)
  rw [gv_ask, gv_dvn] at this
  exact this
 have Ic := fun (w' : World) (f1 f5 : Bool) (f2 f6 : Option Addr) (f3 f4 f7 f8 : Nat) (h : FR w' (.agg #[.bool f1, .slice f2 f3 f4, .bool f5, .slice f6 f7 f8]) _) => lis 1 1 w' h (by decide) (by decide) (by decide) (by decide) (by decide)
 generalize ((1 : Int) : Rat) / ((1 : Int) : Rat) = qc at *
 have Cd : ∀ w' v, IntsR w' v gvn → Calls Tryz.prog 12 #[v] w' fun e w2 => ∃ u, e = .returned (.tuple #[u, .int .i64 0]) ∧ FR w2 u (((1522 : Int) : Rat) / ((1 : Int) : Rat)) ∧ Steps w' w2 := fun w' v h => by
  have := vVariance w' h (by rw [LN]; decide)
  rw [gv_ask, gv_var] at this
  exact this
 have Id := fun (w' : World) (f1 f5 : Bool) (f2 f6 : Option Addr) (f3 f4 f7 f8 : Nat) (h : FR w' (.agg #[.bool f1, .slice f2 f3 f4, .bool f5, .slice f6 f7 f8]) _) => lis 1522 1 w' h (by decide) (by decide) (by decide) (by decide) (by decide)
 generalize ((1522 : Int) : Rat) / ((1 : Int) : Rat) = qd at *
 have Z := fun w' => lof07 3 2 w' (by decide) (by decide) (by decide) (by decide) (by decide)
 have Z4 : ∀ r, some (((3 : Int) : Rat) / ((2 : Int) : Rat)) = some r → sz r 4 := fun r e => by injection e with e; subst e; unfold sz; decide +kernel
 have CC : ∀ w' v k, IntsR w' v gvn → FR w' k (((3 : Int) : Rat) / ((2 : Int) : Rat)) → Calls Tryz.prog 14 #[v, k] w' fun e w2 => ∃ u, e = .returned (.tuple #[u, .int .i64 1, .int .i64 0]) ∧ IntsR w2 u [0, 1, 2, 3] ∧ Steps w' w2 := fun w' v k h hk => by
  have := vClip (o := some (((3 : Int) : Rat) / ((2 : Int) : Rat))) w' h (by rw [LN]; decide) hk Z4
  rw [gv_clip] at this
  exact this
 have CT : ∀ w' v k, IntsR w' v gvn → FR w' k (((3 : Int) : Rat) / ((2 : Int) : Rat)) → Calls Tryz.prog 16 #[v, k] w' fun e w2 => ∃ u, e = .returned (.tuple #[u, .int .i64 0]) ∧ FR w2 u (((5 : Int) : Rat) / ((2 : Int) : Rat)) ∧ Steps w' w2 := fun w' v k h hk => by
  have := vTrimmed (o := some (((3 : Int) : Rat) / ((2 : Int) : Rat))) w' h (by rw [LN]; decide) hk Z4
  rw [gv_clip, show (([0, 1, 2, 3], 1, 0) : List Nat × Nat × Int).1 = [0, 1, 2, 3] from rfl, gv_trim] at this
  exact this
 have It := fun (w' : World) (f1 f5 : Bool) (f2 f6 : Option Addr) (f3 f4 f7 f8 : Nat) (h : FR w' (.agg #[.bool f1, .slice f2 f3 f4, .bool f5, .slice f6 f7 f8]) _) => lis 5 2 w' h (by decide) (by decide) (by decide) (by decide) (by decide)
 generalize ((5 : Int) : Rat) / ((2 : Int) : Rat) = qt at *
 generalize ((3 : Int) : Rat) / ((2 : Int) : Rat) = qk at *
 clear Z4
 have GV := @lgiven07
 rw [show gvn = gvn from rfl] at *
 generalize gvn = gl at *
 go_enter Tryz.func20, Tryz.ntmps20
 go_wp2_with fail
 refine (GV _).mono ?_
 rintro e w1 ⟨vG1_, rfl, hvG1_, hb1⟩
 have st : Steps _ w1 := hb1
 have B : Below w.heap.size w w1 := belowA st
 clear st
 obtain ⟨G1_a, G1_c, rfl⟩ := hvG1_.shape
 rw [LN] at hvG1_ ⊢
 have FG1_ := Hid.mk_ hvG1_
 clear hvG1_
 go_wp2_with fail
 refine (Ca _ _ (FG1_.out.steps belowB)).mono ?_
 rintro e w2 ⟨va_, rfl, hva_, hb2⟩
 have st : Steps _ w2 := hb2
 have sk : Below w1.heap.size w1 w2 := belowA st
 replace B := below_steps B (Nat.le_refl _) sk
 replace FG1_ := Hid.mk_ (FG1_.out.steps sk)
 clear st sk
 obtain ⟨a_1, a_2, a_3, a_4, a_5, a_6, a_7, a_8, rfl⟩ := hva_.shape
 have Fa_ := Hid.mk_ hva_
 clear hva_
 have zz2 := B.size
 go_wp2_with fail
 refine (GV _).mono ?_
 rintro e w3 ⟨vG2_, rfl, hvG2_, hb3⟩
 have st : Steps _ w3 := hb3
 have sk : Below w2.heap.size w2 w3 := belowA st
 replace B := below_steps B (Nat.le_refl _) sk
 have ova : Blk w3 (w2.heap.size) 27 #[.bool a_1, .slice a_2 a_3 a_4, .bool a_5, .slice a_6 a_7 a_8] := Blk.stepsK st
 replace FG1_ := Hid.mk_ (FG1_.out.steps sk)
 replace Fa_ := Hid.mk_ (Fa_.out.steps sk)
 clear st sk
 obtain ⟨G2_a, G2_c, rfl⟩ := hvG2_.shape
 rw [LN] at hvG2_ ⊢
 have FG2_ := Hid.mk_ hvG2_
 clear hvG2_
 go_wp2_with fail
 refine (Cb _ _ (FG2_.out.steps belowB)).mono ?_
 rintro e w4 ⟨vb_, rfl, hvb_, hb4⟩
 have st : Steps _ w4 := hb4
 have sk : Below w3.heap.size w3 w4 := belowA st
 replace B := below_steps B (Nat.le_refl _) sk
 replace ova := ova.steps sk
 replace FG1_ := Hid.mk_ (FG1_.out.steps sk)
 replace Fa_ := Hid.mk_ (Fa_.out.steps sk)
 replace FG2_ := Hid.mk_ (FG2_.out.steps sk)
 clear st sk
 obtain ⟨b_1, b_2, b_3, b_4, b_5, b_6, b_7, b_8, rfl⟩ := hvb_.shape
 have Fb_ := Hid.mk_ hvb_
 clear hvb_
 have zva_4 : w2.heap.size < w4.heap.size := ova.lt
 have zz4 := B.size
 go_wp2_with fail
 refine (GV _).mono ?_
 rintro e w5 ⟨vG3_, rfl, hvG3_, hb5⟩
 have st : Steps _ w5 := hb5
 have sk : Below w4.heap.size w4 w5 := belowA st
 replace B := below_steps B (Nat.le_refl _) sk
 have ovb : Blk w5 (w4.heap.size) 27 #[.bool b_1, .slice b_2 b_3 b_4, .bool b_5, .slice b_6 b_7 b_8] := Blk.stepsK st
 replace ova := ova.steps sk
 replace FG1_ := Hid.mk_ (FG1_.out.steps sk)
 replace Fa_ := Hid.mk_ (Fa_.out.steps sk)
 replace FG2_ := Hid.mk_ (FG2_.out.steps sk)
 replace Fb_ := Hid.mk_ (Fb_.out.steps sk)
 clear st sk
 obtain ⟨G3_a, G3_c, rfl⟩ := hvG3_.shape
 rw [LN] at hvG3_ ⊢
 have FG3_ := Hid.mk_ hvG3_
 clear hvG3_
 go_wp2_with fail
 refine (Cc _ _ (FG3_.out.steps belowB)).mono ?_
 rintro e w6 ⟨vc_, rfl, hvc_, hb6⟩
 have st : Steps _ w6 := hb6
 have sk : Below w5.heap.size w5 w6 := belowA st
 replace B := below_steps B (Nat.le_refl _) sk
 replace ova := ova.steps sk
 replace ovb := ovb.steps sk
 replace FG1_ := Hid.mk_ (FG1_.out.steps sk)
 replace Fa_ := Hid.mk_ (Fa_.out.steps sk)
 replace FG2_ := Hid.mk_ (FG2_.out.steps sk)
 replace Fb_ := Hid.mk_ (Fb_.out.steps sk)
 replace FG3_ := Hid.mk_ (FG3_.out.steps sk)
 clear st sk
 obtain ⟨c_1, c_2, c_3, c_4, c_5, c_6, c_7, c_8, rfl⟩ := hvc_.shape
 have Fc_ := Hid.mk_ hvc_
 clear hvc_
 have zvb_6 : w4.heap.size < w6.heap.size := ovb.lt
 have zz6 := B.size
 go_wp2_with fail
 refine (GV _).mono ?_
 rintro e w7 ⟨vG4_, rfl, hvG4_, hb7⟩
 have st : Steps _ w7 := hb7
 have sk : Below w6.heap.size w6 w7 := belowA st
 replace B := below_steps B (Nat.le_refl _) sk
 have ovc : Blk w7 (w6.heap.size) 27 #[.bool c_1, .slice c_2 c_3 c_4, .bool c_5, .slice c_6 c_7 c_8] := Blk.stepsK st
 replace ova := ova.steps sk
 replace ovb := ovb.steps sk
 replace FG1_ := Hid.mk_ (FG1_.out.steps sk)
 replace Fa_ := Hid.mk_ (Fa_.out.steps sk)
 replace FG2_ := Hid.mk_ (FG2_.out.steps sk)
 replace Fb_ := Hid.mk_ (Fb_.out.steps sk)
 replace FG3_ := Hid.mk_ (FG3_.out.steps sk)
 replace Fc_ := Hid.mk_ (Fc_.out.steps sk)
 clear st sk
 obtain ⟨G4_a, G4_c, rfl⟩ := hvG4_.shape
 rw [LN] at hvG4_ ⊢
 have FG4_ := Hid.mk_ hvG4_
 clear hvG4_
 go_wp2_with fail
 refine (Cd _ _ (FG4_.out.steps belowB)).mono ?_
 rintro e w8 ⟨vd_, rfl, hvd_, hb8⟩
 have st : Steps _ w8 := hb8
 have sk : Below w7.heap.size w7 w8 := belowA st
 replace B := below_steps B (Nat.le_refl _) sk
 replace ova := ova.steps sk
 replace ovb := ovb.steps sk
 replace ovc := ovc.steps sk
 replace FG1_ := Hid.mk_ (FG1_.out.steps sk)
 replace Fa_ := Hid.mk_ (Fa_.out.steps sk)
 replace FG2_ := Hid.mk_ (FG2_.out.steps sk)
 replace Fb_ := Hid.mk_ (Fb_.out.steps sk)
 replace FG3_ := Hid.mk_ (FG3_.out.steps sk)
 replace Fc_ := Hid.mk_ (Fc_.out.steps sk)
 replace FG4_ := Hid.mk_ (FG4_.out.steps sk)
 clear st sk
 obtain ⟨d_1, d_2, d_3, d_4, d_5, d_6, d_7, d_8, rfl⟩ := hvd_.shape
 have Fd_ := Hid.mk_ hvd_
 clear hvd_
 have zvc_8 : w6.heap.size < w8.heap.size := ovc.lt
 have zz8 := B.size
 go_wp2_with fail
 refine (GV _).mono ?_
 rintro e w9 ⟨vG5_, rfl, hvG5_, hb9⟩
 have st : Steps _ w9 := hb9
 have sk : Below w8.heap.size w8 w9 := belowA st
 replace B := below_steps B (Nat.le_refl _) sk
 have ovd : Blk w9 (w8.heap.size) 27 #[.bool d_1, .slice d_2 d_3 d_4, .bool d_5, .slice d_6 d_7 d_8] := Blk.stepsK st
 replace ova := ova.steps sk
 replace ovb := ovb.steps sk
 replace ovc := ovc.steps sk
 replace FG1_ := Hid.mk_ (FG1_.out.steps sk)
 replace Fa_ := Hid.mk_ (Fa_.out.steps sk)
 replace FG2_ := Hid.mk_ (FG2_.out.steps sk)
 replace Fb_ := Hid.mk_ (Fb_.out.steps sk)
 replace FG3_ := Hid.mk_ (FG3_.out.steps sk)
 replace Fc_ := Hid.mk_ (Fc_.out.steps sk)
 replace FG4_ := Hid.mk_ (FG4_.out.steps sk)
 replace Fd_ := Hid.mk_ (Fd_.out.steps sk)
 clear st sk
 obtain ⟨G5_a, G5_c, rfl⟩ := hvG5_.shape
 rw [LN] at hvG5_ ⊢
 have FG5_ := Hid.mk_ hvG5_
 clear hvG5_
 go_wp2_with fail
 refine (Z _).mono ?_
 rintro e w10 ⟨vk1_, rfl, hvk1_, hb10⟩
 have st : Steps _ w10 := hb10
 have sk : Below w9.heap.size w9 w10 := belowA st
 replace B := below_steps B (Nat.le_refl _) sk
 replace ova := ova.steps sk
 replace ovb := ovb.steps sk
 replace ovc := ovc.steps sk
 replace ovd := ovd.steps sk
 replace FG1_ := Hid.mk_ (FG1_.out.steps sk)
 replace Fa_ := Hid.mk_ (Fa_.out.steps sk)
 replace FG2_ := Hid.mk_ (FG2_.out.steps sk)
 replace Fb_ := Hid.mk_ (Fb_.out.steps sk)
 replace FG3_ := Hid.mk_ (FG3_.out.steps sk)
 replace Fc_ := Hid.mk_ (Fc_.out.steps sk)
 replace FG4_ := Hid.mk_ (FG4_.out.steps sk)
 replace Fd_ := Hid.mk_ (Fd_.out.steps sk)
 replace FG5_ := Hid.mk_ (FG5_.out.steps sk)
 clear st sk
 obtain ⟨k1_1, k1_2, k1_3, k1_4, k1_5, k1_6, k1_7, k1_8, rfl⟩ := hvk1_.shape
 have Fk1_ := Hid.mk_ hvk1_
 clear hvk1_
 go_wp2_with fail
 refine (CC _ _ _ (FG5_.out.steps belowB) (Fk1_.out.keeps keepsB)).mono ?_
 rintro e w11 ⟨vu, rfl, hvu, hb11⟩
 have st : Steps _ w11 := hb11
 have sk : Below w10.heap.size w10 w11 := belowA st
 replace B := below_steps B (Nat.le_refl _) sk
 replace ova := ova.steps sk
 replace ovb := ovb.steps sk
 replace ovc := ovc.steps sk
 replace ovd := ovd.steps sk
 replace FG1_ := Hid.mk_ (FG1_.out.steps sk)
 replace Fa_ := Hid.mk_ (Fa_.out.steps sk)
 replace FG2_ := Hid.mk_ (FG2_.out.steps sk)
 replace Fb_ := Hid.mk_ (Fb_.out.steps sk)
 replace FG3_ := Hid.mk_ (FG3_.out.steps sk)
 replace Fc_ := Hid.mk_ (Fc_.out.steps sk)
 replace FG4_ := Hid.mk_ (FG4_.out.steps sk)
 replace Fd_ := Hid.mk_ (Fd_.out.steps sk)
 replace FG5_ := Hid.mk_ (FG5_.out.steps sk)
 replace Fk1_ := Hid.mk_ (Fk1_.out.steps sk)
 clear st sk
 obtain ⟨ua, uc, rfl⟩ := hvu.shape
 have Fu := Hid.mk_ hvu
 clear hvu
 go_wp2_with fail
 refine (GV _).mono ?_
 rintro e w12 ⟨vG6_, rfl, hvG6_, hb12⟩
 have st : Steps _ w12 := hb12
 have sk : Below w11.heap.size w11 w12 := belowA st
 replace B := below_steps B (Nat.le_refl _) sk
 replace ova := ova.steps sk
 replace ovb := ovb.steps sk
 replace ovc := ovc.steps sk
 replace ovd := ovd.steps sk
 replace FG1_ := Hid.mk_ (FG1_.out.steps sk)
 replace Fa_ := Hid.mk_ (Fa_.out.steps sk)
 replace FG2_ := Hid.mk_ (FG2_.out.steps sk)
 replace Fb_ := Hid.mk_ (Fb_.out.steps sk)
 replace FG3_ := Hid.mk_ (FG3_.out.steps sk)
 replace Fc_ := Hid.mk_ (Fc_.out.steps sk)
 replace FG4_ := Hid.mk_ (FG4_.out.steps sk)
 replace Fd_ := Hid.mk_ (Fd_.out.steps sk)
 replace FG5_ := Hid.mk_ (FG5_.out.steps sk)
 replace Fk1_ := Hid.mk_ (Fk1_.out.steps sk)
 replace Fu := Hid.mk_ (Fu.out.steps sk)
 clear st sk
 obtain ⟨G6_a, G6_c, rfl⟩ := hvG6_.shape
 rw [LN] at hvG6_ ⊢
 have FG6_ := Hid.mk_ hvG6_
 clear hvG6_
 go_wp2_with fail
 refine (Z _).mono ?_
 rintro e w13 ⟨vk2_, rfl, hvk2_, hb13⟩
 have st : Steps _ w13 := hb13
 have sk : Below w12.heap.size w12 w13 := belowA st
 replace B := below_steps B (Nat.le_refl _) sk
 replace ova := ova.steps sk
 replace ovb := ovb.steps sk
 replace ovc := ovc.steps sk
 replace ovd := ovd.steps sk
 replace FG1_ := Hid.mk_ (FG1_.out.steps sk)
 replace Fa_ := Hid.mk_ (Fa_.out.steps sk)
 replace FG2_ := Hid.mk_ (FG2_.out.steps sk)
 replace Fb_ := Hid.mk_ (Fb_.out.steps sk)
 replace FG3_ := Hid.mk_ (FG3_.out.steps sk)
 replace Fc_ := Hid.mk_ (Fc_.out.steps sk)
 replace FG4_ := Hid.mk_ (FG4_.out.steps sk)
 replace Fd_ := Hid.mk_ (Fd_.out.steps sk)
 replace FG5_ := Hid.mk_ (FG5_.out.steps sk)
 replace Fk1_ := Hid.mk_ (Fk1_.out.steps sk)
 replace Fu := Hid.mk_ (Fu.out.steps sk)
 replace FG6_ := Hid.mk_ (FG6_.out.steps sk)
 clear st sk
 obtain ⟨k2_1, k2_2, k2_3, k2_4, k2_5, k2_6, k2_7, k2_8, rfl⟩ := hvk2_.shape
 have Fk2_ := Hid.mk_ hvk2_
 clear hvk2_
 go_wp2_with fail
 refine (CT _ _ _ (FG6_.out.steps belowB) (Fk2_.out.keeps keepsB)).mono ?_
 rintro e w14 ⟨vt_, rfl, hvt_, hb14⟩
 have st : Steps _ w14 := hb14
 have sk : Below w13.heap.size w13 w14 := belowA st
 replace B := below_steps B (Nat.le_refl _) sk
 replace ova := ova.steps sk
 replace ovb := ovb.steps sk
 replace ovc := ovc.steps sk
 replace ovd := ovd.steps sk
 replace FG1_ := Hid.mk_ (FG1_.out.steps sk)
 replace Fa_ := Hid.mk_ (Fa_.out.steps sk)
 replace FG2_ := Hid.mk_ (FG2_.out.steps sk)
 replace Fb_ := Hid.mk_ (Fb_.out.steps sk)
 replace FG3_ := Hid.mk_ (FG3_.out.steps sk)
 replace Fc_ := Hid.mk_ (Fc_.out.steps sk)
 replace FG4_ := Hid.mk_ (FG4_.out.steps sk)
 replace Fd_ := Hid.mk_ (Fd_.out.steps sk)
 replace FG5_ := Hid.mk_ (FG5_.out.steps sk)
 replace Fk1_ := Hid.mk_ (Fk1_.out.steps sk)
 replace Fu := Hid.mk_ (Fu.out.steps sk)
 replace FG6_ := Hid.mk_ (FG6_.out.steps sk)
 replace Fk2_ := Hid.mk_ (Fk2_.out.steps sk)
 clear st sk
 obtain ⟨cva0, cva1, cva2, cva3⟩ := ova.r3
 have lva := ova.lt
 obtain ⟨t_1, t_2, t_3, t_4, t_5, t_6, t_7, t_8, rfl⟩ := hvt_.shape
 have Ft_ := Hid.mk_ hvt_
 clear hvt_
 have zvd_14 : w8.heap.size < w14.heap.size := ovd.lt
 have zz14 := B.size
 go_wp2_with fail
 refine (Ia _ _ _ _ _ _ _ _ _ (Fa_.out.keeps keepsB)).mono ?_
 rintro e w15 ⟨rfl, hb15⟩
 have st : Steps _ w15 := hb15
 have sk : Below w14.heap.size w14 w15 := belowA st
 replace B := below_steps B (Nat.le_refl _) sk
 have ovt : Blk w15 (w14.heap.size) 27 #[.bool t_1, .slice t_2 t_3 t_4, .bool t_5, .slice t_6 t_7 t_8] := Blk.stepsK st
 replace ova := ova.steps sk
 replace ovb := ovb.steps sk
 replace ovc := ovc.steps sk
 replace ovd := ovd.steps sk
 replace FG1_ := Hid.mk_ (FG1_.out.steps sk)
 replace Fa_ := Hid.mk_ (Fa_.out.steps sk)
 replace FG2_ := Hid.mk_ (FG2_.out.steps sk)
 replace Fb_ := Hid.mk_ (Fb_.out.steps sk)
 replace FG3_ := Hid.mk_ (FG3_.out.steps sk)
 replace Fc_ := Hid.mk_ (Fc_.out.steps sk)
 replace FG4_ := Hid.mk_ (FG4_.out.steps sk)
 replace Fd_ := Hid.mk_ (Fd_.out.steps sk)
 replace FG5_ := Hid.mk_ (FG5_.out.steps sk)
 replace Fk1_ := Hid.mk_ (Fk1_.out.steps sk)
 replace Fu := Hid.mk_ (Fu.out.steps sk)
 replace FG6_ := Hid.mk_ (FG6_.out.steps sk)
 replace Fk2_ := Hid.mk_ (Fk2_.out.steps sk)
 replace Ft_ := Hid.mk_ (Ft_.out.steps sk)
 clear st sk cva0 cva1 cva2 cva3 lva
 obtain ⟨cvb0, cvb1, cvb2, cvb3⟩ := ovb.r3
 have lvb := ovb.lt
 go_wp2_with fail
 refine (Ib _ _ _ _ _ _ _ _ _ (Fb_.out.keeps keepsB)).mono ?_
 rintro e w16 ⟨rfl, hb16⟩
 have st : Steps _ w16 := hb16
 have sk : Below w15.heap.size w15 w16 := belowA st
 replace B := below_steps B (Nat.le_refl _) sk
 replace ova := ova.steps sk
 replace ovb := ovb.steps sk
 replace ovc := ovc.steps sk
 replace ovd := ovd.steps sk
 replace ovt := ovt.steps sk
 replace FG1_ := Hid.mk_ (FG1_.out.steps sk)
 replace Fa_ := Hid.mk_ (Fa_.out.steps sk)
 replace FG2_ := Hid.mk_ (FG2_.out.steps sk)
 replace Fb_ := Hid.mk_ (Fb_.out.steps sk)
 replace FG3_ := Hid.mk_ (FG3_.out.steps sk)
 replace Fc_ := Hid.mk_ (Fc_.out.steps sk)
 replace FG4_ := Hid.mk_ (FG4_.out.steps sk)
 replace Fd_ := Hid.mk_ (Fd_.out.steps sk)
 replace FG5_ := Hid.mk_ (FG5_.out.steps sk)
 replace Fk1_ := Hid.mk_ (Fk1_.out.steps sk)
 replace Fu := Hid.mk_ (Fu.out.steps sk)
 replace FG6_ := Hid.mk_ (FG6_.out.steps sk)
 replace Fk2_ := Hid.mk_ (Fk2_.out.steps sk)
 replace Ft_ := Hid.mk_ (Ft_.out.steps sk)
 clear st sk cvb0 cvb1 cvb2 cvb3 lvb
 obtain ⟨cvc0, cvc1, cvc2, cvc3⟩ := ovc.r3
 have lvc := ovc.lt
 go_wp2_with fail
 refine (Ic _ _ _ _ _ _ _ _ _ (Fc_.out.keeps keepsB)).mono ?_
 rintro e w17 ⟨rfl, hb17⟩
 have st : Steps _ w17 := hb17
 have sk : Below w16.heap.size w16 w17 := belowA st
 replace B := below_steps B (Nat.le_refl _) sk
 replace ova := ova.steps sk
 replace ovb := ovb.steps sk
 replace ovc := ovc.steps sk
 replace ovd := ovd.steps sk
 replace ovt := ovt.steps sk
 replace FG1_ := Hid.mk_ (FG1_.out.steps sk)
 replace Fa_ := Hid.mk_ (Fa_.out.steps sk)
 replace FG2_ := Hid.mk_ (FG2_.out.steps sk)
 replace Fb_ := Hid.mk_ (Fb_.out.steps sk)
 replace FG3_ := Hid.mk_ (FG3_.out.steps sk)
 replace Fc_ := Hid.mk_ (Fc_.out.steps sk)
 replace FG4_ := Hid.mk_ (FG4_.out.steps sk)
 replace Fd_ := Hid.mk_ (Fd_.out.steps sk)
 replace FG5_ := Hid.mk_ (FG5_.out.steps sk)
 replace Fk1_ := Hid.mk_ (Fk1_.out.steps sk)
 replace Fu := Hid.mk_ (Fu.out.steps sk)
 replace FG6_ := Hid.mk_ (FG6_.out.steps sk)
 replace Fk2_ := Hid.mk_ (Fk2_.out.steps sk)
 replace Ft_ := Hid.mk_ (Ft_.out.steps sk)
 clear st sk cvc0 cvc1 cvc2 cvc3 lvc
 obtain ⟨cvd0, cvd1, cvd2, cvd3⟩ := ovd.r3
 have lvd := ovd.lt
 go_wp2_with fail
 refine (Id _ _ _ _ _ _ _ _ _ (Fd_.out.keeps keepsB)).mono ?_
 rintro e w18 ⟨rfl, hb18⟩
 have st : Steps _ w18 := hb18
 have sk : Below w17.heap.size w17 w18 := belowA st
 replace B := below_steps B (Nat.le_refl _) sk
 replace ova := ova.steps sk
 replace ovb := ovb.steps sk
 replace ovc := ovc.steps sk
 replace ovd := ovd.steps sk
 replace ovt := ovt.steps sk
 replace FG1_ := Hid.mk_ (FG1_.out.steps sk)
 replace Fa_ := Hid.mk_ (Fa_.out.steps sk)
 replace FG2_ := Hid.mk_ (FG2_.out.steps sk)
 replace Fb_ := Hid.mk_ (Fb_.out.steps sk)
 replace FG3_ := Hid.mk_ (FG3_.out.steps sk)
 replace Fc_ := Hid.mk_ (Fc_.out.steps sk)
 replace FG4_ := Hid.mk_ (FG4_.out.steps sk)
 replace Fd_ := Hid.mk_ (Fd_.out.steps sk)
 replace FG5_ := Hid.mk_ (FG5_.out.steps sk)
 replace Fk1_ := Hid.mk_ (Fk1_.out.steps sk)
 replace Fu := Hid.mk_ (Fu.out.steps sk)
 replace FG6_ := Hid.mk_ (FG6_.out.steps sk)
 replace Fk2_ := Hid.mk_ (Fk2_.out.steps sk)
 replace Ft_ := Hid.mk_ (Ft_.out.steps sk)
 clear st sk cvd0 cvd1 cvd2 cvd3 lvd
 have zvt_18 : w14.heap.size < w18.heap.size := ovt.lt
 have zz18 := B.size
 go_wp2_with fail
 refine (rsameInts (l := [0, 1, 2, 3]) _ (Fu.out.steps belowB) (ints4 ownK) (by decide)).mono ?_
 rintro e w19 ⟨rfl, hb19⟩
 have st : Steps _ w19 := hb19
 have sk : Below w18.heap.size w18 w19 := belowA st
 replace B := below_steps B (Nat.le_refl _) sk
 replace ova := ova.steps sk
 replace ovb := ovb.steps sk
 replace ovc := ovc.steps sk
 replace ovd := ovd.steps sk
 replace ovt := ovt.steps sk
 replace FG1_ := Hid.mk_ (FG1_.out.steps sk)
 replace Fa_ := Hid.mk_ (Fa_.out.steps sk)
 replace FG2_ := Hid.mk_ (FG2_.out.steps sk)
 replace Fb_ := Hid.mk_ (Fb_.out.steps sk)
 replace FG3_ := Hid.mk_ (FG3_.out.steps sk)
 replace Fc_ := Hid.mk_ (Fc_.out.steps sk)
 replace FG4_ := Hid.mk_ (FG4_.out.steps sk)
 replace Fd_ := Hid.mk_ (Fd_.out.steps sk)
 replace FG5_ := Hid.mk_ (FG5_.out.steps sk)
 replace Fk1_ := Hid.mk_ (Fk1_.out.steps sk)
 replace Fu := Hid.mk_ (Fu.out.steps sk)
 replace FG6_ := Hid.mk_ (FG6_.out.steps sk)
 replace Fk2_ := Hid.mk_ (Fk2_.out.steps sk)
 replace Ft_ := Hid.mk_ (Ft_.out.steps sk)
 clear st sk
 obtain ⟨cvt0, cvt1, cvt2, cvt3⟩ := ovt.r3
 have lvt := ovt.lt
 go_wp2_with fail
 refine (It _ _ _ _ _ _ _ _ _ (Ft_.out.keeps keepsB)).mono ?_
 rintro e w20 ⟨rfl, hb20⟩
 have st : Steps _ w20 := hb20
 have sk : Below w19.heap.size w19 w20 := belowA st
 replace B := below_steps B (Nat.le_refl _) sk
 replace ova := ova.steps sk
 replace ovb := ovb.steps sk
 replace ovc := ovc.steps sk
 replace ovd := ovd.steps sk
 replace ovt := ovt.steps sk
 replace FG1_ := Hid.mk_ (FG1_.out.steps sk)
 replace Fa_ := Hid.mk_ (Fa_.out.steps sk)
 replace FG2_ := Hid.mk_ (FG2_.out.steps sk)
 replace Fb_ := Hid.mk_ (Fb_.out.steps sk)
 replace FG3_ := Hid.mk_ (FG3_.out.steps sk)
 replace Fc_ := Hid.mk_ (Fc_.out.steps sk)
 replace FG4_ := Hid.mk_ (FG4_.out.steps sk)
 replace Fd_ := Hid.mk_ (Fd_.out.steps sk)
 replace FG5_ := Hid.mk_ (FG5_.out.steps sk)
 replace Fk1_ := Hid.mk_ (Fk1_.out.steps sk)
 replace Fu := Hid.mk_ (Fu.out.steps sk)
 replace FG6_ := Hid.mk_ (FG6_.out.steps sk)
 replace Fk2_ := Hid.mk_ (Fk2_.out.steps sk)
 replace Ft_ := Hid.mk_ (Ft_.out.steps sk)
 clear st sk cvt0 cvt1 cvt2 cvt3 lvt
 go_wp2_with fail
 go_returns
 exact ⟨rfl, belowB⟩
theorem intsw1 {w : World} {g : Nat} {t : TypeId} {x0 : Int} (h : Blk w g t #[.int .i64 x0]) : IntsR w (.slice (some ⟨g, 0, none⟩) 1 1) [x0] := by
 refine ⟨_, _, rfl, Nat.le_refl _, fun _ => ⟨g, 0, rfl, h.lt, fun k hk => ?_⟩⟩
 have hk' : k < 1 := hk
 rcases (show k = 0 by omega) with rfl
 · exact h.c 0 rfl
theorem intsw2 {w : World} {g : Nat} {t : TypeId} {x0 x1 : Int} (h : Blk w g t #[.int .i64 x0, .int .i64 x1]) : IntsR w (.slice (some ⟨g, 0, none⟩) 2 2) [x0, x1] := by
 refine ⟨_, _, rfl, Nat.le_refl _, fun _ => ⟨g, 0, rfl, h.lt, fun k hk => ?_⟩⟩
 have hk' : k < 2 := hk
 rcases (show k = 0 ∨ k = 1 by omega) with rfl | rfl
 · exact h.c 0 rfl
 · exact h.c 1 rfl
theorem intsw3 {w : World} {g : Nat} {t : TypeId} {x0 x1 x2 : Int} (h : Blk w g t #[.int .i64 x0, .int .i64 x1, .int .i64 x2]) : IntsR w (.slice (some ⟨g, 0, none⟩) 3 3) [x0, x1, x2] := by
 refine ⟨_, _, rfl, Nat.le_refl _, fun _ => ⟨g, 0, rfl, h.lt, fun k hk => ?_⟩⟩
 have hk' : k < 3 := hk
 rcases (show k = 0 ∨ k = 1 ∨ k = 2 by omega) with rfl | rfl | rfl
 · exact h.c 0 rfl
 · exact h.c 1 rfl
 · exact h.c 2 rfl
theorem intsw4 {w : World} {g : Nat} {t : TypeId} {x0 x1 x2 x3 : Int} (h : Blk w g t #[.int .i64 x0, .int .i64 x1, .int .i64 x2, .int .i64 x3]) : IntsR w (.slice (some ⟨g, 0, none⟩) 4 4) [x0, x1, x2, x3] := by
 refine ⟨_, _, rfl, Nat.le_refl _, fun _ => ⟨g, 0, rfl, h.lt, fun k hk => ?_⟩⟩
 have hk' : k < 4 := hk
 rcases (show k = 0 ∨ k = 1 ∨ k = 2 ∨ k = 3 by omega) with rfl | rfl | rfl | rfl
 · exact h.c 0 rfl
 · exact h.c 1 rfl
 · exact h.c 2 rfl
 · exact h.c 3 rfl
theorem made_get {n k : Nat} (hk : k < n) : (madeCells #[.int .i64 0] n)[k]? = some (.int .i64 0) := by
 have hs : (madeCells #[Value.int .i64 0] n).size = n := size_madeCells _ _
 rw [Array.getElem?_eq_getElem (by omega)]
 have hm := Array.getElem_mem (xs := madeCells #[Value.int .i64 0] n) (i := k) (by omega)
 generalize (madeCells #[Value.int .i64 0] n)[k] = z at *
 unfold madeCells at hm
 rw [Array.mem_map] at hm
 obtain ⟨a, -, e⟩ := hm
 rw [← e, show (#[Value.int .i64 0] : Array Value).size = 1 from rfl, Nat.mod_one]
 rfl
theorem zeros_ints {w : World} {g : Nat} {t : TypeId} (h : Blk w g t (madeCells #[.int .i64 0] 1001)) : IntsR w (.slice (some ⟨g, 0, none⟩) 1001 1001) (List.replicate 1001 0) := by
 refine ⟨some ⟨g, 0, none⟩, 1001, by rw [List.length_replicate], by rw [List.length_replicate]; exact Nat.le_refl _, fun _ => ⟨g, 0, rfl, h.lt, fun k hk => ?_⟩⟩
 rw [List.length_replicate] at hk
 rw [h.cell, Nat.zero_add]
 rw [made_get hk]
 rw [List.getD_eq_getElem?_getD, List.getElem?_replicate, if_pos hk]
 rfl
theorem bad_zeroV (w : World) : FB w (.agg #[.bool false, .slice none 0 0, .bool false, .slice none 0 0]) none :=
 ⟨_, _, _, _, [], [], rfl, Lim.nil w, Lim.nil w, fun h => h.2.2.2.1 rfl⟩
theorem ask_many : askV (List.replicate 1001 0) = 4 := by unfold askV chkV; rw [List.length_replicate]; rfl
theorem srt_nm : srt [4, 1, 3, 10] = [1, 3, 4, 10] := (srt_of (by decide) (by unfold Asc; decide)).symm
theorem med_nm : medQ [4, 1, 3, 10] = ((7 : Int) : Rat) / ((2 : Int) : Rat) := by
 unfold medQ
 rw [show twI [4, 1, 3, 10] = 7 from by unfold twI; rw [srt_nm]; decide]
theorem pct_gv (num den : Int) (h1 : 1 ≤ den) (h2 : den ≤ 1000) (h3 : 0 ≤ num) (h4 : num ≤ den) : pctS gvn num den = (gvn.getD (pctI 5 num den) 0, 0) := by
 unfold pctS
 rw [if_pos gv_ask, if_neg (by omega), srt_gv]; rfl
theorem pct_no (num den : Int) (h : den < 1 ∨ 1000 < den ∨ num < 0 ∨ den < num) : pctS gvn num den = (0, 2) := by
 unfold pctS
 rw [if_pos gv_ask, if_pos h]
theorem clip_no (o : Option Rat) (h : facB o = false) : clipS gvn o = ([], 0, 2) := by
 unfold clipS
 rw [if_pos gv_ask, h]; rfl
theorem names_walk (w : World) : Calls Tryz.prog 5 #[] w fun e w' => e = .returned (.bool true) ∧ Steps w w' := by
 have LN : gvn.length = 5 := rfl
 have CM : ∀ w', Calls Tryz.prog 10 #[.slice none 0 0] w' fun e w2 => e = .returned (.tuple #[.agg #[.bool false, .slice none 0 0, .bool false, .slice none 0 0], .int .i64 6]) ∧ Steps w' w2 := fun w' => by
  refine (vMean w' (IntsR.nil w') (by decide)).mono ?_
  rintro e w2 ⟨v, rfl, hv, hs⟩
  rw [show askV [] = 6 from by decide +kernel] at hv ⊢
  unfold FE at hv
  rw [if_neg (by decide)] at hv
  subst hv
  exact ⟨rfl, hs⟩
 have CZ : ∀ w' v, IntsR w' v (List.replicate 1001 0) → Calls Tryz.prog 25 #[v] w' fun e w2 => e = .returned (.tuple #[.agg #[.bool false, .slice none 0 0, .bool false, .slice none 0 0], .int .i64 4]) ∧ Steps w' w2 := fun w' v h => by
  refine (vMedian w' h (by rw [List.length_replicate]; decide) (fun e => by rw [ask_many] at e; cases e)).mono ?_
  rintro e w2 ⟨v, rfl, hv, hs⟩
  rw [ask_many] at hv ⊢
  unfold FE at hv
  rw [if_neg (by decide)] at hv
  subst hv
  exact ⟨rfl, hs⟩
 have CV : ∀ w' v, IntsR w' v [4294967296, -4294967297] → Calls Tryz.prog 12 #[v] w' fun e w2 => e = .returned (.tuple #[.agg #[.bool false, .slice none 0 0, .bool false, .slice none 0 0], .int .i64 8]) ∧ Steps w' w2 := fun w' v h => by
  refine (vVariance w' h (by decide)).mono ?_
  rintro e w2 ⟨v, rfl, hv, hs⟩
  rw [show askV [4294967296, -4294967297] = 8 from by decide +kernel] at hv ⊢
  unfold FE at hv
  rw [if_neg (by decide)] at hv
  subst hv
  exact ⟨rfl, hs⟩
 have P0 : ∀ w' v, IntsR w' v gvn → Calls Tryz.prog 26 #[v, .int .i64 1, .int .i64 2] w' fun e w2 => e = .returned (.tuple #[.int .i64 3, .int .i64 0]) ∧ Steps w' w2 := fun w' v h => by
  have := vPercentile 1 2 w' h (by rw [LN]; decide) (fun _ => by rw [LN]; decide) (by decide) (by decide)
  rw [show pctS gvn 1 2 = (3, 0) from by rw [pct_gv _ _ (by decide) (by decide) (by decide) (by decide)]; decide] at this
  exact this
 have P1 : ∀ w' v, IntsR w' v gvn → Calls Tryz.prog 26 #[v, .int .i64 0, .int .i64 1] w' fun e w2 => e = .returned (.tuple #[.int .i64 1, .int .i64 0]) ∧ Steps w' w2 := fun w' v h => by
  have := vPercentile 0 1 w' h (by rw [LN]; decide) (fun _ => by rw [LN]; decide) (by decide) (by decide)
  rw [show pctS gvn 0 1 = (1, 0) from by rw [pct_gv _ _ (by decide) (by decide) (by decide) (by decide)]; decide] at this
  exact this
 have P2 : ∀ w' v, IntsR w' v gvn → Calls Tryz.prog 26 #[v, .int .i64 1000, .int .i64 1000] w' fun e w2 => e = .returned (.tuple #[.int .i64 100, .int .i64 0]) ∧ Steps w' w2 := fun w' v h => by
  have := vPercentile 1000 1000 w' h (by rw [LN]; decide) (fun _ => by rw [LN]; decide) (by decide) (by decide)
  rw [show pctS gvn 1000 1000 = (100, 0) from by rw [pct_gv _ _ (by decide) (by decide) (by decide) (by decide)]; decide] at this
  exact this
 have P3 : ∀ w' v, IntsR w' v gvn → Calls Tryz.prog 26 #[v, .int .i64 2, .int .i64 1] w' fun e w2 => e = .returned (.tuple #[.int .i64 0, .int .i64 2]) ∧ Steps w' w2 := fun w' v h => by
  have := vPercentile 2 1 w' h (by rw [LN]; decide) (fun _ => by rw [LN]; decide) (by decide) (by decide)
  rw [pct_no 2 1 (by decide)] at this
  exact this
 have P4 : ∀ w' v, IntsR w' v gvn → Calls Tryz.prog 26 #[v, .int .i64 1, .int .i64 1001] w' fun e w2 => e = .returned (.tuple #[.int .i64 0, .int .i64 2]) ∧ Steps w' w2 := fun w' v h => by
  have := vPercentile 1 1001 w' h (by rw [LN]; decide) (fun _ => by rw [LN]; decide) (by decide) (by decide)
  rw [pct_no 1 1001 (by decide)] at this
  exact this
 have O0 := fun w' => lof07 999 1000 w' (by decide) (by decide) (by decide) (by decide) (by decide)
 have K0 : ∀ w' v k, IntsR w' v gvn → FR w' k (((999 : Int) : Rat) / ((1000 : Int) : Rat)) → Calls Tryz.prog 14 #[v, k] w' fun e w2 => ∃ a c, e = .returned (.tuple #[.slice a 0 c, .int .i64 0, .int .i64 2]) ∧ Steps w' w2 := fun w' v k h hk => by
  have := vClip (o := some (((999 : Int) : Rat) / ((1000 : Int) : Rat))) w' h (by first | (rw [LN]; decide) | decide) hk (fun r e => by injection e with e; subst e; unfold sz; decide +kernel)
  rw [clip_no _ (by decide +kernel)] at this
  refine this.mono ?_
  rintro e w2 ⟨u, rfl, hu, hs⟩
  obtain ⟨ua, uc, rfl⟩ := hu.shape
  exact ⟨_, _, rfl, hs⟩
 generalize ((999 : Int) : Rat) / ((1000 : Int) : Rat) = q0 at O0 K0
 have O1 := fun w' => lof07 1001 1 w' (by decide) (by decide) (by decide) (by decide) (by decide)
 have K1 : ∀ w' v k, IntsR w' v gvn → FR w' k (((1001 : Int) : Rat) / ((1 : Int) : Rat)) → Calls Tryz.prog 14 #[v, k] w' fun e w2 => ∃ a c, e = .returned (.tuple #[.slice a 0 c, .int .i64 0, .int .i64 2]) ∧ Steps w' w2 := fun w' v k h hk => by
  have := vClip (o := some (((1001 : Int) : Rat) / ((1 : Int) : Rat))) w' h (by first | (rw [LN]; decide) | decide) hk (fun r e => by injection e with e; subst e; unfold sz; decide +kernel)
  rw [clip_no _ (by decide +kernel)] at this
  refine this.mono ?_
  rintro e w2 ⟨u, rfl, hu, hs⟩
  obtain ⟨ua, uc, rfl⟩ := hu.shape
  exact ⟨_, _, rfl, hs⟩
 generalize ((1001 : Int) : Rat) / ((1 : Int) : Rat) = q1 at O1 K1
 have O2 := fun w' => lof07 1 1 w' (by decide) (by decide) (by decide) (by decide) (by decide)
 have K2 : ∀ w' v k, IntsR w' v [5, 5, 5] → FR w' k (((1 : Int) : Rat) / ((1 : Int) : Rat)) → Calls Tryz.prog 14 #[v, k] w' fun e w2 => ∃ a c, e = .returned (.tuple #[.slice a 3 c, .int .i64 0, .int .i64 0]) ∧ Steps w' w2 := fun w' v k h hk => by
  have := vClip (o := some (((1 : Int) : Rat) / ((1 : Int) : Rat))) w' h (by first | (rw [LN]; decide) | decide) hk (fun r e => by injection e with e; subst e; unfold sz; decide +kernel)
  rw [show clipS [5, 5, 5] (some (((1 : Int) : Rat) / ((1 : Int) : Rat))) = ([0, 1, 2], 0, 0) from by decide +kernel] at this
  refine this.mono ?_
  rintro e w2 ⟨u, rfl, hu, hs⟩
  obtain ⟨ua, uc, rfl⟩ := hu.shape
  exact ⟨_, _, rfl, hs⟩
 generalize ((1 : Int) : Rat) / ((1 : Int) : Rat) = q2 at O2 K2
 have K3 : ∀ w' v, IntsR w' v gvn → Calls Tryz.prog 14 #[v, .agg #[.bool false, .slice none 0 0, .bool false, .slice none 0 0]] w' fun e w2 => ∃ a c, e = .returned (.tuple #[.slice a 0 c, .int .i64 0, .int .i64 2]) ∧ Steps w' w2 := fun w' v h => by
  have := vClip (o := none) w' h (by rw [LN]; decide) (bad_zeroV w') (fun r e => by cases e)
  rw [clip_no none rfl] at this
  refine this.mono ?_
  rintro e w2 ⟨u, rfl, hu, hs⟩
  obtain ⟨ua, uc, rfl⟩ := hu.shape
  exact ⟨_, _, rfl, hs⟩
 have CE : ∀ w' v, IntsR w' v [4, 1, 3, 10] → Calls Tryz.prog 25 #[v] w' fun e w2 => ∃ u, e = .returned (.tuple #[u, .int .i64 0]) ∧ FR w2 u (((7 : Int) : Rat) / ((2 : Int) : Rat)) ∧ Steps w' w2 := fun w' v h => by
  have := vMedian w' h (by decide) (fun _ => by decide)
  rw [show askV [4, 1, 3, 10] = 0 from by decide +kernel, med_nm] at this
  exact this
 have CO : ∀ w' v, IntsR w' v [-7] → Calls Tryz.prog 12 #[v] w' fun e w2 => ∃ u, e = .returned (.tuple #[u, .int .i64 0]) ∧ FR w2 u (((0 : Int) : Rat) / ((1 : Int) : Rat)) ∧ Steps w' w2 := fun w' v h => by
  have := vVariance w' h (by decide)
  rw [show askV [-7] = 0 from by decide +kernel, show varQ [-7] = ((0 : Int) : Rat) / ((1 : Int) : Rat) from by decide +kernel] at this
  exact this
 have IE := fun (w' : World) (f1 f5 : Bool) (f2 f6 : Option Addr) (f3 f4 f7 f8 : Nat) (h : FR w' (.agg #[.bool f1, .slice f2 f3 f4, .bool f5, .slice f6 f7 f8]) _) => lis 7 2 w' h (by decide) (by decide) (by decide) (by decide) (by decide)
 have IO := fun (w' : World) (f1 f5 : Bool) (f2 f6 : Option Addr) (f3 f4 f7 f8 : Nat) (h : FR w' (.agg #[.bool f1, .slice f2 f3 f4, .bool f5, .slice f6 f7 f8]) _) => lis 0 1 w' h (by decide) (by decide) (by decide) (by decide) (by decide)
 generalize ((7 : Int) : Rat) / ((2 : Int) : Rat) = qe at *
 generalize ((0 : Int) : Rat) / ((1 : Int) : Rat) = qo at *
 have CK : ∀ w', Calls Tryz.prog 29 #[.slice none 0 0] w' fun e w2 => e = .returned (.int .i64 0) ∧ Steps w' w2 := fun w' => by
  have := vcheck w' (IntsR.nil w') (by decide)
  rw [show chkV [] = 0 from by decide +kernel] at this
  exact this
 have GV := @lgiven07
 generalize gvn = gl at *
 have hmk : ∀ w, (Instr.makeSlice 22 (.int .i64 1001) (.int .i64 1001)).run Tryz.prog w = .ok (.slice (some ⟨w.heap.size, 0, none⟩) 1001 1001) (w.alloc (.cells (madeCells #[.int .i64 0] 1001) 2)) := fun w => make_i64s 1001 (by omega) w
 go_enter Tryz.func5, Tryz.ntmps5
 go_wp2_with fail
 refine (CM _).mono ?_
 rintro e w1 ⟨rfl, hb1⟩
 have st : Steps _ w1 := hb1
 have B : Below w.heap.size w w1 := belowA st
 clear st
 have zz1 := B.size
 go_wp2_with fail
 refine (CZ _ _ (zeros_ints ownK)).mono ?_
 rintro e w2 ⟨rfl, hb2⟩
 have st : Steps _ w2 := hb2
 have sk : Below w1.heap.size w1 w2 := belowA st
 replace B := below_steps B (Nat.le_refl _) sk
 have ova : Blk w2 (w1.heap.size) 27 #[.bool false, .slice none 0 0, .bool false, .slice none 0 0] := Blk.stepsK st
 clear st sk
 have zva_2 : w1.heap.size < w2.heap.size := ova.lt
 have zz2 := B.size
 go_wp2_with fail
 refine (CV _ _ (intsw2 ownK)).mono ?_
 rintro e w3 ⟨rfl, hb3⟩
 have st : Steps _ w3 := hb3
 have sk : Below w2.heap.size w2 w3 := belowA st
 replace B := below_steps B (Nat.le_refl _) sk
 have ovb : Blk w3 (w2.heap.size) 27 #[.bool false, .slice none 0 0, .bool false, .slice none 0 0] := Blk.stepsK st
 replace ova := ova.steps sk
 clear st sk
 have zvb_3 : w2.heap.size < w3.heap.size := ovb.lt
 have zz3 := B.size
 go_wp2_with fail
 refine (GV _).mono ?_
 rintro e w4 ⟨vG1_, rfl, hvG1_, hb4⟩
 have st : Steps _ w4 := hb4
 have sk : Below w3.heap.size w3 w4 := belowA st
 replace B := below_steps B (Nat.le_refl _) sk
 have ovc : Blk w4 (w3.heap.size) 27 #[.bool false, .slice none 0 0, .bool false, .slice none 0 0] := Blk.stepsK st
 replace ova := ova.steps sk
 replace ovb := ovb.steps sk
 clear st sk
 obtain ⟨G1_a, G1_c, rfl⟩ := hvG1_.shape
 rw [LN] at hvG1_ ⊢
 have FG1_ := Hid.mk_ hvG1_
 clear hvG1_
 go_wp2_with fail
 refine (P0 _ _ (FG1_.out.steps belowB)).mono ?_
 rintro e w5 ⟨rfl, hb5⟩
 have st : Steps _ w5 := hb5
 have sk : Below w4.heap.size w4 w5 := belowA st
 replace B := below_steps B (Nat.le_refl _) sk
 replace ova := ova.steps sk
 replace ovb := ovb.steps sk
 replace ovc := ovc.steps sk
 replace FG1_ := Hid.mk_ (FG1_.out.steps sk)
 clear st sk
 go_wp2_with fail
 refine (GV _).mono ?_
 rintro e w6 ⟨vG2_, rfl, hvG2_, hb6⟩
 have st : Steps _ w6 := hb6
 have sk : Below w5.heap.size w5 w6 := belowA st
 replace B := below_steps B (Nat.le_refl _) sk
 replace ova := ova.steps sk
 replace ovb := ovb.steps sk
 replace ovc := ovc.steps sk
 replace FG1_ := Hid.mk_ (FG1_.out.steps sk)
 clear st sk
 obtain ⟨G2_a, G2_c, rfl⟩ := hvG2_.shape
 rw [LN] at hvG2_ ⊢
 have FG2_ := Hid.mk_ hvG2_
 clear hvG2_
 go_wp2_with fail
 refine (P1 _ _ (FG2_.out.steps belowB)).mono ?_
 rintro e w7 ⟨rfl, hb7⟩
 have st : Steps _ w7 := hb7
 have sk : Below w6.heap.size w6 w7 := belowA st
 replace B := below_steps B (Nat.le_refl _) sk
 replace ova := ova.steps sk
 replace ovb := ovb.steps sk
 replace ovc := ovc.steps sk
 replace FG1_ := Hid.mk_ (FG1_.out.steps sk)
 replace FG2_ := Hid.mk_ (FG2_.out.steps sk)
 clear st sk
 go_wp2_with fail
 refine (GV _).mono ?_
 rintro e w8 ⟨vG3_, rfl, hvG3_, hb8⟩
 have st : Steps _ w8 := hb8
 have sk : Below w7.heap.size w7 w8 := belowA st
 replace B := below_steps B (Nat.le_refl _) sk
 replace ova := ova.steps sk
 replace ovb := ovb.steps sk
 replace ovc := ovc.steps sk
 replace FG1_ := Hid.mk_ (FG1_.out.steps sk)
 replace FG2_ := Hid.mk_ (FG2_.out.steps sk)
 clear st sk
 obtain ⟨G3_a, G3_c, rfl⟩ := hvG3_.shape
 rw [LN] at hvG3_ ⊢
 have FG3_ := Hid.mk_ hvG3_
 clear hvG3_
 go_wp2_with fail
 refine (P2 _ _ (FG3_.out.steps belowB)).mono ?_
 rintro e w9 ⟨rfl, hb9⟩
 have st : Steps _ w9 := hb9
 have sk : Below w8.heap.size w8 w9 := belowA st
 replace B := below_steps B (Nat.le_refl _) sk
 replace ova := ova.steps sk
 replace ovb := ovb.steps sk
 replace ovc := ovc.steps sk
 replace FG1_ := Hid.mk_ (FG1_.out.steps sk)
 replace FG2_ := Hid.mk_ (FG2_.out.steps sk)
 replace FG3_ := Hid.mk_ (FG3_.out.steps sk)
 clear st sk
 go_wp2_with fail
 refine (GV _).mono ?_
 rintro e w10 ⟨vG4_, rfl, hvG4_, hb10⟩
 have st : Steps _ w10 := hb10
 have sk : Below w9.heap.size w9 w10 := belowA st
 replace B := below_steps B (Nat.le_refl _) sk
 replace ova := ova.steps sk
 replace ovb := ovb.steps sk
 replace ovc := ovc.steps sk
 replace FG1_ := Hid.mk_ (FG1_.out.steps sk)
 replace FG2_ := Hid.mk_ (FG2_.out.steps sk)
 replace FG3_ := Hid.mk_ (FG3_.out.steps sk)
 clear st sk
 obtain ⟨G4_a, G4_c, rfl⟩ := hvG4_.shape
 rw [LN] at hvG4_ ⊢
 have FG4_ := Hid.mk_ hvG4_
 clear hvG4_
 go_wp2_with fail
 refine (P3 _ _ (FG4_.out.steps belowB)).mono ?_
 rintro e w11 ⟨rfl, hb11⟩
 have st : Steps _ w11 := hb11
 have sk : Below w10.heap.size w10 w11 := belowA st
 replace B := below_steps B (Nat.le_refl _) sk
 replace ova := ova.steps sk
 replace ovb := ovb.steps sk
 replace ovc := ovc.steps sk
 replace FG1_ := Hid.mk_ (FG1_.out.steps sk)
 replace FG2_ := Hid.mk_ (FG2_.out.steps sk)
 replace FG3_ := Hid.mk_ (FG3_.out.steps sk)
 replace FG4_ := Hid.mk_ (FG4_.out.steps sk)
 clear st sk
 go_wp2_with fail
 refine (GV _).mono ?_
 rintro e w12 ⟨vG5_, rfl, hvG5_, hb12⟩
 have st : Steps _ w12 := hb12
 have sk : Below w11.heap.size w11 w12 := belowA st
 replace B := below_steps B (Nat.le_refl _) sk
 replace ova := ova.steps sk
 replace ovb := ovb.steps sk
 replace ovc := ovc.steps sk
 replace FG1_ := Hid.mk_ (FG1_.out.steps sk)
 replace FG2_ := Hid.mk_ (FG2_.out.steps sk)
 replace FG3_ := Hid.mk_ (FG3_.out.steps sk)
 replace FG4_ := Hid.mk_ (FG4_.out.steps sk)
 clear st sk
 obtain ⟨G5_a, G5_c, rfl⟩ := hvG5_.shape
 rw [LN] at hvG5_ ⊢
 have FG5_ := Hid.mk_ hvG5_
 clear hvG5_
 go_wp2_with fail
 refine (P4 _ _ (FG5_.out.steps belowB)).mono ?_
 rintro e w13 ⟨rfl, hb13⟩
 have st : Steps _ w13 := hb13
 have sk : Below w12.heap.size w12 w13 := belowA st
 replace B := below_steps B (Nat.le_refl _) sk
 replace ova := ova.steps sk
 replace ovb := ovb.steps sk
 replace ovc := ovc.steps sk
 replace FG1_ := Hid.mk_ (FG1_.out.steps sk)
 replace FG2_ := Hid.mk_ (FG2_.out.steps sk)
 replace FG3_ := Hid.mk_ (FG3_.out.steps sk)
 replace FG4_ := Hid.mk_ (FG4_.out.steps sk)
 replace FG5_ := Hid.mk_ (FG5_.out.steps sk)
 clear st sk
 go_wp2_with fail
 refine (GV _).mono ?_
 rintro e w14 ⟨vG6_, rfl, hvG6_, hb14⟩
 have st : Steps _ w14 := hb14
 have sk : Below w13.heap.size w13 w14 := belowA st
 replace B := below_steps B (Nat.le_refl _) sk
 replace ova := ova.steps sk
 replace ovb := ovb.steps sk
 replace ovc := ovc.steps sk
 replace FG1_ := Hid.mk_ (FG1_.out.steps sk)
 replace FG2_ := Hid.mk_ (FG2_.out.steps sk)
 replace FG3_ := Hid.mk_ (FG3_.out.steps sk)
 replace FG4_ := Hid.mk_ (FG4_.out.steps sk)
 replace FG5_ := Hid.mk_ (FG5_.out.steps sk)
 clear st sk
 obtain ⟨G6_a, G6_c, rfl⟩ := hvG6_.shape
 rw [LN] at hvG6_ ⊢
 have FG6_ := Hid.mk_ hvG6_
 clear hvG6_
 go_wp2_with fail
 refine (O0 _).mono ?_
 rintro e w15 ⟨vk0_, rfl, hvk0_, hb15⟩
 have st : Steps _ w15 := hb15
 have sk : Below w14.heap.size w14 w15 := belowA st
 replace B := below_steps B (Nat.le_refl _) sk
 replace ova := ova.steps sk
 replace ovb := ovb.steps sk
 replace ovc := ovc.steps sk
 replace FG1_ := Hid.mk_ (FG1_.out.steps sk)
 replace FG2_ := Hid.mk_ (FG2_.out.steps sk)
 replace FG3_ := Hid.mk_ (FG3_.out.steps sk)
 replace FG4_ := Hid.mk_ (FG4_.out.steps sk)
 replace FG5_ := Hid.mk_ (FG5_.out.steps sk)
 replace FG6_ := Hid.mk_ (FG6_.out.steps sk)
 clear st sk
 obtain ⟨k0_1, k0_2, k0_3, k0_4, k0_5, k0_6, k0_7, k0_8, rfl⟩ := hvk0_.shape
 have Fk0_ := Hid.mk_ hvk0_
 clear hvk0_
 go_wp2_with fail
 refine (K0 _ _ _ (FG6_.out.steps belowB) (Fk0_.out.keeps keepsB)).mono ?_
 rintro e w16 ⟨x0a, x0c, rfl, hb16⟩
 have st : Steps _ w16 := hb16
 have sk : Below w15.heap.size w15 w16 := belowA st
 replace B := below_steps B (Nat.le_refl _) sk
 replace ova := ova.steps sk
 replace ovb := ovb.steps sk
 replace ovc := ovc.steps sk
 replace FG1_ := Hid.mk_ (FG1_.out.steps sk)
 replace FG2_ := Hid.mk_ (FG2_.out.steps sk)
 replace FG3_ := Hid.mk_ (FG3_.out.steps sk)
 replace FG4_ := Hid.mk_ (FG4_.out.steps sk)
 replace FG5_ := Hid.mk_ (FG5_.out.steps sk)
 replace FG6_ := Hid.mk_ (FG6_.out.steps sk)
 replace Fk0_ := Hid.mk_ (Fk0_.out.steps sk)
 clear st sk
 go_wp2_with fail
 refine (GV _).mono ?_
 rintro e w17 ⟨vG7_, rfl, hvG7_, hb17⟩
 have st : Steps _ w17 := hb17
 have sk : Below w16.heap.size w16 w17 := belowA st
 replace B := below_steps B (Nat.le_refl _) sk
 replace ova := ova.steps sk
 replace ovb := ovb.steps sk
 replace ovc := ovc.steps sk
 replace FG1_ := Hid.mk_ (FG1_.out.steps sk)
 replace FG2_ := Hid.mk_ (FG2_.out.steps sk)
 replace FG3_ := Hid.mk_ (FG3_.out.steps sk)
 replace FG4_ := Hid.mk_ (FG4_.out.steps sk)
 replace FG5_ := Hid.mk_ (FG5_.out.steps sk)
 replace FG6_ := Hid.mk_ (FG6_.out.steps sk)
 replace Fk0_ := Hid.mk_ (Fk0_.out.steps sk)
 clear st sk
 obtain ⟨G7_a, G7_c, rfl⟩ := hvG7_.shape
 rw [LN] at hvG7_ ⊢
 have FG7_ := Hid.mk_ hvG7_
 clear hvG7_
 go_wp2_with fail
 refine (O1 _).mono ?_
 rintro e w18 ⟨vk1_, rfl, hvk1_, hb18⟩
 have st : Steps _ w18 := hb18
 have sk : Below w17.heap.size w17 w18 := belowA st
 replace B := below_steps B (Nat.le_refl _) sk
 replace ova := ova.steps sk
 replace ovb := ovb.steps sk
 replace ovc := ovc.steps sk
 replace FG1_ := Hid.mk_ (FG1_.out.steps sk)
 replace FG2_ := Hid.mk_ (FG2_.out.steps sk)
 replace FG3_ := Hid.mk_ (FG3_.out.steps sk)
 replace FG4_ := Hid.mk_ (FG4_.out.steps sk)
 replace FG5_ := Hid.mk_ (FG5_.out.steps sk)
 replace FG6_ := Hid.mk_ (FG6_.out.steps sk)
 replace Fk0_ := Hid.mk_ (Fk0_.out.steps sk)
 replace FG7_ := Hid.mk_ (FG7_.out.steps sk)
 clear st sk
 obtain ⟨k1_1, k1_2, k1_3, k1_4, k1_5, k1_6, k1_7, k1_8, rfl⟩ := hvk1_.shape
 have Fk1_ := Hid.mk_ hvk1_
 clear hvk1_
 go_wp2_with fail
 refine (K1 _ _ _ (FG7_.out.steps belowB) (Fk1_.out.keeps keepsB)).mono ?_
 rintro e w19 ⟨x1a, x1c, rfl, hb19⟩
 have st : Steps _ w19 := hb19
 have sk : Below w18.heap.size w18 w19 := belowA st
 replace B := below_steps B (Nat.le_refl _) sk
 replace ova := ova.steps sk
 replace ovb := ovb.steps sk
 replace ovc := ovc.steps sk
 replace FG1_ := Hid.mk_ (FG1_.out.steps sk)
 replace FG2_ := Hid.mk_ (FG2_.out.steps sk)
 replace FG3_ := Hid.mk_ (FG3_.out.steps sk)
 replace FG4_ := Hid.mk_ (FG4_.out.steps sk)
 replace FG5_ := Hid.mk_ (FG5_.out.steps sk)
 replace FG6_ := Hid.mk_ (FG6_.out.steps sk)
 replace Fk0_ := Hid.mk_ (Fk0_.out.steps sk)
 replace FG7_ := Hid.mk_ (FG7_.out.steps sk)
 replace Fk1_ := Hid.mk_ (Fk1_.out.steps sk)
 clear st sk
 have zvc_19 : w3.heap.size < w19.heap.size := ovc.lt
 have zz19 := B.size
 go_wp2_with fail
 refine (O2 _).mono ?_
 rintro e w20 ⟨vk2_, rfl, hvk2_, hb20⟩
 have st : Steps _ w20 := hb20
 have sk : Below w19.heap.size w19 w20 := belowA st
 replace B := below_steps B (Nat.le_refl _) sk
 have osl89 : Blk w20 (w19.heap.size) 2 #[.int .i64 5, .int .i64 5, .int .i64 5] := Blk.stepsK st
 replace ova := ova.steps sk
 replace ovb := ovb.steps sk
 replace ovc := ovc.steps sk
 replace FG1_ := Hid.mk_ (FG1_.out.steps sk)
 replace FG2_ := Hid.mk_ (FG2_.out.steps sk)
 replace FG3_ := Hid.mk_ (FG3_.out.steps sk)
 replace FG4_ := Hid.mk_ (FG4_.out.steps sk)
 replace FG5_ := Hid.mk_ (FG5_.out.steps sk)
 replace FG6_ := Hid.mk_ (FG6_.out.steps sk)
 replace Fk0_ := Hid.mk_ (Fk0_.out.steps sk)
 replace FG7_ := Hid.mk_ (FG7_.out.steps sk)
 replace Fk1_ := Hid.mk_ (Fk1_.out.steps sk)
 clear st sk
 obtain ⟨k2_1, k2_2, k2_3, k2_4, k2_5, k2_6, k2_7, k2_8, rfl⟩ := hvk2_.shape
 have Fk2_ := Hid.mk_ hvk2_
 clear hvk2_
 go_wp2_with fail
 refine (K2 _ _ _ (intsw3 ownK) (Fk2_.out.keeps keepsB)).mono ?_
 rintro e w21 ⟨x2a, x2c, rfl, hb21⟩
 have st : Steps _ w21 := hb21
 have sk : Below w20.heap.size w20 w21 := belowA st
 replace B := below_steps B (Nat.le_refl _) sk
 replace ova := ova.steps sk
 replace ovb := ovb.steps sk
 replace ovc := ovc.steps sk
 replace osl89 := osl89.steps sk
 replace FG1_ := Hid.mk_ (FG1_.out.steps sk)
 replace FG2_ := Hid.mk_ (FG2_.out.steps sk)
 replace FG3_ := Hid.mk_ (FG3_.out.steps sk)
 replace FG4_ := Hid.mk_ (FG4_.out.steps sk)
 replace FG5_ := Hid.mk_ (FG5_.out.steps sk)
 replace FG6_ := Hid.mk_ (FG6_.out.steps sk)
 replace Fk0_ := Hid.mk_ (Fk0_.out.steps sk)
 replace FG7_ := Hid.mk_ (FG7_.out.steps sk)
 replace Fk1_ := Hid.mk_ (Fk1_.out.steps sk)
 replace Fk2_ := Hid.mk_ (Fk2_.out.steps sk)
 clear st sk
 go_wp2_with fail
 refine (GV _).mono ?_
 rintro e w22 ⟨vG8_, rfl, hvG8_, hb22⟩
 have st : Steps _ w22 := hb22
 have sk : Below w21.heap.size w21 w22 := belowA st
 replace B := below_steps B (Nat.le_refl _) sk
 replace ova := ova.steps sk
 replace ovb := ovb.steps sk
 replace ovc := ovc.steps sk
 replace osl89 := osl89.steps sk
 replace FG1_ := Hid.mk_ (FG1_.out.steps sk)
 replace FG2_ := Hid.mk_ (FG2_.out.steps sk)
 replace FG3_ := Hid.mk_ (FG3_.out.steps sk)
 replace FG4_ := Hid.mk_ (FG4_.out.steps sk)
 replace FG5_ := Hid.mk_ (FG5_.out.steps sk)
 replace FG6_ := Hid.mk_ (FG6_.out.steps sk)
 replace Fk0_ := Hid.mk_ (Fk0_.out.steps sk)
 replace FG7_ := Hid.mk_ (FG7_.out.steps sk)
 replace Fk1_ := Hid.mk_ (Fk1_.out.steps sk)
 replace Fk2_ := Hid.mk_ (Fk2_.out.steps sk)
 clear st sk
 obtain ⟨G8_a, G8_c, rfl⟩ := hvG8_.shape
 rw [LN] at hvG8_ ⊢
 have FG8_ := Hid.mk_ hvG8_
 clear hvG8_
 go_wp2_with fail
 refine (K3 _ _ (FG8_.out.steps belowB) ).mono ?_
 rintro e w23 ⟨x3a, x3c, rfl, hb23⟩
 have st : Steps _ w23 := hb23
 have sk : Below w22.heap.size w22 w23 := belowA st
 replace B := below_steps B (Nat.le_refl _) sk
 replace ova := ova.steps sk
 replace ovb := ovb.steps sk
 replace ovc := ovc.steps sk
 replace osl89 := osl89.steps sk
 replace FG1_ := Hid.mk_ (FG1_.out.steps sk)
 replace FG2_ := Hid.mk_ (FG2_.out.steps sk)
 replace FG3_ := Hid.mk_ (FG3_.out.steps sk)
 replace FG4_ := Hid.mk_ (FG4_.out.steps sk)
 replace FG5_ := Hid.mk_ (FG5_.out.steps sk)
 replace FG6_ := Hid.mk_ (FG6_.out.steps sk)
 replace Fk0_ := Hid.mk_ (Fk0_.out.steps sk)
 replace FG7_ := Hid.mk_ (FG7_.out.steps sk)
 replace Fk1_ := Hid.mk_ (Fk1_.out.steps sk)
 replace Fk2_ := Hid.mk_ (Fk2_.out.steps sk)
 replace FG8_ := Hid.mk_ (FG8_.out.steps sk)
 clear st sk
 have zsl89_23 : w19.heap.size < w23.heap.size := osl89.lt
 have zz23 := B.size
 go_wp2_with fail
 refine (CE _ _ (intsw4 ownK)).mono ?_
 rintro e w24 ⟨ve_, rfl, hve_, hb24⟩
 have st : Steps _ w24 := hb24
 have sk : Below w23.heap.size w23 w24 := belowA st
 replace B := below_steps B (Nat.le_refl _) sk
 replace ova := ova.steps sk
 replace ovb := ovb.steps sk
 replace ovc := ovc.steps sk
 replace osl89 := osl89.steps sk
 replace FG1_ := Hid.mk_ (FG1_.out.steps sk)
 replace FG2_ := Hid.mk_ (FG2_.out.steps sk)
 replace FG3_ := Hid.mk_ (FG3_.out.steps sk)
 replace FG4_ := Hid.mk_ (FG4_.out.steps sk)
 replace FG5_ := Hid.mk_ (FG5_.out.steps sk)
 replace FG6_ := Hid.mk_ (FG6_.out.steps sk)
 replace Fk0_ := Hid.mk_ (Fk0_.out.steps sk)
 replace FG7_ := Hid.mk_ (FG7_.out.steps sk)
 replace Fk1_ := Hid.mk_ (Fk1_.out.steps sk)
 replace Fk2_ := Hid.mk_ (Fk2_.out.steps sk)
 replace FG8_ := Hid.mk_ (FG8_.out.steps sk)
 clear st sk
 obtain ⟨e_1, e_2, e_3, e_4, e_5, e_6, e_7, e_8, rfl⟩ := hve_.shape
 have Fe_ := Hid.mk_ hve_
 clear hve_
 have zsl89_24 : w19.heap.size < w24.heap.size := osl89.lt
 have zz24 := B.size
 go_wp2_with fail
 refine (CO _ _ (intsw1 ownK)).mono ?_
 rintro e w25 ⟨vo_, rfl, hvo_, hb25⟩
 have st : Steps _ w25 := hb25
 have sk : Below w24.heap.size w24 w25 := belowA st
 replace B := below_steps B (Nat.le_refl _) sk
 have ove : Blk w25 (w24.heap.size) 27 #[.bool e_1, .slice e_2 e_3 e_4, .bool e_5, .slice e_6 e_7 e_8] := Blk.stepsK st
 replace ova := ova.steps sk
 replace ovb := ovb.steps sk
 replace ovc := ovc.steps sk
 replace osl89 := osl89.steps sk
 replace FG1_ := Hid.mk_ (FG1_.out.steps sk)
 replace FG2_ := Hid.mk_ (FG2_.out.steps sk)
 replace FG3_ := Hid.mk_ (FG3_.out.steps sk)
 replace FG4_ := Hid.mk_ (FG4_.out.steps sk)
 replace FG5_ := Hid.mk_ (FG5_.out.steps sk)
 replace FG6_ := Hid.mk_ (FG6_.out.steps sk)
 replace Fk0_ := Hid.mk_ (Fk0_.out.steps sk)
 replace FG7_ := Hid.mk_ (FG7_.out.steps sk)
 replace Fk1_ := Hid.mk_ (Fk1_.out.steps sk)
 replace Fk2_ := Hid.mk_ (Fk2_.out.steps sk)
 replace FG8_ := Hid.mk_ (FG8_.out.steps sk)
 replace Fe_ := Hid.mk_ (Fe_.out.steps sk)
 clear st sk
 obtain ⟨cve0, cve1, cve2, cve3⟩ := ove.r3
 have lve := ove.lt
 obtain ⟨o_1, o_2, o_3, o_4, o_5, o_6, o_7, o_8, rfl⟩ := hvo_.shape
 have Fo_ := Hid.mk_ hvo_
 clear hvo_
 have zve_25 : w24.heap.size < w25.heap.size := ove.lt
 have zz25 := B.size
 go_wp2_with fail
 refine (IE _ _ _ _ _ _ _ _ _ (Fe_.out.keeps keepsB)).mono ?_
 rintro e w26 ⟨rfl, hb26⟩
 have st : Steps _ w26 := hb26
 have sk : Below w25.heap.size w25 w26 := belowA st
 replace B := below_steps B (Nat.le_refl _) sk
 have ovo : Blk w26 (w25.heap.size) 27 #[.bool o_1, .slice o_2 o_3 o_4, .bool o_5, .slice o_6 o_7 o_8] := Blk.stepsK st
 replace ova := ova.steps sk
 replace ovb := ovb.steps sk
 replace ovc := ovc.steps sk
 replace osl89 := osl89.steps sk
 replace ove := ove.steps sk
 replace FG1_ := Hid.mk_ (FG1_.out.steps sk)
 replace FG2_ := Hid.mk_ (FG2_.out.steps sk)
 replace FG3_ := Hid.mk_ (FG3_.out.steps sk)
 replace FG4_ := Hid.mk_ (FG4_.out.steps sk)
 replace FG5_ := Hid.mk_ (FG5_.out.steps sk)
 replace FG6_ := Hid.mk_ (FG6_.out.steps sk)
 replace Fk0_ := Hid.mk_ (Fk0_.out.steps sk)
 replace FG7_ := Hid.mk_ (FG7_.out.steps sk)
 replace Fk1_ := Hid.mk_ (Fk1_.out.steps sk)
 replace Fk2_ := Hid.mk_ (Fk2_.out.steps sk)
 replace FG8_ := Hid.mk_ (FG8_.out.steps sk)
 replace Fe_ := Hid.mk_ (Fe_.out.steps sk)
 replace Fo_ := Hid.mk_ (Fo_.out.steps sk)
 clear st sk cve0 cve1 cve2 cve3 lve
 obtain ⟨cvo0, cvo1, cvo2, cvo3⟩ := ovo.r3
 have lvo := ovo.lt
 go_wp2_with fail
 refine (IO _ _ _ _ _ _ _ _ _ (Fo_.out.keeps keepsB)).mono ?_
 rintro e w27 ⟨rfl, hb27⟩
 have st : Steps _ w27 := hb27
 have sk : Below w26.heap.size w26 w27 := belowA st
 replace B := below_steps B (Nat.le_refl _) sk
 replace ova := ova.steps sk
 replace ovb := ovb.steps sk
 replace ovc := ovc.steps sk
 replace osl89 := osl89.steps sk
 replace ove := ove.steps sk
 replace ovo := ovo.steps sk
 replace FG1_ := Hid.mk_ (FG1_.out.steps sk)
 replace FG2_ := Hid.mk_ (FG2_.out.steps sk)
 replace FG3_ := Hid.mk_ (FG3_.out.steps sk)
 replace FG4_ := Hid.mk_ (FG4_.out.steps sk)
 replace FG5_ := Hid.mk_ (FG5_.out.steps sk)
 replace FG6_ := Hid.mk_ (FG6_.out.steps sk)
 replace Fk0_ := Hid.mk_ (Fk0_.out.steps sk)
 replace FG7_ := Hid.mk_ (FG7_.out.steps sk)
 replace Fk1_ := Hid.mk_ (Fk1_.out.steps sk)
 replace Fk2_ := Hid.mk_ (Fk2_.out.steps sk)
 replace FG8_ := Hid.mk_ (FG8_.out.steps sk)
 replace Fe_ := Hid.mk_ (Fe_.out.steps sk)
 replace Fo_ := Hid.mk_ (Fo_.out.steps sk)
 clear st sk cvo0 cvo1 cvo2 cvo3 lvo
 go_wp2_with fail
 refine (CK _).mono ?_
 rintro e w28 ⟨rfl, hb28⟩
 have st : Steps _ w28 := hb28
 have sk : Below w27.heap.size w27 w28 := belowA st
 replace B := below_steps B (Nat.le_refl _) sk
 replace ova := ova.steps sk
 replace ovb := ovb.steps sk
 replace ovc := ovc.steps sk
 replace osl89 := osl89.steps sk
 replace ove := ove.steps sk
 replace ovo := ovo.steps sk
 replace FG1_ := Hid.mk_ (FG1_.out.steps sk)
 replace FG2_ := Hid.mk_ (FG2_.out.steps sk)
 replace FG3_ := Hid.mk_ (FG3_.out.steps sk)
 replace FG4_ := Hid.mk_ (FG4_.out.steps sk)
 replace FG5_ := Hid.mk_ (FG5_.out.steps sk)
 replace FG6_ := Hid.mk_ (FG6_.out.steps sk)
 replace Fk0_ := Hid.mk_ (Fk0_.out.steps sk)
 replace FG7_ := Hid.mk_ (FG7_.out.steps sk)
 replace Fk1_ := Hid.mk_ (Fk1_.out.steps sk)
 replace Fk2_ := Hid.mk_ (Fk2_.out.steps sk)
 replace FG8_ := Hid.mk_ (FG8_.out.steps sk)
 replace Fe_ := Hid.mk_ (Fe_.out.steps sk)
 replace Fo_ := Hid.mk_ (Fo_.out.steps sk)
 clear st sk
 go_wp2_with fail
 refine (lalive07 _).mono ?_
 rintro e w29 ⟨rfl, hb29⟩
 have st : Steps _ w29 := hb29
 have sk : Below w28.heap.size w28 w29 := belowA st
 replace B := below_steps B (Nat.le_refl _) sk
 replace ova := ova.steps sk
 replace ovb := ovb.steps sk
 replace ovc := ovc.steps sk
 replace osl89 := osl89.steps sk
 replace ove := ove.steps sk
 replace ovo := ovo.steps sk
 replace FG1_ := Hid.mk_ (FG1_.out.steps sk)
 replace FG2_ := Hid.mk_ (FG2_.out.steps sk)
 replace FG3_ := Hid.mk_ (FG3_.out.steps sk)
 replace FG4_ := Hid.mk_ (FG4_.out.steps sk)
 replace FG5_ := Hid.mk_ (FG5_.out.steps sk)
 replace FG6_ := Hid.mk_ (FG6_.out.steps sk)
 replace Fk0_ := Hid.mk_ (Fk0_.out.steps sk)
 replace FG7_ := Hid.mk_ (FG7_.out.steps sk)
 replace Fk1_ := Hid.mk_ (Fk1_.out.steps sk)
 replace Fk2_ := Hid.mk_ (Fk2_.out.steps sk)
 replace FG8_ := Hid.mk_ (FG8_.out.steps sk)
 replace Fe_ := Hid.mk_ (Fe_.out.steps sk)
 replace Fo_ := Hid.mk_ (Fo_.out.steps sk)
 clear st sk
 go_wp2_with fail
 go_returns
 exact ⟨rfl, belowB⟩
end Go.Proofs.YtmpambmpknaldaaGreat
