import Derived.Test.YtibdehlmflaodaaCNp
import Derived.Test.YtibdehlmflaodaaCTz
namespace Go.Proofs.Ytibdehlmflaodaa
open Go.RowKit
def Bad (w : World) (v : Value) : Prop := ∃ gx sa gy sb la lb, v = .agg #[.bool gx, sa, .bool gy, sb] ∧ Lim w sa la ∧ Lim w sb lb ∧ ¬ validF gx la gy lb
theorem Bad.keeps {w w' : World} {v : Value} (h : Bad w v) (k : Keeps w w') : Bad w' v := by
  obtain ⟨gx, sa, gy, sb, la, lb, e, l1, l2, hv⟩ := h
  exact ⟨gx, sa, gy, sb, la, lb, e, k _ _ l1, k _ _ l2, hv⟩
theorem Bad.shape {w : World} {v : Value} (h : Bad w v) : ∃ a s n c b t m d, v = .agg #[.bool a, .slice s n c, .bool b, .slice t m d] := by
  obtain ⟨gx, sa, gy, sb, la, lb, e, l1, l2, hv⟩ := h
  obtain ⟨s, c, rfl⟩ := l1.shape
  obtain ⟨t, d, rfl⟩ := l2.shape
  exact ⟨_, _, _, _, _, _, _, _, e⟩
theorem raw_cases {w : World} {gx gy : Bool} {sa sb : Value} {la lb : List Int} (ha : Lim w sa la) (hb : Lim w sb lb) : (∃ r, FR w (.agg #[.bool gx, sa, .bool gy, sb]) r ∧ absN r.num ≤ bp la.length ∧ (r.den : Int) ≤ bp lb.length) ∨ Bad w (.agg #[.bool gx, sa, .bool gy, sb]) := by
  by_cases h : validF gx la gy lb
  · left
    obtain ⟨r, e1, e2, hr⟩ := (Frc.of_valid ha hb h).fr
    have h1 := lval_lt ha.ok
    have h2 := lval_lt hb.ok
    refine ⟨r, hr, ?_, by rw [e2]; omega⟩
    rw [e1, absN_zv gx (lval_nonneg ha.ok)]; omega
  · right; exact ⟨gx, sa, gy, sb, la, lb, rfl, ha, hb, h⟩
theorem rfcheck_q {v : Value} {r : Rat} (w : World) (h : FR w v r) : Calls Try.prog 66 #[v] w fun e w' => e = .returned (.int .i64 0) ∧ Steps w w' := rfcheck_ok w h
theorem rfcheck_bad {v : Value} (w : World) (h : Bad w v) : Calls Try.prog 66 #[v] w fun e w' => e = .returned (.int .i64 8) ∧ Steps w w' := by
  obtain ⟨gx, sa, gy, sb, la, lb, rfl, l1, l2, hv⟩ := h
  have := rfcheck gx gy w l1 l2
  rw [errC_eq, if_neg hv] at this
  exact this
set_option maxHeartbeats 6400000 in
set_option maxRecDepth 1000000 in
theorem rfboth_q {va vb : Value} {r s : Rat} (w : World) (ha : FR w va r) (hb : FR w vb s) :
    Calls Try.prog 96 #[va, vb] w fun e w' => e = .returned (.int .i64 0) ∧ Steps w w' := by
  obtain ⟨a1, a2, a3, a4, a5, a6, a7, a8, rfl⟩ := ha.shape
  obtain ⟨b1, b2, b3, b4, b5, b6, b7, b8, rfl⟩ := hb.shape
  have Fa := Hid.mk_ ha
  clear ha
  have Fb := Hid.mk_ hb
  clear hb
  go_enter Try.func96, Try.ntmps96
  go_wp2_with fail
  refine (rfcheck_q _ (Fa.out.keeps keepsB)).mono ?_
  rintro e w1 ⟨rfl, hb1⟩
  have st : Steps _ w1 := hb1
  have Bn : Below w.heap.size w w1 := belowA st
  have kp : Keeps w w1 := Keeps.then_ keepsB st
  have na : Blk w1 (w.heap.size) 28 #[.bool a1, .slice a2 a3 a4, .bool a5, .slice a6 a7 a8] := Blk.stepsK st
  have nb : Blk w1 (w.heap.size + 1) 28 #[.bool b1, .slice b2 b3 b4, .bool b5, .slice b6 b7 b8] := Blk.stepsK st
  clear st
  have B := Bn
  clear Bn
  replace Fa := Hid.mk_ (Fa.out.keeps kp)
  replace Fb := Hid.mk_ (Fb.out.keeps kp)
  clear kp
  have oa := na
  clear na
  have ca0 := oa.q0
  have ca1 := oa.q1
  have ca2 := oa.q2
  have ca3 := oa.q3
  have fa := oa.fr
  have la := oa.lt
  have ob := nb
  clear nb
  have cb0 := ob.q0
  have cb1 := ob.q1
  have cb2 := ob.q2
  have cb3 := ob.q3
  have fb := ob.fr
  have lb := ob.lt
  go_wp2_with fail
  refine (rfcheck_q _ (Fb.out.keeps keepsB)).mono ?_
  rintro e w2 ⟨rfl, hb2⟩
  have st : Steps _ w2 := hb2
  have Bn : Below w.heap.size w w2 := belowA st
  have kp : Keeps w1 w2 := Keeps.then_ keepsB st
  have na := oa.stp st
  have nb := ob.stp st
  clear B oa ob ca0 ca1 ca2 ca3 fa la cb0 cb1 cb2 cb3 fb lb
  clear st
  have B := Bn
  clear Bn
  replace Fa := Hid.mk_ (Fa.out.keeps kp)
  replace Fb := Hid.mk_ (Fb.out.keeps kp)
  clear kp
  have oa := na
  clear na
  have ca0 := oa.q0
  have ca1 := oa.q1
  have ca2 := oa.q2
  have ca3 := oa.q3
  have fa := oa.fr
  have la := oa.lt
  have ob := nb
  clear nb
  have cb0 := ob.q0
  have cb1 := ob.q1
  have cb2 := ob.q2
  have cb3 := ob.q3
  have fb := ob.fr
  have lb := ob.lt
  go_wp2
  go_returns
  exact ⟨rfl, belowB⟩
set_option maxHeartbeats 6400000 in
set_option maxRecDepth 1000000 in
theorem rfboth_bad1 {va vb : Value} (w : World) (ha : Bad w va) (hb : ∃ a s n c b t m d, vb = .agg #[.bool a, .slice s n c, .bool b, .slice t m d]) :
    Calls Try.prog 96 #[va, vb] w fun e w' => e = .returned (.int .i64 8) ∧ Steps w w' := by
  obtain ⟨a1, a2, a3, a4, a5, a6, a7, a8, rfl⟩ := ha.shape
  obtain ⟨b1, b2, b3, b4, b5, b6, b7, b8, rfl⟩ := hb
  have Fa := Hid.mk_ ha
  clear ha
  go_enter Try.func96, Try.ntmps96
  go_wp2_with fail
  refine (rfcheck_bad _ (Fa.out.keeps keepsB)).mono ?_
  rintro e w1 ⟨rfl, hb1⟩
  have st : Steps _ w1 := hb1
  have Bn : Below w.heap.size w w1 := belowA st
  have kp : Keeps w w1 := Keeps.then_ keepsB st
  have na : Blk w1 (w.heap.size) 28 #[.bool a1, .slice a2 a3 a4, .bool a5, .slice a6 a7 a8] := Blk.stepsK st
  have nb : Blk w1 (w.heap.size + 1) 28 #[.bool b1, .slice b2 b3 b4, .bool b5, .slice b6 b7 b8] := Blk.stepsK st
  clear st
  have B := Bn
  clear Bn
  replace Fa := Hid.mk_ (Fa.out.keeps kp)
  clear kp
  have oa := na
  clear na
  have ca0 := oa.q0
  have ca1 := oa.q1
  have ca2 := oa.q2
  have ca3 := oa.q3
  have fa := oa.fr
  have la := oa.lt
  have ob := nb
  clear nb
  have cb0 := ob.q0
  have cb1 := ob.q1
  have cb2 := ob.q2
  have cb3 := ob.q3
  have fb := ob.fr
  have lb := ob.lt
  go_wp2_with fail
  refine (rfcheck_bad _ (Fa.out.keeps keepsB)).mono ?_
  rintro e w2 ⟨rfl, hb2⟩
  have st : Steps _ w2 := hb2
  have Bn : Below w.heap.size w w2 := belowA st
  have kp : Keeps w1 w2 := Keeps.then_ keepsB st
  have na := oa.stp st
  have nb := ob.stp st
  clear B oa ob ca0 ca1 ca2 ca3 fa la cb0 cb1 cb2 cb3 fb lb
  clear st
  have B := Bn
  clear Bn
  replace Fa := Hid.mk_ (Fa.out.keeps kp)
  clear kp
  have oa := na
  clear na
  have ca0 := oa.q0
  have ca1 := oa.q1
  have ca2 := oa.q2
  have ca3 := oa.q3
  have fa := oa.fr
  have la := oa.lt
  have ob := nb
  clear nb
  have cb0 := ob.q0
  have cb1 := ob.q1
  have cb2 := ob.q2
  have cb3 := ob.q3
  have fb := ob.fr
  have lb := ob.lt
  go_wp2
  go_returns
  exact ⟨rfl, belowB⟩
set_option maxHeartbeats 6400000 in
set_option maxRecDepth 1000000 in
theorem rfboth_bad2 {va vb : Value} {r : Rat} (w : World) (ha : FR w va r) (hb : Bad w vb) :
    Calls Try.prog 96 #[va, vb] w fun e w' => e = .returned (.int .i64 8) ∧ Steps w w' := by
  obtain ⟨a1, a2, a3, a4, a5, a6, a7, a8, rfl⟩ := ha.shape
  obtain ⟨b1, b2, b3, b4, b5, b6, b7, b8, rfl⟩ := hb.shape
  have Fa := Hid.mk_ ha
  clear ha
  have Fb := Hid.mk_ hb
  clear hb
  go_enter Try.func96, Try.ntmps96
  go_wp2_with fail
  refine (rfcheck_q _ (Fa.out.keeps keepsB)).mono ?_
  rintro e w1 ⟨rfl, hb1⟩
  have st : Steps _ w1 := hb1
  have Bn : Below w.heap.size w w1 := belowA st
  have kp : Keeps w w1 := Keeps.then_ keepsB st
  have na : Blk w1 (w.heap.size) 28 #[.bool a1, .slice a2 a3 a4, .bool a5, .slice a6 a7 a8] := Blk.stepsK st
  have nb : Blk w1 (w.heap.size + 1) 28 #[.bool b1, .slice b2 b3 b4, .bool b5, .slice b6 b7 b8] := Blk.stepsK st
  clear st
  have B := Bn
  clear Bn
  replace Fa := Hid.mk_ (Fa.out.keeps kp)
  replace Fb := Hid.mk_ (Fb.out.keeps kp)
  clear kp
  have oa := na
  clear na
  have ca0 := oa.q0
  have ca1 := oa.q1
  have ca2 := oa.q2
  have ca3 := oa.q3
  have fa := oa.fr
  have la := oa.lt
  have ob := nb
  clear nb
  have cb0 := ob.q0
  have cb1 := ob.q1
  have cb2 := ob.q2
  have cb3 := ob.q3
  have fb := ob.fr
  have lb := ob.lt
  go_wp2_with fail
  refine (rfcheck_bad _ (Fb.out.keeps keepsB)).mono ?_
  rintro e w2 ⟨rfl, hb2⟩
  have st : Steps _ w2 := hb2
  have Bn : Below w.heap.size w w2 := belowA st
  have kp : Keeps w1 w2 := Keeps.then_ keepsB st
  have na := oa.stp st
  have nb := ob.stp st
  clear B oa ob ca0 ca1 ca2 ca3 fa la cb0 cb1 cb2 cb3 fb lb
  clear st
  have B := Bn
  clear Bn
  replace Fa := Hid.mk_ (Fa.out.keeps kp)
  replace Fb := Hid.mk_ (Fb.out.keeps kp)
  clear kp
  have oa := na
  clear na
  have ca0 := oa.q0
  have ca1 := oa.q1
  have ca2 := oa.q2
  have ca3 := oa.q3
  have fa := oa.fr
  have la := oa.lt
  have ob := nb
  clear nb
  have cb0 := ob.q0
  have cb1 := ob.q1
  have cb2 := ob.q2
  have cb3 := ob.q3
  have fb := ob.fr
  have lb := ob.lt
  go_wp2
  go_returns
  exact ⟨rfl, belowB⟩
set_option maxHeartbeats 6400000 in
set_option maxRecDepth 1000000 in
theorem rAddQ {va vb : Value} {r s : Rat} {i j : Nat} (w : World) (ha : FR w va r) (hb : FR w vb s) (hr : sz r i) (hs : sz s j) (hk : i + j ≤ 4094) :
    Calls Try.prog 112 #[va, vb] w fun e w' => ∃ v, e = .returned (.tuple #[v, .int .i64 0]) ∧ FR w' v (r + s) ∧ Steps w w' := by
  have fa := ha.fit
  have fb := hb.fit
  have bo := fun (w' : World) (h : Steps w w') => rfboth_q w' (ha.steps h) (hb.steps h)
  obtain ⟨h1, h2, h3⟩ := sum_size hr hs
  have g1 := fits_bp h1 (by omega)
  have g2 := fits_bp h2 (by omega)
  have g3 := fits_bp h3 (by omega)
  have g4 := fits_bp (absN_add_le h1 h2) (by omega)
  have g5 : fits (r.num * s.den - s.num * r.den) := by rw [Int.sub_eq_add_neg]; exact fits_bp (absN_add_le h1 (by rw [absN_neg]; exact h2)) (by omega)
  have pr : ∀ w', Steps w w' → Calls Try.prog 97 #[va, vb, .bool false] w' fun e w2 => ∃ v, e = .returned (.tuple #[v, .int .i64 0]) ∧ FR w2 v (r + s) ∧ Steps w' w2 := fun w' h => by
    refine (radded_more w' (ha.steps h) (hb.steps h) g1 g2 g3 g4 g5).mono ?_
    rintro e w2 ⟨v, rfl, h1, h2⟩
    have h3 := FR.of_rd (dens_ne r s) h1
    rw [add_frac] at h3
    exact ⟨v, rfl, h3, h2⟩
  obtain ⟨a1, a2, a3, a4, a5, a6, a7, a8, rfl⟩ := ha.shape
  obtain ⟨b1, b2, b3, b4, b5, b6, b7, b8, rfl⟩ := hb.shape
  clear g1 g2 g3 g4 g5 h1 h2 h3 fa fb ha hb hr hs hk
  go_enter Try.func112, Try.ntmps112
  go_wp2_with fail
  refine (bo _ belowB).mono ?_
  rintro e w1 ⟨rfl, hb1⟩
  have st : Steps _ w1 := hb1
  have Bn : Below w.heap.size w w1 := belowA st
  have na : Blk w1 (w.heap.size) 28 #[.bool a1, .slice a2 a3 a4, .bool a5, .slice a6 a7 a8] := Blk.stepsK st
  have nb : Blk w1 (w.heap.size + 1) 28 #[.bool b1, .slice b2 b3 b4, .bool b5, .slice b6 b7 b8] := Blk.stepsK st
  have nr : Blk w1 (w.heap.size + 1 + 1) 28 #[.bool false, .slice none 0 0, .bool false, .slice none 0 0] := Blk.stepsK st
  clear st
  have B := Bn
  clear Bn
  have oa := na
  clear na
  have ca0 := oa.q0
  have ca1 := oa.q1
  have ca2 := oa.q2
  have ca3 := oa.q3
  have fa := oa.fr
  have la := oa.lt
  have ob := nb
  clear nb
  have cb0 := ob.q0
  have cb1 := ob.q1
  have cb2 := ob.q2
  have cb3 := ob.q3
  have fb := ob.fr
  have lb := ob.lt
  have or := nr
  clear nr
  have cr0 := or.q0
  have cr1 := or.q1
  have cr2 := or.q2
  have cr3 := or.q3
  have fr := or.fr
  have lr := or.lt
  clear bo
  go_wp2_with fail
  refine (pr _ B).mono ?_
  rintro e w2 ⟨vq, rfl, hvq, hb2⟩
  have st : Steps _ w2 := hb2
  have Bn : Below w.heap.size w w2 := belowA st
  have na := oa.stp st
  have nb := ob.stp st
  have nr := or.stp st
  clear B oa ob or ca0 ca1 ca2 ca3 fa la cb0 cb1 cb2 cb3 fb lb cr0 cr1 cr2 cr3 fr lr
  clear st
  have B := Bn
  clear Bn
  have oa := na
  clear na
  have ca0 := oa.q0
  have ca1 := oa.q1
  have ca2 := oa.q2
  have ca3 := oa.q3
  have fa := oa.fr
  have la := oa.lt
  have ob := nb
  clear nb
  have cb0 := ob.q0
  have cb1 := ob.q1
  have cb2 := ob.q2
  have cb3 := ob.q3
  have fb := ob.fr
  have lb := ob.lt
  have or := nr
  clear nr
  have cr0 := or.q0
  have cr1 := or.q1
  have cr2 := or.q2
  have cr3 := or.q3
  have fr := or.fr
  have lr := or.lt
  obtain ⟨q1, q2, q3, q4, q5, q6, q7, q8, rfl⟩ := hvq.shape
  have Fq := Hid.mk_ hvq
  clear hvq
  clear pr
  dsimp only; repeat' (first | go_values | go_skip | go_guarded | go_step | go_upon)
  refine bodyPost_ret (by simp [results, Try.results112, go_sem, ca0, ca1, ca2, ca3, fa, la, cb0, cb1, cb2, cb3, fb, lb, cr0, cr1, cr2, cr3, fr, lr]; rfl) rfl ?_
  exact ⟨_, rfl, Fq.out.keeps keepsB, belowB⟩
set_option maxHeartbeats 6400000 in
set_option maxRecDepth 1000000 in
theorem rSubQ {va vb : Value} {r s : Rat} {i j : Nat} (w : World) (ha : FR w va r) (hb : FR w vb s) (hr : sz r i) (hs : sz s j) (hk : i + j ≤ 4094) :
    Calls Try.prog 67 #[va, vb] w fun e w' => ∃ v, e = .returned (.tuple #[v, .int .i64 0]) ∧ FR w' v (r - s) ∧ Steps w w' := by
  have fa := ha.fit
  have fb := hb.fit
  have bo := fun (w' : World) (h : Steps w w') => rfboth_q w' (ha.steps h) (hb.steps h)
  obtain ⟨h1, h2, h3⟩ := sum_size hr hs
  have g1 := fits_bp h1 (by omega)
  have g2 := fits_bp h2 (by omega)
  have g3 := fits_bp h3 (by omega)
  have g4 := fits_bp (absN_add_le h1 h2) (by omega)
  have g5 : fits (r.num * s.den - s.num * r.den) := by rw [Int.sub_eq_add_neg]; exact fits_bp (absN_add_le h1 (by rw [absN_neg]; exact h2)) (by omega)
  have pr : ∀ w', Steps w w' → Calls Try.prog 97 #[va, vb, .bool true] w' fun e w2 => ∃ v, e = .returned (.tuple #[v, .int .i64 0]) ∧ FR w2 v (r - s) ∧ Steps w' w2 := fun w' h => by
    refine (radded_less w' (ha.steps h) (hb.steps h) g1 g2 g3 g4 g5).mono ?_
    rintro e w2 ⟨v, rfl, h1, h2⟩
    have h3 := FR.of_rd (dens_ne r s) h1
    rw [sub_frac] at h3
    exact ⟨v, rfl, h3, h2⟩
  obtain ⟨a1, a2, a3, a4, a5, a6, a7, a8, rfl⟩ := ha.shape
  obtain ⟨b1, b2, b3, b4, b5, b6, b7, b8, rfl⟩ := hb.shape
  clear g1 g2 g3 g4 g5 h1 h2 h3 fa fb ha hb hr hs hk
  go_enter Try.func67, Try.ntmps67
  go_wp2_with fail
  refine (bo _ belowB).mono ?_
  rintro e w1 ⟨rfl, hb1⟩
  have st : Steps _ w1 := hb1
  have Bn : Below w.heap.size w w1 := belowA st
  have na : Blk w1 (w.heap.size) 28 #[.bool a1, .slice a2 a3 a4, .bool a5, .slice a6 a7 a8] := Blk.stepsK st
  have nb : Blk w1 (w.heap.size + 1) 28 #[.bool b1, .slice b2 b3 b4, .bool b5, .slice b6 b7 b8] := Blk.stepsK st
  have nr : Blk w1 (w.heap.size + 1 + 1) 28 #[.bool false, .slice none 0 0, .bool false, .slice none 0 0] := Blk.stepsK st
  clear st
  have B := Bn
  clear Bn
  have oa := na
  clear na
  have ca0 := oa.q0
  have ca1 := oa.q1
  have ca2 := oa.q2
  have ca3 := oa.q3
  have fa := oa.fr
  have la := oa.lt
  have ob := nb
  clear nb
  have cb0 := ob.q0
  have cb1 := ob.q1
  have cb2 := ob.q2
  have cb3 := ob.q3
  have fb := ob.fr
  have lb := ob.lt
  have or := nr
  clear nr
  have cr0 := or.q0
  have cr1 := or.q1
  have cr2 := or.q2
  have cr3 := or.q3
  have fr := or.fr
  have lr := or.lt
  clear bo
  go_wp2_with fail
  refine (pr _ B).mono ?_
  rintro e w2 ⟨vq, rfl, hvq, hb2⟩
  have st : Steps _ w2 := hb2
  have Bn : Below w.heap.size w w2 := belowA st
  have na := oa.stp st
  have nb := ob.stp st
  have nr := or.stp st
  clear B oa ob or ca0 ca1 ca2 ca3 fa la cb0 cb1 cb2 cb3 fb lb cr0 cr1 cr2 cr3 fr lr
  clear st
  have B := Bn
  clear Bn
  have oa := na
  clear na
  have ca0 := oa.q0
  have ca1 := oa.q1
  have ca2 := oa.q2
  have ca3 := oa.q3
  have fa := oa.fr
  have la := oa.lt
  have ob := nb
  clear nb
  have cb0 := ob.q0
  have cb1 := ob.q1
  have cb2 := ob.q2
  have cb3 := ob.q3
  have fb := ob.fr
  have lb := ob.lt
  have or := nr
  clear nr
  have cr0 := or.q0
  have cr1 := or.q1
  have cr2 := or.q2
  have cr3 := or.q3
  have fr := or.fr
  have lr := or.lt
  obtain ⟨q1, q2, q3, q4, q5, q6, q7, q8, rfl⟩ := hvq.shape
  have Fq := Hid.mk_ hvq
  clear hvq
  clear pr
  dsimp only; repeat' (first | go_values | go_skip | go_guarded | go_step | go_upon)
  refine bodyPost_ret (by simp [results, Try.results67, go_sem, ca0, ca1, ca2, ca3, fa, la, cb0, cb1, cb2, cb3, fb, lb, cr0, cr1, cr2, cr3, fr, lr]; rfl) rfl ?_
  exact ⟨_, rfl, Fq.out.keeps keepsB, belowB⟩
set_option maxHeartbeats 6400000 in
set_option maxRecDepth 1000000 in
theorem rCmpQ {va vb : Value} {r s : Rat} {i j : Nat} (w : World) (ha : FR w va r) (hb : FR w vb s) (hr : sz r i) (hs : sz s j) (hk : i + j ≤ 4095) :
    Calls Try.prog 68 #[va, vb] w fun e w' => e = .returned (.tuple #[.int .i64 (cmpQ r s), .int .i64 0]) ∧ Steps w w' := by
  have fa := ha.fit
  have fb := hb.fit
  have bo := fun (w' : World) (h : Steps w w') => rfboth_q w' (ha.steps h) (hb.steps h)
  obtain ⟨h1, h2, h3⟩ := sum_size hr hs
  have g1 := fits_bp h1 hk
  have g2 := fits_bp h2 hk
  obtain ⟨a2, a3, a4, a6, a7, a8, rfl, na, da, -⟩ := ha.nums
  obtain ⟨b2, b3, b4, b6, b7, b8, rfl, nb', db, -⟩ := hb.nums
  have m1 := fun (w' : World) (h : Steps w w') => rmul_fits w' (na.steps h) (db.steps h) fa.1 fb.2 g1
  have m2 := fun (w' : World) (h : Steps w w') => rmul_fits w' (nb'.steps h) (da.steps h) fb.1 fa.2 g2
  have cm : ∀ w' v u, Num w' v (r.num * s.den) → Num w' u (s.num * r.den) → Calls Try.prog 99 #[v, u] w' fun e w2 => e = .returned (.int .i64 (cmpQ r s)) ∧ Steps w' w2 := fun w' v u h1 h2 => by
    have := rcompared w' h1 h2 g1 g2
    rw [cmpI_rat] at this
    exact this
  obtain ⟨ga, hga⟩ : ∃ g, decide (r < 0) = g := ⟨_, rfl⟩
  obtain ⟨gb, hgb⟩ : ∃ g, decide (s < 0) = g := ⟨_, rfl⟩
  obtain ⟨c, hc⟩ : ∃ c, cmpQ r s = c := ⟨_, rfl⟩
  rw [hga] at m1 bo ⊢
  rw [hgb] at m2 bo ⊢
  rw [hc] at cm ⊢
  obtain ⟨X, hX⟩ : ∃ X : Int, r.num * s.den = X := ⟨_, rfl⟩
  obtain ⟨Y, hY⟩ : ∃ X : Int, s.num * r.den = X := ⟨_, rfl⟩
  rw [hX] at m1 cm
  rw [hY] at m2 cm
  clear hga hgb hc hX hY na da nb' db g1 g2 h1 h2 h3 fa fb ha hb hr hs hk
  go_enter Try.func68, Try.ntmps68
  go_wp2_with fail
  refine (bo _ belowB).mono ?_
  rintro e w1 ⟨rfl, hb1⟩
  have st : Steps _ w1 := hb1
  have Bn : Below w.heap.size w w1 := belowA st
  have na : Blk w1 (w.heap.size) 28 #[.bool ga, .slice a2 a3 a4, .bool false, .slice a6 a7 a8] := Blk.stepsK st
  have nb : Blk w1 (w.heap.size + 1) 28 #[.bool gb, .slice b2 b3 b4, .bool false, .slice b6 b7 b8] := Blk.stepsK st
  clear st
  have B := Bn
  clear Bn
  have oa := na
  clear na
  have ca0 := oa.q0
  have ca1 := oa.q1
  have ca2 := oa.q2
  have ca3 := oa.q3
  have fa := oa.fr
  have la := oa.lt
  have ob := nb
  clear nb
  have cb0 := ob.q0
  have cb1 := ob.q1
  have cb2 := ob.q2
  have cb3 := ob.q3
  have fb := ob.fr
  have lb := ob.lt
  clear bo
  go_wp2_with fail
  refine (m1 _ B).mono ?_
  rintro e w2 ⟨vx, rfl, hvx, hb2⟩
  have st : Steps _ w2 := hb2
  have Bn : Below w.heap.size w w2 := belowA st
  have na := oa.stp st
  have nb := ob.stp st
  clear B oa ob ca0 ca1 ca2 ca3 fa la cb0 cb1 cb2 cb3 fb lb
  clear st
  have B := Bn
  clear Bn
  have oa := na
  clear na
  have ca0 := oa.q0
  have ca1 := oa.q1
  have ca2 := oa.q2
  have ca3 := oa.q3
  have fa := oa.fr
  have la := oa.lt
  have ob := nb
  clear nb
  have cb0 := ob.q0
  have cb1 := ob.q1
  have cb2 := ob.q2
  have cb3 := ob.q3
  have fb := ob.fr
  have lb := ob.lt
  obtain ⟨x1, x2, x3, x4, rfl⟩ := hvx.shape
  have Fx := Hid.mk_ hvx
  clear hvx
  clear m1
  have zx : w.heap.size + 1 < w2.heap.size := ob.lt
  go_wp2_with fail
  refine (m2 _ belowB).mono ?_
  rintro e w3 ⟨vy, rfl, hvy, hb3⟩
  have st : Steps _ w3 := hb3
  have Bn : Below w.heap.size w w3 := belowA st
  have kp : Keeps w2 w3 := Keeps.then_ keepsB st
  have na := oa.stp st
  have nb := ob.stp st
  have nx : Blk w3 (w2.heap.size) 26 #[.bool x1, .slice x2 x3 x4] := Blk.stepsK st
  clear B oa ob ca0 ca1 ca2 ca3 fa la cb0 cb1 cb2 cb3 fb lb
  clear st
  have B := Bn
  clear Bn
  replace Fx := Hid.mk_ (Fx.out.keeps kp)
  clear kp
  have oa := na
  clear na
  have ca0 := oa.q0
  have ca1 := oa.q1
  have ca2 := oa.q2
  have ca3 := oa.q3
  have fa := oa.fr
  have la := oa.lt
  have ob := nb
  clear nb
  have cb0 := ob.q0
  have cb1 := ob.q1
  have cb2 := ob.q2
  have cb3 := ob.q3
  have fb := ob.fr
  have lb := ob.lt
  have ox := nx
  clear nx
  have cx0 := ox.q0
  have cx1 := ox.q1
  have fx := ox.fr
  have lx := ox.lt
  obtain ⟨y1, y2, y3, y4, rfl⟩ := hvy.shape
  have Fy := Hid.mk_ hvy
  clear hvy
  clear m2
  have zy : w2.heap.size < w3.heap.size := ox.lt
  go_wp2_with fail
  refine (cm _ _ _ (Fx.out.keeps keepsB) (Fy.out.keeps keepsB)).mono ?_
  rintro e w4 ⟨rfl, hb4⟩
  have st : Steps _ w4 := hb4
  have Bn : Below w.heap.size w w4 := belowA st
  have kp : Keeps w3 w4 := Keeps.then_ keepsB st
  have na := oa.stp st
  have nb := ob.stp st
  have nx := ox.stp st
  have ny : Blk w4 (w3.heap.size) 26 #[.bool y1, .slice y2 y3 y4] := Blk.stepsK st
  clear B oa ob ox ca0 ca1 ca2 ca3 fa la cb0 cb1 cb2 cb3 fb lb cx0 cx1 fx lx
  clear st
  have B := Bn
  clear Bn
  replace Fx := Hid.mk_ (Fx.out.keeps kp)
  replace Fy := Hid.mk_ (Fy.out.keeps kp)
  clear kp
  have oa := na
  clear na
  have ca0 := oa.q0
  have ca1 := oa.q1
  have ca2 := oa.q2
  have ca3 := oa.q3
  have fa := oa.fr
  have la := oa.lt
  have ob := nb
  clear nb
  have cb0 := ob.q0
  have cb1 := ob.q1
  have cb2 := ob.q2
  have cb3 := ob.q3
  have fb := ob.fr
  have lb := ob.lt
  have ox := nx
  clear nx
  have cx0 := ox.q0
  have cx1 := ox.q1
  have fx := ox.fr
  have lx := ox.lt
  have oy := ny
  clear ny
  have cy0 := oy.q0
  have cy1 := oy.q1
  have fy := oy.fr
  have ly := oy.lt
  go_wp2
  go_returns
  exact ⟨rfl, belowB⟩
end Go.Proofs.Ytibdehlmflaodaa
