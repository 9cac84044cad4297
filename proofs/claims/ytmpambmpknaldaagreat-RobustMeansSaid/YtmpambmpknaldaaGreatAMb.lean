import Derived.Test.YtmpambmpknaldaaGreatAUc
import Derived.Test.YtmpambmpknaldaaGreatAVa
set_option linter.unusedVariables false
set_option linter.unusedSimpArgs false
namespace Go.Proofs.YtmpambmpknaldaaGreat
open Go.RowKit
theorem setCell_same {w : World} {g i : Nat} {t : TypeId} {cs : Array Value} {u : Value} (hb : Blk w g t cs) (hi : cs[i]? = some u) (k : Nat) : (w.setCell ⟨g, i, none⟩ u).heap[k]? = w.heap[k]? := by
 unfold Blk at hb
 by_cases e : g = k
 ·
  subst e
  have es : cs.setIfInBounds i u = cs := by
   apply Array.ext_getElem?
   intro j
   rw [Array.getElem?_setIfInBounds]
   split
   ·
    rename_i h; subst h
    have hlt : i < cs.size := by
     rcases Nat.lt_or_ge i cs.size with g | g
     · exact g
     · rw [Array.getElem?_eq_none g] at hi; cases hi
    rw [if_pos hlt, hi]
   · rfl
  simp [World.setCell, Array.getElem?_modify, hb, es]
 · simp [World.setCell, Array.getElem?_modify, e]
theorem below_same {B : Nat} {a w : World} (h : Below B a w) {g i : Nat} {t : TypeId} {cs : Array Value} {u : Value} (hb : Blk w g t cs) (hi : cs[i]? = some u) : Below B a (w.setCell ⟨g, i, none⟩ u) :=
 ⟨h.os, h.tape, h.output, by have := h.size; simpa [World.setCell] using this, fun k hk => (setCell_same hb hi k).trans (h.block k hk)⟩
theorem below4 {B : Nat} {a w : World} {g i j k l : Nat} {x y z u : Value} (h : Below B a w) (hg : B ≤ g) : Below B a ((((w.setCell ⟨g, i, none⟩ x).setCell ⟨g, j, none⟩ y).setCell ⟨g, k, none⟩ z).setCell ⟨g, l, none⟩ u) :=
 Below.setCell (Below.setCell (Below.setCell (Below.setCell h hg _) hg _) hg _) hg _
theorem Blk.far4 {w : World} {g b i j k l : Nat} {t : TypeId} {cs : Array Value} {x y z u : Value} (h : Blk w g t cs) (hne : g ≠ b) : Blk ((((w.setCell ⟨b, i, none⟩ x).setCell ⟨b, j, none⟩ y).setCell ⟨b, k, none⟩ z).setCell ⟨b, l, none⟩ u) g t cs :=
 (((h.far' hne).far' hne).far' hne).far' hne
theorem keeps4 {w : World} {r i j k l : Nat} {t : TypeId} {cs : Array Value} {x y z u : Value} (hb : Blk w r t cs) (hn : noU32 cs = true) : Keeps w ((((w.setCell ⟨r, i, none⟩ x).setCell ⟨r, j, none⟩ y).setCell ⟨r, k, none⟩ z).setCell ⟨r, l, none⟩ u) :=
 Keeps.only hb hn ((Only.refl _ _).set.set.set.set)
theorem len_ne {w : World} {g : Bool} {a : Option Addr} {n c : Nat} {x : Int} (h : Num w (.agg #[.bool g, .slice a n c]) x) (hx : x ≠ 0) : n ≠ 0 := by
 obtain ⟨aa, ca, e, pa⟩ := h.parts
 simp only [Value.agg.injEq, Array.mk.injEq, List.cons.injEq, and_true, Value.slice.injEq] at e
 obtain ⟨-, -, e, -⟩ := e
 intro h0
 have h1 := limbs_nil (absN_nonneg x)
 have h2 : limbs (absN x) = [] := List.eq_nil_of_length_eq_zero (by omega)
 have h3 := h1.1 h2
 unfold absN at h3
 omega
set_option maxHeartbeats 6400000 in
set_option maxRecDepth 1000000 in
theorem rDivQ {va vb : Value} {r s : Rat} {i j : Nat} (w : World) (ha : FR w va r) (hb : FR w vb s) (hr : sz r i) (hs : sz s j) (hk : i + j ≤ 4095) (s0 : s ≠ 0) :
  Calls Tryz.prog 75 #[va, vb] w fun e w' => ∃ v, e = .returned (.tuple #[v, .int .i64 0]) ∧ FR w' v (r / s) ∧ Steps w w' := by
 have fa := ha.fit
 have fb := hb.fit
 have bo := fun (w' : World) (h : Steps w w') => rfboth_q w' (ha.steps h) (hb.steps h)
 obtain ⟨a2, a3, a4, a6, a7, a8, rfl, na, da, -⟩ := ha.nums
 obtain ⟨b2, b3, b4, b6, b7, b8, rfl, nb', db, -⟩ := hb.nums
 have d1 : absN (r.den : Int) ≤ bp i := by rw [den_abs]; exact hr.2
 have d2 : absN (s.den : Int) ≤ bp j := by rw [den_abs]; exact hs.2
 have g1 := fits_bp (absN_mul_le hr.1 d2) hk
 have g4 := fits_bp (absN_mul_le d1 hs.1) hk
 have pr : ∀ w', Steps w w' → Calls Tryz.prog 80 #[.agg #[.bool (decide (r < 0)), .slice a2 a3 a4], .agg #[.bool false, .slice b6 b7 b8], .agg #[.bool false, .slice a6 a7 a8], .agg #[.bool (decide (s < 0)), .slice b2 b3 b4]] w' fun e w2 => ∃ v, e = .returned (.tuple #[v, .int .i64 0]) ∧ FR w2 v (r / s) ∧ Steps w' w2 := fun w' h => by
  refine (rproduct w' (na.steps h) (db.steps h) (da.steps h) (nb'.steps h) fa.1 fb.2 fa.2 fb.1 g1 g4 (dens_ne' r s0)).mono ?_
  rintro e w2 ⟨v, rfl, h1, h2⟩
  have h3 := FR.of_rd (dens_ne' r s0) h1
  rw [div_frac r s0] at h3
  exact ⟨v, rfl, h3, h2⟩
 have hz : ¬ b3 = 0 := len_ne nb' (num_ne s0)
 have hz1 : ((b3 : Int) == 0) = false := by simp [hz]
 obtain ⟨ga, hga⟩ : ∃ g, decide (r < 0) = g := ⟨_, rfl⟩
 obtain ⟨gb, hgb⟩ : ∃ g, decide (s < 0) = g := ⟨_, rfl⟩
 rw [hga, hgb] at pr bo ⊢
 clear hga hgb na da nb' db d1 d2 g1 g4 fa fb ha hb hr hs hk s0
 go_enter Tryz.func75, Tryz.ntmps75
 go_wp2_with fail
 refine (bo _ belowB).mono ?_
 rintro e w1 ⟨rfl, hb1⟩
 have st : Steps _ w1 := hb1
 have Bn : Below w.heap.size w w1 := belowA st
 have oa : Blk w1 (w.heap.size) 27 #[.bool ga, .slice a2 a3 a4, .bool false, .slice a6 a7 a8] := Blk.stepsK st
 have ob : Blk w1 (w.heap.size + 1) 27 #[.bool gb, .slice b2 b3 b4, .bool false, .slice b6 b7 b8] := Blk.stepsK st
 have or : Blk w1 (w.heap.size + 1 + 1) 27 #[.bool false, .slice none 0 0, .bool false, .slice none 0 0] := Blk.stepsK st
 clear st
 have B := Bn
 clear Bn
 obtain ⟨ca0, ca1, ca2, ca3, fa, la⟩ := oa.s3
 obtain ⟨cb0, cb1, cb2, cb3, fb, lb⟩ := ob.s3
 obtain ⟨cr0, cr1, cr2, cr3, fr, lr⟩ := or.s3
 clear bo
 go_wp2_with fail
 refine (pr _ B).mono ?_
 rintro e w2 ⟨vq, rfl, hvq, hb2⟩
 have st : Steps _ w2 := hb2
 have Bn : Below w.heap.size w w2 := belowA st
 have na := oa.stp st
 have nb := ob.stp st
 have nr := or.stp st
 clear B oa ob or ca0 ca1 ca2 ca3 fa la cb0 cb1 cb2 cb3 fb lb cr0 cr1 cr2 cr3 fr lr
 clear st
 have B := Bn
 clear Bn
 have oa := na
 clear na
 obtain ⟨ca0, ca1, ca2, ca3, fa, la⟩ := oa.s3
 have ob := nb
 clear nb
 obtain ⟨cb0, cb1, cb2, cb3, fb, lb⟩ := ob.s3
 have or := nr
 clear nr
 obtain ⟨cr0, cr1, cr2, cr3, fr, lr⟩ := or.s3
 obtain ⟨q1, q2, q3, q4, q5, q6, q7, q8, rfl⟩ := hvq.shape
 have Fq := Hid.mk_ hvq
 clear hvq
 clear pr
 dsimp only; repeat' (first | go_values | go_skip | go_guarded | go_step | go_upon)
 refine bodyPost_ret (by simp [results, Tryz.results75, go_sem, ca0, ca1, ca2, ca3, fa, la, cb0, cb1, cb2, cb3, fb, lb, cr0, cr1, cr2, cr3, fr, lr]; rfl) rfl ?_
 exact ⟨_, rfl, Fq.out.keeps keepsB, belowB⟩
end Go.Proofs.YtmpambmpknaldaaGreat
