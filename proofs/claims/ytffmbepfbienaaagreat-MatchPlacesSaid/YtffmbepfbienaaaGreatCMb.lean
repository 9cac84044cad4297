import Derived.Test.YtffmbepfbienaaaGreatCUc
import Derived.Test.YtffmbepfbienaaaGreatCVa
namespace Go.Proofs.YtffmbepfbienaaaGreat
open Go.RowKit
theorem setCell_same {w : World} {g i : Nat} {t : TypeId} {cs : Array Value} {u : Value} (hb : Blk w g t cs) (hi : cs[i]? = some u) (k : Nat) : (w.setCell ⟨g, i, none⟩ u).heap[k]? = w.heap[k]? := by
  unfold Blk at hb
  by_cases e : g = k
  · subst e
    have es : cs.setIfInBounds i u = cs := by
      apply Array.ext_getElem?
      intro j
      rw [Array.getElem?_setIfInBounds]
      split
      · rename_i h; subst h
        have hlt : i < cs.size := by
          rcases Nat.lt_or_ge i cs.size with g | g
          · exact g
          · rw [Array.getElem?_eq_none g] at hi; cases hi
        rw [if_pos hlt, hi]
      · rfl
    simp [World.setCell, Array.getElem?_modify, hb, es]
  · simp [World.setCell, Array.getElem?_modify, e]
theorem below_same {B : Nat} {a w : World} (h : Below B a w) {g i : Nat} {t : TypeId} {cs : Array Value} {u : Value} (hb : Blk w g t cs) (hi : cs[i]? = some u) : Below B a (w.setCell ⟨g, i, none⟩ u) :=
  ⟨h.os, h.tape, h.output, by have := h.size; simpa [World.setCell] using this, fun k hk => (setCell_same hb hi k).trans (h.block k hk)⟩
theorem below4 {B : Nat} {a w : World} {g i j k l : Nat} {x y z u : Value} (h : Below B a w) (hg : B ≤ g) : Below B a ((((w.setCell ⟨g, i, none⟩ x).setCell ⟨g, j, none⟩ y).setCell ⟨g, k, none⟩ z).setCell ⟨g, l, none⟩ u) :=
  Below.setCell (Below.setCell (Below.setCell (Below.setCell h hg _) hg _) hg _) hg _
theorem Blk.far4 {w : World} {g b i j k l : Nat} {t : TypeId} {cs : Array Value} {x y z u : Value} (h : Blk w g t cs) (hne : g ≠ b) : Blk ((((w.setCell ⟨b, i, none⟩ x).setCell ⟨b, j, none⟩ y).setCell ⟨b, k, none⟩ z).setCell ⟨b, l, none⟩ u) g t cs :=
  (((h.far' hne).far' hne).far' hne).far' hne
theorem keeps4 {w : World} {r i j k l : Nat} {t : TypeId} {cs : Array Value} {x y z u : Value} (hb : Blk w r t cs) (hn : noU32 cs = true) : Keeps w ((((w.setCell ⟨r, i, none⟩ x).setCell ⟨r, j, none⟩ y).setCell ⟨r, k, none⟩ z).setCell ⟨r, l, none⟩ u) :=
  Keeps.only hb hn ((Only.refl _ _).set.set.set.set)
set_option maxHeartbeats 6400000 in
set_option maxRecDepth 1000000 in
theorem mkeep (a1 : Bool) (a2 : Option Addr) (a3 a4 : Nat) (a5 : Bool) (a6 : Option Addr) (a7 a8 : Nat) {gc : Nat} {tc : TypeId} (w : World) (hc : Blk w gc tc #[.int .i64 0]) :
    Calls Tryz.prog 76 #[.pointer (some ⟨gc, 0, none⟩), .agg #[.bool a1, .slice a2 a3 a4, .bool a5, .slice a6 a7 a8], .int .i64 0] w fun e w' => e = .returned (.agg #[.bool a1, .slice a2 a3 a4, .bool a5, .slice a6 a7 a8]) ∧ Steps w w' := by
  have hl := hc.lt
  have h1 : ¬ w.heap.size = gc := by omega
  have h2 : ¬ w.heap.size + 1 = gc := by omega
  have h3 : ¬ gc = w.heap.size := by omega
  have h4 : ¬ gc = w.heap.size + 1 := by omega
  have cc : w.cell? ⟨gc, 0, none⟩ = some (.int .i64 0) := hc.c 0 rfl
  have cf := hc.fr 0
  have HC := Hid.mk_ hc
  clear hc
  go_enter Tryz.func76, Tryz.ntmps76
  go_wp2_with fail
  refine bodyPost_ret (by simp [results, Tryz.results76, go_sem, h1, h2, h3, h4, cc, cf]; rfl) rfl ?_
  exact ⟨rfl, Below.alloc (Below.alloc (below_same (Below.refl _ _) HC.out rfl) (by simp) _) (by simp) _⟩
theorem mkeepQ {va : Value} {r : Rat} {gc : Nat} {tc : TypeId} (w : World) (hc : Blk w gc tc #[.int .i64 0]) (ha : FR w va r) :
    Calls Tryz.prog 76 #[.pointer (some ⟨gc, 0, none⟩), va, .int .i64 0] w fun e w' => ∃ v, e = .returned v ∧ FR w' v r ∧ Steps w w' := by
  obtain ⟨a1, a2, a3, a4, a5, a6, a7, a8, rfl⟩ := ha.shape
  refine (mkeep a1 a2 a3 a4 a5 a6 a7 a8 w hc).mono ?_
  rintro e w' ⟨rfl, hs⟩
  exact ⟨_, rfl, ha.steps hs, hs⟩
set_option maxHeartbeats 6400000 in
set_option maxRecDepth 1000000 in
theorem mof (x : Int) {gc : Nat} {tc : TypeId} (w : World) (hc : Blk w gc tc #[.int .i64 0]) (x0 : -9223372036854775808 ≤ x) (x1 : x ≤ 9223372036854775807) :
    Calls Tryz.prog 66 #[.pointer (some ⟨gc, 0, none⟩), .int .i64 x] w fun e w' => ∃ v, e = .returned v ∧ FR w' v ((x : Rat)) ∧ Steps w w' := by
  have KP : ∀ w' u, Steps w w' → FR w' u ((x : Rat)) → Calls Tryz.prog 76 #[.pointer (some ⟨gc, 0, none⟩), u, .int .i64 0] w' fun e w2 => ∃ v, e = .returned v ∧ FR w2 v ((x : Rat)) ∧ Steps w' w2 := fun w' u st h => mkeepQ w' (hc.steps st) h
  have CL : ∀ w', Steps w w' → Calls Tryz.prog 77 #[.int .i64 x, .int .i64 1] w' fun e w2 => ∃ v, e = .returned (.tuple #[v, .int .i64 0]) ∧ FR w2 v ((x : Rat)) ∧ Steps w' w2 := fun w' st => by have := fofQ x 1 w' x0 x1 (by decide) (by decide) (by decide); rw [one_divQ] at this; exact this
  generalize (x : Rat) = r at *
  clear hc x0 x1
  go_enter Tryz.func66, Tryz.ntmps66
  go_wp2_with fail
  refine (CL _ belowB).mono ?_
  rintro e w1 ⟨vx_, rfl, hvx_, hb1⟩
  have st : Steps _ w1 := hb1
  have B : Below w.heap.size w w1 := belowA st
  have nr : Blk w1 (w.heap.size) 28 #[.bool false, .slice none 0 0, .bool false, .slice none 0 0] := Blk.stepsK st
  have or := nr
  clear nr
  clear st
  obtain ⟨x_1, x_2, x_3, x_4, x_5, x_6, x_7, x_8, rfl⟩ := hvx_.shape
  have Fx_ := Hid.mk_ hvx_
  clear hvx_
  go_wp2_with fail
  refine (KP _ _ belowB (Fx_.out.keeps keepsB)).mono ?_
  rintro e w2 ⟨vq, rfl, hvq, hb2⟩
  have st : Steps _ w2 := hb2
  have sk : Below w1.heap.size w1 w2 := belowA st
  replace B := below_steps B (Nat.le_refl _) sk
  replace or := or.steps sk
  replace Fx_ := Hid.mk_ (Fx_.out.steps sk)
  clear st sk
  have cr0 := or.q0
  have cr1 := or.q1
  have cr2 := or.q2
  have cr3 := or.q3
  have fr := or.fr
  have lr := or.lt
  obtain ⟨q1, q2, q3, q4, q5, q6, q7, q8, rfl⟩ := hvq.shape
  have Fq := Hid.mk_ hvq
  clear hvq
  go_wp2_with fail
  refine bodyPost_ret (by simp [results, Tryz.results66, go_sem, cr0, cr1, cr2, cr3, fr, lr]; rfl) rfl ?_
  exact ⟨_, rfl, Fq.out.keeps keepsB, belowB⟩
set_option maxHeartbeats 6400000 in
set_option maxRecDepth 1000000 in
theorem madd {va vb : Value} {r s : Rat} {i j : Nat} {gc : Nat} {tc : TypeId} (w : World) (hc : Blk w gc tc #[.int .i64 0]) (ha : FR w va r) (hb : FR w vb s) (hr : sz r i) (hs : sz s j) (hk : i + j ≤ 4094) :
    Calls Tryz.prog 83 #[.pointer (some ⟨gc, 0, none⟩), va, vb] w fun e w' => ∃ v, e = .returned v ∧ FR w' v (r + s) ∧ Steps w w' := by
  have KP : ∀ w' u, Steps w w' → FR w' u (r + s) → Calls Tryz.prog 76 #[.pointer (some ⟨gc, 0, none⟩), u, .int .i64 0] w' fun e w2 => ∃ v, e = .returned v ∧ FR w2 v (r + s) ∧ Steps w' w2 := fun w' u st h => mkeepQ w' (hc.steps st) h
  have CL : ∀ w', Steps w w' → Calls Tryz.prog 123 #[va, vb] w' fun e w2 => ∃ v, e = .returned (.tuple #[v, .int .i64 0]) ∧ FR w2 v (r + s) ∧ Steps w' w2 := fun w' st => fAddQ w' (ha.steps st) (hb.steps st) hr hs hk
  obtain ⟨a1, a2, a3, a4, a5, a6, a7, a8, rfl⟩ := ha.shape
  obtain ⟨b1, b2, b3, b4, b5, b6, b7, b8, rfl⟩ := hb.shape
  clear ha hb hr hs hk hc
  generalize r + s = t at *
  go_enter Tryz.func83, Tryz.ntmps83
  go_wp2_with fail
  refine (CL _ belowB).mono ?_
  rintro e w1 ⟨vx_, rfl, hvx_, hb1⟩
  have st : Steps _ w1 := hb1
  have B : Below w.heap.size w w1 := belowA st
  have na : Blk w1 (w.heap.size) 28 #[.bool a1, .slice a2 a3 a4, .bool a5, .slice a6 a7 a8] := Blk.stepsK st
  have nb : Blk w1 (w.heap.size + 1) 28 #[.bool b1, .slice b2 b3 b4, .bool b5, .slice b6 b7 b8] := Blk.stepsK st
  have nr : Blk w1 (w.heap.size + 1 + 1) 28 #[.bool false, .slice none 0 0, .bool false, .slice none 0 0] := Blk.stepsK st
  have oa := na
  clear na
  have ob := nb
  clear nb
  have or := nr
  clear nr
  clear st
  obtain ⟨x_1, x_2, x_3, x_4, x_5, x_6, x_7, x_8, rfl⟩ := hvx_.shape
  have Fx_ := Hid.mk_ hvx_
  clear hvx_
  go_wp2_with fail
  refine (KP _ _ belowB (Fx_.out.keeps keepsB)).mono ?_
  rintro e w2 ⟨vq, rfl, hvq, hb2⟩
  have st : Steps _ w2 := hb2
  have sk : Below w1.heap.size w1 w2 := belowA st
  replace B := below_steps B (Nat.le_refl _) sk
  replace oa := oa.steps sk
  replace ob := ob.steps sk
  replace or := or.steps sk
  replace Fx_ := Hid.mk_ (Fx_.out.steps sk)
  clear st sk
  have la := oa.lt
  have lb := ob.lt
  have cr0 := or.q0
  have cr1 := or.q1
  have cr2 := or.q2
  have cr3 := or.q3
  have fr := or.fr
  have lr := or.lt
  obtain ⟨q1, q2, q3, q4, q5, q6, q7, q8, rfl⟩ := hvq.shape
  have Fq := Hid.mk_ hvq
  clear hvq
  go_wp2_with fail
  refine bodyPost_ret (by simp [results, Tryz.results83, go_sem, la, lb, cr0, cr1, cr2, cr3, fr, lr]; rfl) rfl ?_
  exact ⟨_, rfl, Fq.out.keeps keepsB, belowB⟩
set_option maxHeartbeats 6400000 in
set_option maxRecDepth 1000000 in
theorem msub {va vb : Value} {r s : Rat} {i j : Nat} {gc : Nat} {tc : TypeId} (w : World) (hc : Blk w gc tc #[.int .i64 0]) (ha : FR w va r) (hb : FR w vb s) (hr : sz r i) (hs : sz s j) (hk : i + j ≤ 4094) :
    Calls Tryz.prog 78 #[.pointer (some ⟨gc, 0, none⟩), va, vb] w fun e w' => ∃ v, e = .returned v ∧ FR w' v (r - s) ∧ Steps w w' := by
  have KP : ∀ w' u, Steps w w' → FR w' u (r - s) → Calls Tryz.prog 76 #[.pointer (some ⟨gc, 0, none⟩), u, .int .i64 0] w' fun e w2 => ∃ v, e = .returned v ∧ FR w2 v (r - s) ∧ Steps w' w2 := fun w' u st h => mkeepQ w' (hc.steps st) h
  have CL : ∀ w', Steps w w' → Calls Tryz.prog 119 #[va, vb] w' fun e w2 => ∃ v, e = .returned (.tuple #[v, .int .i64 0]) ∧ FR w2 v (r - s) ∧ Steps w' w2 := fun w' st => fSubQ w' (ha.steps st) (hb.steps st) hr hs hk
  obtain ⟨a1, a2, a3, a4, a5, a6, a7, a8, rfl⟩ := ha.shape
  obtain ⟨b1, b2, b3, b4, b5, b6, b7, b8, rfl⟩ := hb.shape
  clear ha hb hr hs hk hc
  generalize r - s = t at *
  go_enter Tryz.func78, Tryz.ntmps78
  go_wp2_with fail
  refine (CL _ belowB).mono ?_
  rintro e w1 ⟨vx_, rfl, hvx_, hb1⟩
  have st : Steps _ w1 := hb1
  have B : Below w.heap.size w w1 := belowA st
  have na : Blk w1 (w.heap.size) 28 #[.bool a1, .slice a2 a3 a4, .bool a5, .slice a6 a7 a8] := Blk.stepsK st
  have nb : Blk w1 (w.heap.size + 1) 28 #[.bool b1, .slice b2 b3 b4, .bool b5, .slice b6 b7 b8] := Blk.stepsK st
  have nr : Blk w1 (w.heap.size + 1 + 1) 28 #[.bool false, .slice none 0 0, .bool false, .slice none 0 0] := Blk.stepsK st
  have oa := na
  clear na
  have ob := nb
  clear nb
  have or := nr
  clear nr
  clear st
  obtain ⟨x_1, x_2, x_3, x_4, x_5, x_6, x_7, x_8, rfl⟩ := hvx_.shape
  have Fx_ := Hid.mk_ hvx_
  clear hvx_
  go_wp2_with fail
  refine (KP _ _ belowB (Fx_.out.keeps keepsB)).mono ?_
  rintro e w2 ⟨vq, rfl, hvq, hb2⟩
  have st : Steps _ w2 := hb2
  have sk : Below w1.heap.size w1 w2 := belowA st
  replace B := below_steps B (Nat.le_refl _) sk
  replace oa := oa.steps sk
  replace ob := ob.steps sk
  replace or := or.steps sk
  replace Fx_ := Hid.mk_ (Fx_.out.steps sk)
  clear st sk
  have la := oa.lt
  have lb := ob.lt
  have cr0 := or.q0
  have cr1 := or.q1
  have cr2 := or.q2
  have cr3 := or.q3
  have fr := or.fr
  have lr := or.lt
  obtain ⟨q1, q2, q3, q4, q5, q6, q7, q8, rfl⟩ := hvq.shape
  have Fq := Hid.mk_ hvq
  clear hvq
  go_wp2_with fail
  refine bodyPost_ret (by simp [results, Tryz.results78, go_sem, la, lb, cr0, cr1, cr2, cr3, fr, lr]; rfl) rfl ?_
  exact ⟨_, rfl, Fq.out.keeps keepsB, belowB⟩
set_option maxHeartbeats 6400000 in
set_option maxRecDepth 1000000 in
theorem mmul {va vb : Value} {r s : Rat} {i j : Nat} {gc : Nat} {tc : TypeId} (w : World) (hc : Blk w gc tc #[.int .i64 0]) (ha : FR w va r) (hb : FR w vb s) (hr : sz r i) (hs : sz s j) (hk : i + j ≤ 4095) :
    Calls Tryz.prog 84 #[.pointer (some ⟨gc, 0, none⟩), va, vb] w fun e w' => ∃ v, e = .returned v ∧ FR w' v (r * s) ∧ Steps w w' := by
  have KP : ∀ w' u, Steps w w' → FR w' u (r * s) → Calls Tryz.prog 76 #[.pointer (some ⟨gc, 0, none⟩), u, .int .i64 0] w' fun e w2 => ∃ v, e = .returned v ∧ FR w2 v (r * s) ∧ Steps w' w2 := fun w' u st h => mkeepQ w' (hc.steps st) h
  have CL : ∀ w', Steps w w' → Calls Tryz.prog 20 #[va, vb] w' fun e w2 => ∃ v, e = .returned (.tuple #[v, .int .i64 0]) ∧ FR w2 v (r * s) ∧ Steps w' w2 := fun w' st => fMulQ w' (ha.steps st) (hb.steps st) hr hs hk
  obtain ⟨a1, a2, a3, a4, a5, a6, a7, a8, rfl⟩ := ha.shape
  obtain ⟨b1, b2, b3, b4, b5, b6, b7, b8, rfl⟩ := hb.shape
  clear ha hb hr hs hk hc
  generalize r * s = t at *
  go_enter Tryz.func84, Tryz.ntmps84
  go_wp2_with fail
  refine (CL _ belowB).mono ?_
  rintro e w1 ⟨vx_, rfl, hvx_, hb1⟩
  have st : Steps _ w1 := hb1
  have B : Below w.heap.size w w1 := belowA st
  have na : Blk w1 (w.heap.size) 28 #[.bool a1, .slice a2 a3 a4, .bool a5, .slice a6 a7 a8] := Blk.stepsK st
  have nb : Blk w1 (w.heap.size + 1) 28 #[.bool b1, .slice b2 b3 b4, .bool b5, .slice b6 b7 b8] := Blk.stepsK st
  have nr : Blk w1 (w.heap.size + 1 + 1) 28 #[.bool false, .slice none 0 0, .bool false, .slice none 0 0] := Blk.stepsK st
  have oa := na
  clear na
  have ob := nb
  clear nb
  have or := nr
  clear nr
  clear st
  obtain ⟨x_1, x_2, x_3, x_4, x_5, x_6, x_7, x_8, rfl⟩ := hvx_.shape
  have Fx_ := Hid.mk_ hvx_
  clear hvx_
  go_wp2_with fail
  refine (KP _ _ belowB (Fx_.out.keeps keepsB)).mono ?_
  rintro e w2 ⟨vq, rfl, hvq, hb2⟩
  have st : Steps _ w2 := hb2
  have sk : Below w1.heap.size w1 w2 := belowA st
  replace B := below_steps B (Nat.le_refl _) sk
  replace oa := oa.steps sk
  replace ob := ob.steps sk
  replace or := or.steps sk
  replace Fx_ := Hid.mk_ (Fx_.out.steps sk)
  clear st sk
  have la := oa.lt
  have lb := ob.lt
  have cr0 := or.q0
  have cr1 := or.q1
  have cr2 := or.q2
  have cr3 := or.q3
  have fr := or.fr
  have lr := or.lt
  obtain ⟨q1, q2, q3, q4, q5, q6, q7, q8, rfl⟩ := hvq.shape
  have Fq := Hid.mk_ hvq
  clear hvq
  go_wp2_with fail
  refine bodyPost_ret (by simp [results, Tryz.results84, go_sem, la, lb, cr0, cr1, cr2, cr3, fr, lr]; rfl) rfl ?_
  exact ⟨_, rfl, Fq.out.keeps keepsB, belowB⟩
end Go.Proofs.YtffmbepfbienaaaGreat
