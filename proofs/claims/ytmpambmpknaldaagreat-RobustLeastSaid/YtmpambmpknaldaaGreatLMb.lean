import Derived.Test.YtmpambmpknaldaaGreatLUc
import Derived.Test.YtmpambmpknaldaaGreatLVa
set_option linter.unusedVariables false
set_option linter.unusedSimpArgs false
namespace Go.Proofs.YtmpambmpknaldaaGreat
open Go.RowKit
theorem setCell_same {w : World} {g i : Nat} {t : TypeId} {cs : Array Value} {u : Value} (hb : Blk w g t cs) (hi : cs[i]? = some u) (k : Nat) : (w.setCell ⟨g, i, none⟩ u).heap[k]? = w.heap[k]? := by
 unfold Blk at hb
 by_cases e : g = k
 ·
  subst e
  have es : cs.setIfInBounds i u = cs := by
   apply Array.ext_getElem?
   intro j
   rw [Array.getElem?_setIfInBounds]
   split
   ·
    rename_i h; subst h
    have hlt : i < cs.size := by
     rcases Nat.lt_or_ge i cs.size with g | g
     · exact g
     · rw [Array.getElem?_eq_none g] at hi; cases hi
    rw [if_pos hlt, hi]
   · rfl
  simp [World.setCell, Array.getElem?_modify, hb, es]
 · simp [World.setCell, Array.getElem?_modify, e]
theorem below_same {B : Nat} {a w : World} (h : Below B a w) {g i : Nat} {t : TypeId} {cs : Array Value} {u : Value} (hb : Blk w g t cs) (hi : cs[i]? = some u) : Below B a (w.setCell ⟨g, i, none⟩ u) :=
 ⟨h.os, h.tape, h.output, by have := h.size; simpa [World.setCell] using this, fun k hk => (setCell_same hb hi k).trans (h.block k hk)⟩
theorem below4 {B : Nat} {a w : World} {g i j k l : Nat} {x y z u : Value} (h : Below B a w) (hg : B ≤ g) : Below B a ((((w.setCell ⟨g, i, none⟩ x).setCell ⟨g, j, none⟩ y).setCell ⟨g, k, none⟩ z).setCell ⟨g, l, none⟩ u) :=
 Below.setCell (Below.setCell (Below.setCell (Below.setCell h hg _) hg _) hg _) hg _
theorem Blk.far4 {w : World} {g b i j k l : Nat} {t : TypeId} {cs : Array Value} {x y z u : Value} (h : Blk w g t cs) (hne : g ≠ b) : Blk ((((w.setCell ⟨b, i, none⟩ x).setCell ⟨b, j, none⟩ y).setCell ⟨b, k, none⟩ z).setCell ⟨b, l, none⟩ u) g t cs :=
 (((h.far' hne).far' hne).far' hne).far' hne
theorem keeps4 {w : World} {r i j k l : Nat} {t : TypeId} {cs : Array Value} {x y z u : Value} (hb : Blk w r t cs) (hn : noU32 cs = true) : Keeps w ((((w.setCell ⟨r, i, none⟩ x).setCell ⟨r, j, none⟩ y).setCell ⟨r, k, none⟩ z).setCell ⟨r, l, none⟩ u) :=
 Keeps.only hb hn ((Only.refl _ _).set.set.set.set)
end Go.Proofs.YtmpambmpknaldaaGreat
