import Derived.Test.YtmpambmpknaldaaGreatMUc
import Derived.Test.YtmpambmpknaldaaGreatMVa
set_option linter.unusedVariables false
set_option linter.unusedSimpArgs false
namespace Go.Proofs.YtmpambmpknaldaaGreat
open Go.RowKit
theorem setCell_same {w : World} {g i : Nat} {t : TypeId} {cs : Array Value} {u : Value} (hb : Blk w g t cs) (hi : cs[i]? = some u) (k : Nat) : (w.setCell ⟨g, i, none⟩ u).heap[k]? = w.heap[k]? := by
 unfold Blk at hb
 by_cases e : g = k
 ·
  subst e
  have es : cs.setIfInBounds i u = cs := by
   apply Array.ext_getElem?
   intro j
   rw [Array.getElem?_setIfInBounds]
   split
   ·
    rename_i h; subst h
    have hlt : i < cs.size := by
     rcases Nat.lt_or_ge i cs.size with g | g
     · exact g
     · rw [Array.getElem?_eq_none g] at hi; cases hi
    rw [if_pos hlt, hi]
   · rfl
  simp [World.setCell, Array.getElem?_modify, hb, es]
 · simp [World.setCell, Array.getElem?_modify, e]
theorem below_same {B : Nat} {a w : World} (h : Below B a w) {g i : Nat} {t : TypeId} {cs : Array Value} {u : Value} (hb : Blk w g t cs) (hi : cs[i]? = some u) : Below B a (w.setCell ⟨g, i, none⟩ u) :=
 ⟨h.os, h.tape, h.output, by have := h.size; simpa [World.setCell] using this, fun k hk => (setCell_same hb hi k).trans (h.block k hk)⟩
end Go.Proofs.YtmpambmpknaldaaGreat
