import Derived.Test.YtmpambmpknaldaaGreatARowU
import Derived.Test.YtmpambmpknaldaaGreatAVa
/- A row of numbers that is sorted in place: its block, its first n cells. -/
set_option linter.unusedVariables false
set_option linter.unusedSimpArgs false
namespace Go.Proofs.YtmpambmpknaldaaGreat
open Go.RowKit
def RowS (w : World) (g n : Nat) (f : Nat → Int) : Prop := ∃ cs : Array Value, Blk w g 2 cs ∧ n ≤ cs.size ∧ noU32 cs = true ∧ ∀ i, i < n → cs[i]? = some (.int .i64 (f i))
theorem RowS.lt {w : World} {g n : Nat} {f : Nat → Int} (h : RowS w g n f) : g < w.heap.size := by obtain ⟨cs, hb, _⟩ := h; exact hb.lt
theorem RowS.c {w : World} {g n : Nat} {f : Nat → Int} (h : RowS w g n f) {i : Nat} (hi : i < n) : w.cell? ⟨g, i, none⟩ = some (.int .i64 (f i)) := by
 obtain ⟨cs, hb, _, _, hc⟩ := h
 exact (hb.cell i).trans (hc i hi)
theorem RowS.steps {w w' : World} {g n : Nat} {f : Nat → Int} (h : RowS w g n f) (s : Steps w w') : RowS w' g n f := by
 obtain ⟨cs, hb, h1, h2, h3⟩ := h
 exact ⟨cs, hb.steps s, h1, h2, h3⟩
theorem RowS.congr {w : World} {g n : Nat} {f f' : Nat → Int} (h : RowS w g n f) (e : ∀ i, i < n → f' i = f i) : RowS w g n f' := by
 obtain ⟨cs, hb, h1, h2, h3⟩ := h
 exact ⟨cs, hb, h1, h2, fun i hi => by rw [e i hi]; exact h3 i hi⟩
theorem RowS.put {w : World} {g n : Nat} {f : Nat → Int} (h : RowS w g n f) {i : Nat} (hi : i < n) (x : Int) : RowS (w.setCell ⟨g, i, none⟩ (.int .i64 x)) g n (fun k => if k = i then x else f k) := by
 obtain ⟨cs, hb, h1, h2, h3⟩ := h
 refine ⟨_, hb.set_ i _, by rw [Array.size_setIfInBounds]; exact h1, noU_set h2 i x, fun k hk => ?_⟩
 by_cases e : k = i
 ·
  subst e
  rw [Array.getElem?_setIfInBounds_self_of_lt (by omega)]; dsimp only; rw [if_pos rfl]
 ·
  rw [Array.getElem?_setIfInBounds_ne (fun h => e h.symm)]; dsimp only; rw [if_neg e]
  exact h3 k hk
theorem RowS.swap {w : World} {g n : Nat} {f : Nat → Int} (h : RowS w g n f) {i j : Nat} (hi : i < n) (hj : j < n) :
  RowS ((w.setCell ⟨g, i, none⟩ (.int .i64 (f j))).setCell ⟨g, j, none⟩ (.int .i64 (f i))) g n (swp f i j) := by
 refine ((h.put hi (f j)).put hj (f i)).congr fun k _ => ?_
 unfold swp
 by_cases e1 : k = i
 ·
  by_cases e2 : k = j
  · subst e1; subst e2; simp
  · rw [if_pos e1, if_neg e2, if_pos e1]
 · rw [if_neg e1, if_neg e1]
end Go.Proofs.YtmpambmpknaldaaGreat
