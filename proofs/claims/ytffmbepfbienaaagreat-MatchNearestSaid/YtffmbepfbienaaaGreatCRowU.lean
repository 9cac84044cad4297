import Derived.Test.YtffmbepfbienaaaGreatCTz
import Derived.Deep.DeepAppendWide
/- Rows of the call's own whose cells are no limbs: what is appended, and what stays. -/
set_option linter.unusedVariables false
set_option linter.unusedSimpArgs false
namespace Go.Proofs.YtffmbepfbienaaaGreat
open Go.RowKit
structure RowU (w : World) (base : Nat) (e : TypeId) (size : Nat) (v : Value) (n : Nat) (xs : List Value) : Prop where
 own : w.ownsRow base e size v n xs
 noU : ∀ g cur, v.ownBlock = some g → w.heap[g]? = some (.cells cur e (0, 0)) → noU32 cur = true
theorem RowU.nil (w : World) (base : Nat) (e : TypeId) (size : Nat) : RowU w base e size (.slice none 0 0) 0 [] := ⟨World.ownsRow_nil w base e size, fun _ _ h => by cases h⟩
section
variable {P : Program} (w : World)
end
theorem RowU.drew {w : World} {base : Nat} {e : TypeId} {size n : Nat} {v : Value} {xs : List Value} (h : RowU w base e size v n xs) : RowU w.drew base e size v n xs := ⟨h.own.drew, h.noU⟩
theorem RowU.keep {w w' : World} {base : Nat} {e : TypeId} {size n : Nat} {v : Value} {xs : List Value} (h : RowU w base e size v n xs) (hk : ∀ g, v.ownBlock = some g → w'.heap[g]? = w.heap[g]?) : RowU w' base e size v n xs := by
 refine ⟨⟨h.own.1, ?_⟩, fun g cur hv hc => h.noU g cur hv ((hk g hv).symm.trans hc)⟩
 rcases h.own.2 with a | ⟨g, cap, cur, rfl, hbg, hg, r⟩
 · exact .inl a
 · exact .inr ⟨g, cap, cur, rfl, hbg, (hk g rfl).trans hg, r⟩
theorem RowU.lt {w : World} {base : Nat} {e : TypeId} {size n : Nat} {v : Value} {xs : List Value} (h : RowU w base e size v n xs) : ∀ g, v.ownBlock = some g → base ≤ g ∧ g < w.heap.size := by
 intro g hg
 rcases h.own.2 with ⟨rfl, _⟩ | ⟨g', cap, cur, rfl, hbg, hh, _⟩
 · cases hg
 · cases hg; exact ⟨hbg, Blk.lt (w := w) (t := e) (cs := cur) hh⟩
theorem RowU.steps {w w' : World} {base : Nat} {e : TypeId} {size n : Nat} {v : Value} {xs : List Value} (h : RowU w base e size v n xs) (hs : Steps w w') : RowU w' base e size v n xs := h.keep fun g hg => hs.block g (h.lt g hg).2
theorem RowU.alloc {w : World} {base : Nat} {e : TypeId} {size n : Nat} {v : Value} {xs : List Value} (h : RowU w base e size v n xs) (o : Obj) : RowU (w.alloc o) base e size v n xs := h.steps ((Below.refl _ _).alloc (Nat.le_refl _) o)
theorem RowU.keeps {w w' : World} {base : Nat} {e : TypeId} {size n : Nat} {v : Value} {xs : List Value} (h : RowU w base e size v n xs) (hg : w.grownBy w' v.ownBlock) : Keeps w w' := by
 intro x l hl
 obtain ⟨h0, ao, cap, rfl, h1, h3, h2⟩ := hl
 refine ⟨h0, ao, cap, rfl, h1, h3, fun hn => ?_⟩
 obtain ⟨b, o, rfl, hb, hc⟩ := h2 hn
 have hne : v.ownBlock ≠ some b := by
  intro e1
  rcases h.own.2 with ⟨rfl, _⟩ | ⟨g, cap', cur, rfl, hbg, hh, _⟩
  · cases e1
  ·
   injection e1 with e1
   have e2 : g = b := e1
   subst e2
   have hp : 0 < l.length := List.length_pos_iff.2 hn
   have hc0 := hc 0 hp
   rw [Blk.cell (w := w) (t := e) (cs := cur) hh] at hc0
   exact noU32_get (h.noU g cur rfl hh) hc0
 refine ⟨b, o, rfl, Nat.lt_of_lt_of_le hb hg.size, fun t ht => ?_⟩
 have hcell := hc t ht
 unfold World.cell? at hcell ⊢
 rw [hg.block b hb (Ne.symm hne)]; exact hcell
end Go.Proofs.YtffmbepfbienaaaGreat
