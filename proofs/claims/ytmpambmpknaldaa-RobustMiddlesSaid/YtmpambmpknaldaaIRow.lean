import Derived.Test.YtmpambmpknaldaaITz
import Derived.Laws.Tables
import Derived.Laws.Rows
import Derived.Test.YtmpambmpknaldaaIRound
import Derived.Test.YtmpambmpknaldaaITk
/- Great values stored and loaded whole: one step each. -/
set_option linter.unusedVariables false
set_option linter.unusedSimpArgs false
namespace Go.Proofs.Ytmpambmpknaldaa
open Go.RowKit
structure RowTo (g : Nat) (t : TypeId) (old cs : Array Value) (w w' : World) : Prop where
 blk : Blk w' g t cs
 was : Blk w g t old
 is : w' = w.setRow g cs
theorem RowTo.mk_ {g : Nat} {t : TypeId} {old cs : Array Value} {w : World} (h : Blk w g t old) : RowTo g t old cs w (w.setRow g cs) := by
 refine ⟨?_, h, rfl⟩
 unfold Blk at *
 simp [World.setRow, Array.getElem?_modify, h]
theorem RowTo.far {g : Nat} {t : TypeId} {old cs : Array Value} {w w' : World} (h : RowTo g t old cs w w') {g' : Nat} {t' : TypeId} {cs' : Array Value} (hb : Blk w g' t' cs') (hne : g' ≠ g) : Blk w' g' t' cs' := by
 obtain ⟨_, _, rfl⟩ := h
 unfold Blk at *
 simp only [World.setRow, Array.getElem?_modify]
 rw [if_neg (Ne.symm hne)]; exact hb
theorem RowTo.only {g : Nat} {t : TypeId} {old cs : Array Value} {w w' : World} (h : RowTo g t old cs w w') : Only g w w' := by
 obtain ⟨_, _, rfl⟩ := h
 refine ⟨by simp [World.setRow], fun k hk => ?_⟩
 simp only [World.setRow, Array.getElem?_modify]
 rw [if_neg (Ne.symm hk)]
theorem RowTo.keeps {g : Nat} {t : TypeId} {old cs : Array Value} {w w' : World} (h : RowTo g t old cs w w') (hn : noU32 old = true) : Keeps w w' := Keeps.only h.was hn h.only
theorem RowTo.below {n : Nat} {w0 : World} {g : Nat} {t : TypeId} {old cs : Array Value} {w w' : World} (h : RowTo g t old cs w w') (hb : Below n w0 w) (hg : n ≤ g) : Below n w0 w' := by
 have ho := h.only
 obtain ⟨_, _, rfl⟩ := h
 refine ⟨hb.os, hb.tape, hb.output, by rw [ho.1]; exact hb.size, fun k hk => ?_⟩
 rw [ho.2 k (by omega)]; exact hb.block k hk
theorem RowTo.steps {w0 : World} {g : Nat} {t : TypeId} {old cs : Array Value} {w w' : World} (h : RowTo g t old cs w w') (hb : Steps w0 w) (hg : w0.heap.size ≤ g) : Steps w0 w' := h.below hb hg
section
variable {P : Program} {ops : Array Oper} {rest : List Oper} {o : Oper} {a : Act} {w : World} {Q : Exit → Act → World → Prop}
end
end Go.Proofs.Ytmpambmpknaldaa
/- A region in the text's order in a round of a range over a function: walked by the plain words; what a round leaves as it lay. -/
namespace Go.Proofs.Ytmpambmpknaldaa
open Go.RowKit
structure Al (n₀ Bs : Nat) (W W' : World) : Prop where
 others : KeepsOthers W W'
 kd : KD n₀ Bs W W'
theorem Al.refl (n₀ Bs : Nat) (W : World) : Al n₀ Bs W W := ⟨KeepsOthers.refl _, KD.refl _ _ _⟩
theorem Al.trans {n₀ Bs : Nat} {A B C : World} (h : Al n₀ Bs A B) (k : Al n₀ Bs B C) : Al n₀ Bs A C := ⟨h.others.trans k.others, h.kd.trans k.kd⟩
theorem Al.steps {n₀ Bs : Nat} {W W' : World} (h : Steps W W') (h0 : n₀ ≤ W.heap.size) (h1 : Bs < W.heap.size) : Al n₀ Bs W W' :=
 ⟨⟨h.size, fun k o hk _ => (h.block k (Array.getElem?_eq_some_iff.1 hk).1).trans hk⟩, ⟨h.mono h0, h.block Bs h1⟩⟩
theorem Al.row {n₀ Bs g : Nat} {t : TypeId} {old cs : Array Value} {W W' : World} (h : RowTo g t old cs W W') (h0 : n₀ ≤ g) (h1 : Bs ≠ g) : Al n₀ Bs W W' := by
 have ho := h.only
 have hb := h.was
 refine ⟨⟨Nat.le_of_eq ho.1.symm, fun k o hk hc => (ho.2 k ?_).trans hk⟩, ⟨h.below (Below.refl _ _) h0, ho.2 Bs h1⟩⟩
 rintro rfl
 unfold Blk at hb
 rw [hb] at hk
 injection hk with hk
 subst hk
 cases hc
theorem Al.set {n₀ Bs g i : Nat} {u : Value} {W : World} (h0 : n₀ ≤ g) (h1 : Bs ≠ g) : Al n₀ Bs W (W.setCell ⟨g, i, none⟩ u) :=
 ⟨KeepsOthers.setCell _ _ _, ⟨(Below.refl _ _).setCell (p := ⟨g, i, none⟩) h0 _, Below.heap_setCell _ _ _ _ h1⟩⟩
theorem Al.alloc {n₀ Bs : Nat} {W : World} (o : Obj) (h0 : n₀ ≤ W.heap.size) (h1 : Bs < W.heap.size) : Al n₀ Bs W (W.alloc o) := Al.steps ((Below.refl _ _).alloc (Nat.le_refl _) _) h0 h1
theorem Al.drewN {n₀ Bs : Nat} {W : World} (m : Nat) : Al n₀ Bs W (W.drewN m) := ⟨⟨Nat.le_refl _, fun _ _ h _ => h⟩, ⟨⟨rfl, rfl, rfl, Nat.le_refl _, fun _ _ => rfl⟩, rfl⟩⟩
end Go.Proofs.Ytmpambmpknaldaa
