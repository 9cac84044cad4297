import Derived.Test.YtibdehlmflaodaaGreatNTz
import Derived.Laws.Tables
import Derived.Laws.Rows
import Derived.Test.YtibdehlmflaodaaGreatNRound
import Derived.Test.YtibdehlmflaodaaGreatNTk
/- Great values stored and loaded whole: one step each. -/
set_option linter.unusedVariables false
set_option linter.unusedSimpArgs false
namespace Go.Proofs.YtibdehlmflaodaaGreat
open Go.RowKit
theorem ownD_ {w : World} {g : Nat} {t : TypeId} {cs cs' : Array Value} (h : Blk w g t cs) (e : cs = cs') : Blk w g t cs' := e ▸ h
theorem ownD {w : World} {g : Nat} {t : TypeId} {cs : Array Value} (h : Blk w g t cs := by (apply ownD_; (focus (repeat' first | with_reducible assumption | with_reducible apply Blk.alloc | with_reducible apply Blk.drew | with_reducible apply Blk.drewN | with_reducible apply Blk.set_ | with_reducible apply Blk.far' | (show _ ≠ _; omega))); rfl)) : Blk w g t cs := h
structure RowTo (g : Nat) (t : TypeId) (old cs : Array Value) (w w' : World) : Prop where
 blk : Blk w' g t cs
 was : Blk w g t old
 is : w' = w.setRow g cs
theorem RowTo.mk_ {g : Nat} {t : TypeId} {old cs : Array Value} {w : World} (h : Blk w g t old) : RowTo g t old cs w (w.setRow g cs) := by
 refine ⟨?_, h, rfl⟩
 unfold Blk at *
 simp [World.setRow, Array.getElem?_modify, h]
theorem RowTo.far {g : Nat} {t : TypeId} {old cs : Array Value} {w w' : World} (h : RowTo g t old cs w w') {g' : Nat} {t' : TypeId} {cs' : Array Value} (hb : Blk w g' t' cs') (hne : g' ≠ g) : Blk w' g' t' cs' := by
 obtain ⟨_, _, rfl⟩ := h
 unfold Blk at *
 simp only [World.setRow, Array.getElem?_modify]
 rw [if_neg (Ne.symm hne)]; exact hb
theorem RowTo.only {g : Nat} {t : TypeId} {old cs : Array Value} {w w' : World} (h : RowTo g t old cs w w') : Only g w w' := by
 obtain ⟨_, _, rfl⟩ := h
 refine ⟨by simp [World.setRow], fun k hk => ?_⟩
 simp only [World.setRow, Array.getElem?_modify]
 rw [if_neg (Ne.symm hk)]
theorem RowTo.keeps {g : Nat} {t : TypeId} {old cs : Array Value} {w w' : World} (h : RowTo g t old cs w w') (hn : noU32 old = true) : Keeps w w' := Keeps.only h.was hn h.only
theorem RowTo.below {n : Nat} {w0 : World} {g : Nat} {t : TypeId} {old cs : Array Value} {w w' : World} (h : RowTo g t old cs w w') (hb : Below n w0 w) (hg : n ≤ g) : Below n w0 w' := by
 have ho := h.only
 obtain ⟨_, _, rfl⟩ := h
 refine ⟨hb.os, hb.tape, hb.output, by rw [ho.1]; exact hb.size, fun k hk => ?_⟩
 rw [ho.2 k (by omega)]; exact hb.block k hk
theorem RowTo.steps {w0 : World} {g : Nat} {t : TypeId} {old cs : Array Value} {w w' : World} (h : RowTo g t old cs w w') (hb : Steps w0 w) (hg : w0.heap.size ≤ g) : Steps w0 w' := h.below hb hg
section
variable {P : Program} {ops : Array Oper} {rest : List Oper} {o : Oper} {a : Act} {w : World} {Q : Exit → Act → World → Prop}
theorem store_big (hgd : o.guard = none) (ty : TypeId) (x y : Operand) (ho : o.op = .store ty x y) (g : Nat) (cells : Array Value) (hx : a.eval x = .pointer (some ⟨g, 0, none⟩)) (hy : a.eval y = .agg cells)
  (t : TypeId) (old : Array Value) (hg : Blk w g t old) (hi : (P.info? ty).map (·.size) = some cells.size) (hold : old.size = cells.size) (h1 : cells.all (·.oneCell') = true)
  (h : ∀ w', RowTo g t old cells w w' → wpList P ops Q rest (a.put o.dst undef) w') : wpList P ops Q (o :: rest) a w :=
 wpList_store_row hgd ty x y ho g cells hx hy t old hg hi hold h1 (h _ (RowTo.mk_ hg))
theorem load_big (hgd : o.guard = none) (ty : TypeId) (x : Operand) (ho : o.op = .load ty x) (g : Nat) (hx : a.eval x = .pointer (some ⟨g, 0, none⟩)) (t : TypeId) (cs : Array Value) (d : TypeDesc) (hg : Blk w g t cs)
  (hu : P.underlying ty = some d) (hd : (match d with | .struct _ | .array _ _ => true | _ => false) = true) (hi : (P.info? ty).map (·.size) = some cs.size)
  (h : wpList P ops Q rest (a.put o.dst (.agg cs)) w) : wpList P ops Q (o :: rest) a w :=
 wpList_load_row hgd ty x ho g hx t cs (0, 0) d hg hu hd hi h
theorem build_big (hgd : o.guard = none) (t : TypeId) (parts : Array (Nat × Operand)) (ho : o.op = .build t parts) (v : Array Value) (hv : P.built t (parts.map fun (i, x) => (i, a.eval x)).toList = some v)
  (h : wpList P ops Q rest (a.put o.dst (.agg v)) w) : wpList P ops Q (o :: rest) a w :=
 wpList_build hgd t parts ho (by rw [hv]; rfl) (by rw [hv]; exact h)
end
theorem results_row2 {P : Program} {fn : Func} {p q : Tmp} {ty : TypeId} (h : fn.results = #[.cell p ty, .tmp q]) (tmps : Array Value) (w : World) (g : Nat) {t : TypeId} {cs : Array Value} {d : TypeDesc}
  (hp : tmps.getD p undef = .pointer (some ⟨g, 0, none⟩)) (hg : Blk w g t cs)
  (hu : P.underlying ty = some d) (hd : (match d with | .struct _ | .array _ _ => true | _ => false) = true) (hi : (P.info? ty).map (·.size) = some cs.size) :
  (results fn tmps).run P w = .ok (.tuple #[.agg cs, tmps.getD q undef]) w := by
 have hp' : tmps[p]?.getD undef = .pointer (some ⟨g, 0, none⟩) := by simpa using hp
 simp [results, h, hp', asAddr, run_loadVar_row w g t ty cs (0, 0) d hg hu hd hi]
end Go.Proofs.YtibdehlmflaodaaGreat
/- A region in the text's order in a round of a range over a function: walked by the plain words; what a round leaves as it lay. -/
namespace Go.Proofs.YtibdehlmflaodaaGreat
open Go.RowKit
theorem list_round {P : Program} {ops : Array Oper} {Q : Exit → Act → World → Prop} {l n : Nat} (hd : noDefer ops = true) : ∀ (rest : List Oper) (_ : ∀ o ∈ rest, ∃ i : Nat, ops[i]? = some o) (a : Act) (w : World),
  wpList P ops (strict Q) rest a w → wpListIn (Fence.wide.inRound l) n P ops Q rest a w := by
 intro rest
 induction rest with
 | nil => intro _ a w h; exact h
 | cons o rest ih =>
  intro hs a w h
  unfold wpList at h
  unfold wpListIn
  obtain ⟨i, hi⟩ := hs o (.head _)
  have ih' := ih (fun o' h' => hs o' (.tail _ h'))
  by_cases hw : Region.wanted o (yielded ops a.tmps) = true
  ·
   rw [if_pos hw] at h ⊢
   rcases h with h | ⟨_, h⟩
   · exact oper_round (noDefer_spec hd hi) h (fun a w => ih' a w)
   · exact (strict_out Q h).elim
  ·
   rw [if_neg hw] at h ⊢
   exact ⟨fun _ _ => trivial, ih' _ _ h⟩
theorem region_round {P : Program} {l : List Oper} {Q : Exit → Act → World → Prop} {r n id : Nat} {a : Act} {w : World} (hd : noDefer l.toArray = true) (h : wpList P l.toArray (strict Q) l a w) :
  (Code.region id l.toArray false).wpIn (Fence.wide.inRound r) n P Q a w :=
 wpIn_region_lit (list_round hd l (fun o ho => by obtain ⟨i, hi, e⟩ := List.getElem_of_mem ho; exact ⟨i, by simp [hi, e]⟩) a w h)
structure Al (n₀ Bs : Nat) (W W' : World) : Prop where
 others : KeepsOthers W W'
 kd : KD n₀ Bs W W'
theorem Al.refl (n₀ Bs : Nat) (W : World) : Al n₀ Bs W W := ⟨KeepsOthers.refl _, KD.refl _ _ _⟩
theorem Al.trans {n₀ Bs : Nat} {A B C : World} (h : Al n₀ Bs A B) (k : Al n₀ Bs B C) : Al n₀ Bs A C := ⟨h.others.trans k.others, h.kd.trans k.kd⟩
theorem Al.steps {n₀ Bs : Nat} {W W' : World} (h : Steps W W') (h0 : n₀ ≤ W.heap.size) (h1 : Bs < W.heap.size) : Al n₀ Bs W W' :=
 ⟨⟨h.size, fun k o hk _ => (h.block k (Array.getElem?_eq_some_iff.1 hk).1).trans hk⟩, ⟨h.mono h0, h.block Bs h1⟩⟩
theorem Al.row {n₀ Bs g : Nat} {t : TypeId} {old cs : Array Value} {W W' : World} (h : RowTo g t old cs W W') (h0 : n₀ ≤ g) (h1 : Bs ≠ g) : Al n₀ Bs W W' := by
 have ho := h.only
 have hb := h.was
 refine ⟨⟨Nat.le_of_eq ho.1.symm, fun k o hk hc => (ho.2 k ?_).trans hk⟩, ⟨h.below (Below.refl _ _) h0, ho.2 Bs h1⟩⟩
 rintro rfl
 unfold Blk at hb
 rw [hb] at hk
 injection hk with hk
 subst hk
 cases hc
theorem Al.set {n₀ Bs g i : Nat} {u : Value} {W : World} (h0 : n₀ ≤ g) (h1 : Bs ≠ g) : Al n₀ Bs W (W.setCell ⟨g, i, none⟩ u) :=
 ⟨KeepsOthers.setCell _ _ _, ⟨(Below.refl _ _).setCell (p := ⟨g, i, none⟩) h0 _, Below.heap_setCell _ _ _ _ h1⟩⟩
theorem Al.alloc {n₀ Bs : Nat} {W : World} (o : Obj) (h0 : n₀ ≤ W.heap.size) (h1 : Bs < W.heap.size) : Al n₀ Bs W (W.alloc o) := Al.steps ((Below.refl _ _).alloc (Nat.le_refl _) _) h0 h1
theorem Al.drewN {n₀ Bs : Nat} {W : World} (m : Nat) : Al n₀ Bs W (W.drewN m) := ⟨⟨Nat.le_refl _, fun _ _ h _ => h⟩, ⟨⟨rfl, rfl, rfl, Nat.le_refl _, fun _ _ => rfl⟩, rfl⟩⟩
end Go.Proofs.YtibdehlmflaodaaGreat
