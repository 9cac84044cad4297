import Derived.Test.YtffmbepfbienaaaGreatDVh
import Derived.Test.YtffmbepfbienaaaGreatDFou
import Derived.Test.YtffmbepfbienaaaGreatDQi
import Derived.Test.YtffmbepfbienaaaGreatDQj
set_option linter.unusedVariables false
set_option linter.unusedSimpArgs false
namespace Go.Proofs.YtffmbepfbienaaaGreat
open Go.RowKit Go.Shelf
theorem run_min2 {P : Program} (ts : Array TypeId) (t : TypeId) (x y : Int) (w : World) : (Builtin.min_ ts t #[.int .i64 x, .int .i64 y]).run P w = .ok (.int .i64 (min x y)) w := by
 have e : min x y = if y < x then y else x := by split <;> omega
 rw [e]
 by_cases h1 : y < x <;> simp [Builtin.min_, Builtin.min2, go_sem, h1]
attribute [local go_sem] Oper.semAt_some
attribute [local go_sem high] run_min2
def AllP (w : World) (l : PL) (most : Int) (e : Ending) (w' : World) : Prop := ∃ u, e = .returned (.tuple #[u, .int .i64 (allS l most).1]) ∧ QAs w' u (allS l most).2 ∧ Steps w w'
theorem KF.trans {Bs G : Nat} {A B C : World} (h : KF Bs G A B) (k : KF Bs G B C) : KF Bs G A C := ⟨k.1.trans h.1, k.2.trans h.2⟩
def NA (W : World) (G : Nat) : Prop := W.heap.size ≤ G ∨ ∃ t cs, Blk W G t cs ∧ noU32 cs = true
structure AK (Bs G : Nat) (W W' : World) : Prop where
 others : KeepsOthers W W'
 kf : KF Bs G W W'
theorem AK.trans {Bs G : Nat} {A B C : World} (h : AK Bs G A B) (k : AK Bs G B C) : AK Bs G A C := ⟨h.others.trans k.others, KF.trans h.kf k.kf⟩
theorem AK.steps {Bs G : Nat} {W W' : World} (h : Steps W W') (h0 : Bs < W.heap.size) (h1 : G < W.heap.size) : AK Bs G W W' :=
 ⟨⟨h.size, fun k o hk _ => (h.block k (Array.getElem?_eq_some_iff.1 hk).1).trans hk⟩, h.block _ h0, h.block _ h1⟩
theorem AK.alloc {Bs G : Nat} {W : World} (o : Obj) (h0 : Bs < W.heap.size) (h1 : G < W.heap.size) : AK Bs G W (W.alloc o) := AK.steps ((Below.refl _ _).alloc (Nat.le_refl _) o) h0 h1
theorem AK.row {Bs G g : Nat} {t : TypeId} {old cs : Array Value} {W W' : World} (h : RowTo g t old cs W W') (h0 : Bs ≠ g) (h1 : G ≠ g) : AK Bs G W W' := by
 refine ⟨⟨Nat.le_of_eq h.only.1.symm, fun k o hk hc => ?_⟩, h.only.2 _ h0, h.only.2 _ h1⟩
 rw [h.only.2 k (fun e => by subst e; rw [show W.heap[k]? = _ from h.was] at hk; cases hk; cases hc)]; exact hk
theorem Coll.cells {W : World} {base : Nat} {ow : Value} {qa : List Arr} (h : Coll W base ow qa) : ∀ g, ow.ownBlock = some g → ∃ cs t, W.heap[g]? = some (.cells cs t (0, 0)) := by
 obtain ⟨cs, h1, _⟩ := h
 intro g hg
 rcases h1.own.2 with ⟨rfl, _⟩ | ⟨g', cap, cur, rfl, hbg, hh, _⟩
 · cases hg
 · cases hg; exact ⟨_, _, hh⟩
theorem Coll.blk {w w' : World} {base b : Nat} {ow : Value} {qa : List Arr} {t : TypeId} {cs : Array Value} (h : Coll w base ow qa) (hg : w.grownBy w' ow.ownBlock) (hb : Blk w b t cs) (hlt : b < base) : Blk w' b t cs :=
 (hg.block b hb.lt fun e1 => by have := (h.lt b e1.symm).1; omega).trans hb
theorem Coll.below {w w' w0 : World} {base : Nat} {ow : Value} {qa : List Arr} (h : Coll w base ow qa) (hg : w.grownBy w' ow.ownBlock) (hb : Below w0.heap.size w0 w) (hle : w0.heap.size ≤ base) : Below w0.heap.size w0 w' :=
 hb.grown hg hb.size fun k hk => Nat.le_trans hle (h.lt k hk).1
theorem AK.cell {Bs G g i : Nat} {v : Value} {W : World} (h0 : Bs ≠ g) (h1 : G ≠ g) : AK Bs G W (W.setCell ⟨g, i, none⟩ v) :=
 ⟨KeepsOthers.setCell _ _ _, Below.heap_setCell _ _ _ _ h0, Below.heap_setCell _ _ _ _ h1⟩
theorem NA.alloc {W : World} {G : Nat} (h : NA W G) (o : Obj) (ho : W.heap.size = G → ∃ cs t, o = .cells cs t ∧ noU32 cs = true) : NA (W.alloc o) G := by
 rcases h with h | ⟨t, cs, h, hn⟩
 ·
  rcases Nat.lt_or_ge W.heap.size G with g | g
  · exact .inl (by rw [World.size_alloc]; omega)
  ·
   have e : W.heap.size = G := by omega
   obtain ⟨cs, t, rfl, hn⟩ := ho e
   exact .inr ⟨t, cs, Blk.new' e, hn⟩
 · exact .inr ⟨t, cs, h.alloc o, hn⟩
theorem NA.set {W : World} {G i : Nat} {x : Int} (h : NA W G) : NA (W.setCell ⟨G, i, none⟩ (.int .i64 x)) G ∧ Keeps W (W.setCell ⟨G, i, none⟩ (.int .i64 x)) := by
 rcases h with h | ⟨t, cs, h, hn⟩
 ·
  have hs : (W.setCell ⟨G, i, none⟩ (.int .i64 x)).heap.size = W.heap.size := World.size_setCell ..
  refine ⟨.inl (by rw [hs]; exact h), fun v l hl => ?_⟩
  obtain ⟨h0, ao, cap, rfl, h1, h3, h2⟩ := hl
  refine ⟨h0, ao, cap, rfl, h1, h3, fun hne => ?_⟩
  obtain ⟨b, o, rfl, hb, hc⟩ := h2 hne
  refine ⟨b, o, rfl, by rw [hs]; exact hb, fun t ht => ?_⟩
  have e := Below.heap_setCell W ⟨G, i, none⟩ (.int .i64 x) b (show b ≠ G by omega)
  have := hc t ht
  unfold World.cell? at this ⊢
  rw [e]; exact this
 · exact ⟨.inr ⟨t, _, h.set_ i _, noU32_set hn rfl⟩, Keeps.only h hn ((Only.refl _ _).set)⟩
end Go.Proofs.YtffmbepfbienaaaGreat
namespace Go.Proofs.YtffmbepfbienaaaGreat
open Go.RowKit
attribute [local go_sem high] run_min2
end Go.Proofs.YtffmbepfbienaaaGreat
