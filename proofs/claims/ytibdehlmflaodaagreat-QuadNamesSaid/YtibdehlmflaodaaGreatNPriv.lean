import Derived.RangeFuncNested
import Derived.Test.YtibdehlmflaodaaGreatNRow
/- A range over a function whose iterator has a variable of its own in memory, which it writes between two rounds. -/
set_option linter.unusedVariables false
set_option linter.unusedSimpArgs false
namespace Go.Proofs.YtibdehlmflaodaaGreat
open Go.RowKit
structure Calm {α : Type} (G : Nat) (J : List α → World → Prop) : Prop where
 al : ∀ {xs A} (o : Obj), (A.heap.size = G → ∃ cs t, o = .cells cs t ∧ noU32 cs = true) → J xs A → J xs (A.alloc o)
 dr : ∀ {xs A} (m : Nat), J xs A → J xs (A.drewN m)
 st : ∀ {xs A} (i : Nat) (x : Int), J xs A → J xs (A.setCell ⟨G, i, none⟩ (.int .i64 x))
def PrivSeq {α : Type} (F : Fence) (m : Nat) (P : Program) (gf : Nat) (lb : Array Value) (encs : α → Array Value) (Kp : World → World → Prop) (S : List α → Prop) (El : List α → α → Prop) (G : Nat) (Pr : World → Prop) : Prop :=
 ∀ (l : Nat) (J : List α → World → Prop) (A : World), Pr A → A.heap.size = G → Calm G J →
  (∀ pre x B, J pre B → El pre x → G < B.heap.size → YieldAt F (m - 1) P l (encs x) B fun e C => e = .returned (.bool true) ∧ J (pre ++ [x]) C ∧ Kp B C) →
  J [] A → CallsIn F m P gf (#[.func (.yield l) #[] #[]] ++ lb) A fun e C => (∃ v, e = .returned v) ∧ ∃ xs, S xs ∧ J xs C
section
variable {α : Type} {P : Program} {F : Fence} {n : Nat}
theorem range_priv {g : Operand} {ps : Array Tmp} {assign body : Code} {Q : Exit → Act → World → Prop} {a : Act} {w : World}
  (hro : F.round = none) (h1 : 1 ≤ n) {gf : Nat} {lb : Array Value} (hg : a.eval g = .func (.func gf) #[] lb) (hFg : F.fn gf) (eg : ∀ args w, (callFunc gf args).run P w = .ok (.enter gf args) w)
  {encs : α → Array Value} {Kp : World → World → Prop} {S : List α → Prop} {El : List α → α → Prop} {Pr : World → Prop} (hseq : PrivSeq F (n - 1) P gf lb encs Kp S El (w.heap.size + 2) Pr) (hpr : ∀ o o', Pr ((w.alloc o).alloc o')) (hps : ∀ x, (encs x).size = ps.size)
  (hKt : ∀ {A B C : World}, Kp A B → Kp B C → Kp A C) (hKo : ∀ (A : World) (o o' : Obj), A.heap[w.heap.size + 1]? = some o → o.isCells = false → Kp A (A.putObj (w.heap.size + 1) o'))
  (I : List α → World → Prop) (hI : Calm (w.heap.size + 2) I) (hIo : ∀ xs A (o o' : Obj), I xs A → A.heap[w.heap.size + 1]? = some o → o.isCells = false → I xs (A.putObj (w.heap.size + 1) o'))
  (h0 : I [] w) (Ax : α → Act → World → Prop) (hAo : ∀ x a' A (o o' : Obj), Ax x a' A → A.heap[w.heap.size + 1]? = some o → o.isCells = false → Ax x a' (A.putObj (w.heap.size + 1) o'))
  (hassign : ∀ (pre : List α) (x : α) (A : World) (K : Act → World → Prop), I pre A → w.heap.size + 2 < A.heap.size → (∀ a' A', KeepsOthers A A' → Kp A A' → I pre A' → Ax x a' A' → K a' A') →
   assign.wpIn (F.inRound (w.heap.size + 1)) (n - 1 - 1) P (Exit.then K (fun _ _ _ => False)) { tmps := (ps.zip (encs x)).foldl (fun t (p, v) => t.setIfInBounds p v) a.tmps, defers := [] } A)
  (hbody : ∀ (pre : List α) (x : α) (a' : Act) (A : World), (∃ r, A.heap[w.heap.size + 1]? = some (.loop r)) → I pre A → Ax x a' A → El pre x → w.heap.size + 2 < A.heap.size →
   body.wpIn (F.inRound (w.heap.size + 1)) (n - 1 - 1) P (ownPostG w.heap.size Kp I (fun _ _ _ => False) (pre ++ [x]) A) a' A)
  (hdone : ∀ (D : Nat) (xs : List α) (A : World), w.heap.size ≤ D → S xs → I xs A → A.heap[D]? = some (.deferred (some [])) → Q .normal { a with defers := { target := .collected D, args := #[] } :: a.defers } A) :
  (Code.rangeFunc g ps assign body).wpIn F n P Q a w := by
 refine wpIn_rangeFunc fun fn hfn => ?_
 rw [hro]
 -- the loop's record in its states
 obtain ⟨rec, hrec⟩ : ∃ rec : LoopState → Option Code → Loop, ∀ s p, rec s p = { state := s, pending := p, fn := fn, tmps := a.tmps, params := ps, assign := assign, body := body, defers := w.heap.size } := ⟨_, fun _ _ => rfl⟩
 let D := w.heap.size
 let L := w.heap.size + 1
 have hL : L = w.heap.size + 1 := rfl
 let Ok : World → Prop := fun A => A.heap[L]? = some (.loop (rec .ready none)) ∧ A.heap[D]? = some (.deferred (some []))
 let W := (w.alloc (.deferred (some []))).alloc (.loop (rec .ready none))
 have hWs : W.heap.size = w.heap.size + 2 := by simp [W]
 have hok : Ok W := by
  constructor
  ·
   have := World.alloc_heap_new (w.alloc (.deferred (some []))) (.loop (rec .ready none))
   rwa [World.size_alloc] at this
  · exact (Below.heap_alloc _ _ _ (by simp [D])).trans (World.alloc_heap_new w _)
 have same : ∀ {A B : World}, KeepsOthers A B → Ok A → Ok B := fun k h => ⟨k.same _ _ h.1 rfl, k.same _ _ h.2 rfl⟩
 have calm : Calm (w.heap.size + 2) (fun pre A => I pre A ∧ Ok A) :=
  ⟨fun o ho h => ⟨hI.al o ho h.1, same (KeepsOthers.alloc _ o) h.2⟩, fun m h => ⟨hI.dr m h.1, h.2⟩, fun i v h => ⟨hI.st i v h.1, same (KeepsOthers.setCell _ _ _) h.2⟩⟩
 refine ⟨L, [{ target := .collected D, args := #[] }], W, { target := .fn (.func gf) lb, args := #[.func (.yield L) #[] #[]] }, W, gf, #[.func (.yield L) #[] #[]] ++ lb, W, ?_, ?_, ?_, ?_, fun _ => h1, ?_⟩
 ·
  show _ = Result.ok _ ((w.alloc _).alloc (.loop (rec .ready none)))
  rw [hrec]; exact run_enterLoop_outer _ _ _ _ _
 · simp only [resolve, hg]; simp [go_sem]
 · intro f' hf'; simp [Target.leads] at hf'; subst hf'; exact hFg
 · simp [invoke, go_sem, eg]
 refine (hseq L (fun pre A => I pre A ∧ Ok A) W (hpr _ _) hWs calm ?_ ⟨hI.al _ (fun h => by rw [World.size_alloc] at h; omega) (hI.al _ (fun h => by omega) h0), hok⟩).mono ?_
 ·
  rintro pre x B ⟨hi, hb⟩ hlen hgs
  have hy := run_yield (P := P) (args := encs x) hb.1 (by rw [hrec]; exact hps x)
  rw [hrec] at hy
  refine ⟨fn, _, assign, body, hy, roundIn_of_wpIn hfn (hassign pre x B _ hi hgs fun a' A' ko kp hi' hax => ?_)⟩
  have hb' := same ko hb
  have hlt : L < A'.heap.size := (Array.getElem?_eq_some_iff.1 hb'.1).1
  refine ⟨_, run_beginRound hb'.1 (by rw [hrec]), ?_⟩
  generalize hbusy : { rec .ready none with state := LoopState.busy } = busy
  have e2 : (A'.putObj L (.loop busy)).heap[L]? = some (.loop busy) := World.putObj_heap_same hlt
  have e3 : (A'.putObj L (.loop busy)).heap[D]? = some (.deferred (some [])) := (World.putObj_heap_other (show D ≠ L by omega)).trans hb'.2
  refine wpIn_mono (hbody pre x a' _ ⟨_, e2⟩ (hIo _ _ _ _ hi' hb'.1 rfl) (hAo _ _ _ _ _ hax hb'.1 rfl) hlen (by have h3 := ko.size; have h4 := (grownBy_putObj' A' L (.loop busy)).size; omega)) ?_
  rintro e a3 C hp
  cases e with
  | normal =>
   obtain ⟨k3, kp3, i3⟩ := hp
   have e4 : C.heap[L]? = some (.loop busy) := k3.same _ _ (show w.heap.size ≤ L by omega) e2 rfl
   have e5 : C.heap[D]? = some (.deferred (some [])) := k3.same _ _ (Nat.le_refl _) e3 rfl
   have hl3 : L < C.heap.size := (Array.getElem?_eq_some_iff.1 e4).1
   have hr := run_endRound (P := P) none e4
   have hb2 : { busy with state := if (none : Option Code).isNone then LoopState.ready else .done, pending := none } = rec .ready none := by rw [← hbusy, hrec]; rfl
   rw [hb2] at hr
   exact ⟨_, _, hr, rfl, ⟨hIo _ _ _ _ i3 e4 rfl, World.putObj_heap_same hl3, (World.putObj_heap_other (show D ≠ L by omega)).trans e5⟩, hKt kp (hKt (hKt (hKo _ _ _ hb'.1 rfl) kp3) (hKo _ _ _ e4 rfl))⟩
  | ret => exact hp.2.elim
  | exit id => exact hp.2.elim
  | goto t => exact hp.2.elim
  | panic ch => exact hp.elim
  | outgrown => exact hp.elim
 ·
  rintro e C ⟨⟨v, rfl⟩, xs, hS, hi, hc⟩
  have hr := run_endLoop (P := P) hc.1 (by rw [hrec]; simp)
  rw [show (rec LoopState.ready none).pending = none by rw [hrec]] at hr
  exact ⟨none, _, hr, hdone D xs _ (Nat.le_refl _) hS (hIo _ _ _ _ hi hc.1 rfl) ((World.putObj_heap_other (show D ≠ L by omega)).trans hc.2)⟩
end
end Go.Proofs.YtibdehlmflaodaaGreat
