import Derived.RangeFuncNested
import Derived.Test.YtffmbepfbienaaaGreatDRow
/- A range over a function whose iterator has a variable of its own in memory, which it writes between two rounds. -/
set_option linter.unusedVariables false
set_option linter.unusedSimpArgs false
namespace Go.Proofs.YtffmbepfbienaaaGreat
open Go.RowKit
structure Calm {α : Type} (G : Nat) (J : List α → World → Prop) : Prop where
 al : ∀ {xs A} (o : Obj), (A.heap.size = G → ∃ cs t, o = .cells cs t ∧ noU32 cs = true) → J xs A → J xs (A.alloc o)
 dr : ∀ {xs A} (m : Nat), J xs A → J xs (A.drewN m)
 st : ∀ {xs A} (i : Nat) (x : Int), J xs A → J xs (A.setCell ⟨G, i, none⟩ (.int .i64 x))
def PrivSeq {α : Type} (F : Fence) (m : Nat) (P : Program) (gf : Nat) (lb : Array Value) (encs : α → Array Value) (Kp : World → World → Prop) (S : List α → Prop) (El : List α → α → Prop) (G : Nat) (Pr : World → Prop) : Prop :=
 ∀ (l : Nat) (J : List α → World → Prop) (A : World), Pr A → A.heap.size = G → Calm G J →
  (∀ pre x B, J pre B → El pre x → G < B.heap.size → YieldAt F (m - 1) P l (encs x) B fun e C => e = .returned (.bool true) ∧ J (pre ++ [x]) C ∧ Kp B C) →
  J [] A → CallsIn F m P gf (#[.func (.yield l) #[] #[]] ++ lb) A fun e C => (∃ v, e = .returned v) ∧ ∃ xs, S xs ∧ J xs C
section
variable {α : Type} {P : Program} {F : Fence} {n : Nat}
end
end Go.Proofs.YtffmbepfbienaaaGreat
