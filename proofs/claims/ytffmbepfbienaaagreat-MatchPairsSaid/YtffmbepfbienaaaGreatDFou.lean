import Derived.Sort.CutIn
import Derived.LoopNIn
import Derived.Test.YtffmbepfbienaaaGreatDTz
import Derived.Test.YtffmbepfbienaaaGreatDPriv
set_option linter.unusedVariables false
set_option linter.unusedSimpArgs false
namespace Go.Proofs.YtffmbepfbienaaaGreat
open Go.RowKit Go.Shelf
attribute [local go_sem] Oper.semAt_some
def foursV (x : P4) : Value := .agg #[.int .i64 (x.1 : Nat), .int .i64 (x.2.1 : Nat), .int .i64 (x.2.2.1 : Nat), .int .i64 (x.2.2.2 : Nat)]
def foursE (x : P4) : Array Value := #[foursV x]
def KF (Bs G : Nat) (A B : World) : Prop := B.heap[Bs]? = A.heap[Bs]? ∧ B.heap[G]? = A.heap[G]?
def rk (w : World) (g : Nat) : Nat :=
 512 * (intOf ((w.cell? ⟨g, 0, none⟩).getD undef)).toNat + 64 * (intOf ((w.cell? ⟨g, 1, none⟩).getD undef)).toNat + 8 * (intOf ((w.cell? ⟨g, 2, none⟩).getD undef)).toNat + (intOf ((w.cell? ⟨g, 3, none⟩).getD undef)).toNat
end Go.Proofs.YtffmbepfbienaaaGreat
