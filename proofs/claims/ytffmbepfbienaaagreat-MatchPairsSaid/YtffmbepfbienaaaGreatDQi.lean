import Derived.Sort.CutIn
import Derived.Test.YtffmbepfbienaaaGreatDQg
import Derived.Test.YtffmbepfbienaaaGreatDRow
set_option linter.unusedVariables false
set_option linter.unusedSimpArgs false
namespace Go.Proofs.YtffmbepfbienaaaGreat
open Go.RowKit Go.Shelf
attribute [local go_sem] Oper.semAt_some run_store_func
def bestP (l : PL) (K : Nat → Nat) (pre : List P4) : Arr := best (pre.map (arrOf l K))
end Go.Proofs.YtffmbepfbienaaaGreat
