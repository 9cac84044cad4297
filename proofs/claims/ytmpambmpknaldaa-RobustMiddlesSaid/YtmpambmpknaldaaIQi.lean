import Derived.Sort.CutIn
import Derived.Test.YtmpambmpknaldaaIQg
import Derived.Test.YtmpambmpknaldaaIRow
set_option linter.unusedVariables false
set_option linter.unusedSimpArgs false
namespace Go.Proofs.Ytmpambmpknaldaa
open Go.RowKit Go.Shelf
theorem run_store_func {P : Program} {w : World} {a : Addr} {m : Mode} (f : Fn) (ts vs : _) : (store a (.func f ts vs) m).run P w = stored P w a (.func f ts vs) m := run_store P w a _ m rfl
attribute [local go_sem] Oper.semAt_some run_store_func
def bestP (l : PL) (K : Nat → Nat) (pre : List P4) : Arr := best (pre.map (arrOf l K))
end Go.Proofs.Ytmpambmpknaldaa
