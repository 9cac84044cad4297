import Derived.Test.YtdkcffnmlllamaaGreatMGlue
import Derived.Test.YtdkcffnmlllamaaGreatMRowU
import Derived.Test.YtdkcffnmlllamaaGreatMNp
/- Lists of int64 and fractions as arguments. -/
set_option linter.unusedVariables false
set_option linter.unusedSimpArgs false
namespace Go.Proofs.YtdkcffnmlllamaaGreat
open Go.ChangeShapes Go.WideShapes Go.ChangeAt Go.RowKit Go.Joins
section
variable {H:Type} {enc:TypeId×Value→H} {W:World} {base:Nat} {held:Bool} {n:Nat}
theorem cellsJ:Tryz.prog.cellsOf 2=1:=by kernel_rfl
end
theorem raw_fbV {w:World} {gx gy:Bool} {sa sb:Value} {la lb:List Int} (ha:Lim w sa la) (hb:Lim w sb lb):∃o,FB w (.agg #[.bool gx,sa,.bool gy,sb]) o∧∀q,o=some q→absN q.num≤bp la.length∧(q.den:Int)≤bp lb.length:=by
 rcases raw_cases (gx:=gx) (gy:=gy) ha hb with⟨r,h,h1,h2⟩ | h
 · exact⟨some r,h,fun q e=>by cases e; exact⟨h1,h2⟩⟩
 · exact⟨none,h,fun q e=>by cases e⟩
end Go.Proofs.YtdkcffnmlllamaaGreat
