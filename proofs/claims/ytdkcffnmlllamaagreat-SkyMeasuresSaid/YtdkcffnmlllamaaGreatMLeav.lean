import Derived.Conc.Holds
import Derived.ClaimOpenTies
/- Who is alone at the return: all others are only leaving. -/
set_option linter.unusedVariables false
set_option linter.unusedSimpArgs false
namespace Go.Proofs.YtdkcffnmlllamaaGreat
theorem handed_leaving {a:Assume} {C:Checked} {os:Os} {f:FuncId} {r:Reach} {Pre:World→Array Value→Prop} {Post:World→Array Value→Value→World→Prop} (h:ReturnsInHanded a C os f r Pre Post):ReturnsInLeavingWide a C os f r Pre Post:=fun enter=>
 (h enter).mono (fun m _ _ hm=>⟨hm.2.1,⟨fun g hg=>⟨0,by
  have:=List.all_eq_true.1 hm.1.1 g hg
  show g.status = .finished
  simpa using this⟩,hm.1.2⟩,hm.2.2⟩) (fun _ h=>h)
end Go.Proofs.YtdkcffnmlllamaaGreat
