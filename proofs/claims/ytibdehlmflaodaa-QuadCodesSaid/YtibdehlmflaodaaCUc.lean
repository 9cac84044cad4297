import Derived.Test.YtibdehlmflaodaaCUb
import Derived.Defers
import Derived.Recover
import Derived.Laws.Pointers
import Derived.WalkLawsBesides
namespace Go.Proofs.Ytibdehlmflaodaa
open Go.RowKit
theorem fwant0 (w : World) : Calls Try.prog 71 #[.int .i64 0] w fun e w' => e = .returned (.tuple #[]) ∧ w' = w := by
  go_enter Try.func71, Try.ntmps71
  go_wp2
  go_end0
  exact ⟨rfl, rfl⟩
def fallV (e : Int) : Value := .iface 116 (.agg #[.int .i64 e])
theorem fwantE (e : Int) (w : World) (he : (e == 0) = false) : Calls Try.prog 71 #[.int .i64 e] w fun r w' => r = .panicked [{ v := fallV e, recovered := false }] ∧ w' = w := by
  go_enter Try.func71, Try.ntmps71
  go_wp2
  all_goals exact ⟨rfl, rfl, rfl⟩
theorem fcatch_idle (p : Addr) (w : World) :
    CallsD Try.prog 70 #[.pointer (some p)] .returning w fun e u' w' => e = .returned (.tuple #[]) ∧ u' = .returning ∧ w' = w := by
  refine callsD_of_wpS Try.func70 rfl fun c₀ cs hu => ?_
  apply wpS_seq
  apply wpS_region
  simp [wpOpsS, go_sem, recoverD, hu, Try.ntmps70, Exit.thenS]
  refine wpS_of_wp ?_
  show Code.wp _ _ _ ⟨#[.pointer (some p), undef, undef, undef, undef, .nilIface, undef, undef, undef, undef, undef, undef, undef, undef, undef], []⟩ w
  go_wp2_with fail
  cases c₀
  simp_all [bodyPostS, results, Try.results70]
set_option maxRecDepth 100000 in
theorem fcatch_fall (b o : Nat) (x y : Int) (older : List PanicEntry) (w : World) (hc : w.cell? ⟨b, o, none⟩ = some (.int .i64 y)) (hz : w.frozen? ⟨b, o, none⟩ = false) (hp : b < w.heap.size) :
    CallsD Try.prog 70 #[.pointer (some ⟨b, o, none⟩)] (.panicking ({ v := fallV x, recovered := false } :: older)) w fun e u' w' =>
      e = .returned (.tuple #[]) ∧ u' = .panicking ({ v := fallV x, recovered := true } :: older) ∧ w' = (w.setCell ⟨b, o, none⟩ (.int .i64 x)).alloc (.cells #[.int .i64 x] 116) := by
  have hta : ∀ w : World, (Instr.typeAssert (.iface 116 (.agg #[.int .i64 x])) 20 116 true).run Try.prog w = .ok (.tuple #[.agg #[.int .i64 x], .bool true]) w := fun w => by kernel_rfl
  refine callsD_of_wpS Try.func70 rfl fun c₀ cs hu => ?_
  apply wpS_seq
  apply wpS_region
  simp [wpOpsS, go_sem, recoverD, hu, Try.ntmps70, Exit.thenS]
  refine wpS_of_wp ?_
  show Code.wp _ _ _ ⟨#[.pointer (some ⟨b, o, none⟩), undef, undef, undef, undef, fallV x, undef, undef, undef, undef, undef, undef, undef, undef, undef], []⟩ w
  unfold fallV
  go_wp2_with fail
  cases c₀
  simp_all [bodyPostS, results, Try.results70, fallV]
end Go.Proofs.Ytibdehlmflaodaa
