import Derived.Test.YtalnlnpnacfdfaaGreatCAlive
import Derived.Test.YtalnlnpnacfdfaaGreatCPartsM
import Derived.Deep.QuietTactic
import Derived.BigQuiet
import Derived.Deep.DeepCutAuto
namespace Go.Proofs.YtalnlnpnacfdfaaGreat
open Go.RowKit
set_option maxHeartbeats 3200000 in
set_option maxRecDepth 1000000 in
theorem lpoint (a b k : Int) (w : World) (v : V a b) (k0 : 0 ≤ k) (k1 : k < 18446744073709551616) : Calls Tryz.prog 8 #[.agg #[.int .i64 a, .int .i64 b], .int .u64 k] w fun e w' => e = .returned (.int .i64 (a + k % (b - a + 1))) ∧ Steps w w' := by
  obtain ⟨v0, v1, v2⟩ := v
  have m0 := Int.emod_nonneg k (show b - a + 1 ≠ 0 by omega)
  have m1 := Int.emod_lt_of_pos k (show 0 < b - a + 1 by omega)
  have M := Hid.mk_ (And.intro m0 m1)
  have e10 : ¬ b - a + 1 = 0 := by omega
  clear m0 m1
  go_enter Tryz.func8, Tryz.ntmps8
  go_wp2_with fail
  go_quiet (fail)
  go_wp2
  go_returns
  exact ⟨retI (by have := M.out; unfold wrap64; omega), belowB⟩
theorem point_in {a b k : Int} (v : V a b) : a ≤ a + k % (b - a + 1) ∧ a + k % (b - a + 1) ≤ b := by
  obtain ⟨v0, v1, v2⟩ := v
  have m0 := Int.emod_nonneg k (show b - a + 1 ≠ 0 by omega)
  have m1 := Int.emod_lt_of_pos k (show 0 < b - a + 1 by omega)
  omega
end Go.Proofs.YtalnlnpnacfdfaaGreat
