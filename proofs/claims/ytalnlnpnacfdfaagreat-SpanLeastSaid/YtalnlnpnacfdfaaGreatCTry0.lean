import Derived.Test.YtalnlnpnacfdfaaGreatProg
import Derived.WalkKit
import Derived.Handy
import Derived.WalkSpells
namespace Go.Proofs.YtalnlnpnacfdfaaGreat
open Go.RowKit
theorem check1_ok (b : Nat) (lo hi : Int) (w : World) (h0 : w.cell? ⟨b, 0, none⟩ = some (.int .i64 lo)) (h1 : w.cell? ⟨b, 1, none⟩ = some (.int .i64 hi))
  (a0 : lo ≤ hi) (a1 : -2305843009213693952 ≤ lo) (a2 : hi ≤ 2305843009213693952) :
    Calls Tryz.prog 30 #[.slice (some ⟨b, 0, none⟩) 1 1] w fun e w' => e = .returned (.int .i64 0) ∧ Below w.heap.size w w' := by
  go_enter Tryz.func30, Tryz.ntmps30
  go_wp2
  go_rounds 2
  go_returns
  exact ⟨rfl, by go_grown⟩
theorem check1_bad (b : Nat) (lo hi : Int) (w : World) (h0 : w.cell? ⟨b, 0, none⟩ = some (.int .i64 lo)) (h1 : w.cell? ⟨b, 1, none⟩ = some (.int .i64 hi))
  (hn : ¬ (lo ≤ hi ∧ -2305843009213693952 ≤ lo ∧ hi ≤ 2305843009213693952)) :
    Calls Tryz.prog 30 #[.slice (some ⟨b, 0, none⟩) 1 1] w fun e w' => e = .returned (.int .i64 8) ∧ Below w.heap.size w w' := by
  go_enter Tryz.func30, Tryz.ntmps30
  go_wp2
  go_rounds 2
  all_goals go_returns
  all_goals exact ⟨rfl, by go_grown⟩
theorem check2_ok (b : Nat) (lo hi lo' hi' : Int) (w : World) (hb : b < w.heap.size) (h0 : w.cell? ⟨b, 0, none⟩ = some (.int .i64 lo)) (h1 : w.cell? ⟨b, 1, none⟩ = some (.int .i64 hi))
  (h2 : w.cell? ⟨b, 2, none⟩ = some (.int .i64 lo')) (h3 : w.cell? ⟨b, 3, none⟩ = some (.int .i64 hi'))
  (a0 : lo ≤ hi) (a1 : -2305843009213693952 ≤ lo) (a2 : hi ≤ 2305843009213693952) (b0 : lo' ≤ hi') (b1 : -2305843009213693952 ≤ lo') (b2 : hi' ≤ 2305843009213693952) :
    Calls Tryz.prog 30 #[.slice (some ⟨b, 0, none⟩) 2 2] w fun e w' => e = .returned (.int .i64 0) ∧ Below w.heap.size w w' := by
  go_enter Tryz.func30, Tryz.ntmps30
  go_wp2
  go_rounds 3
  go_returns
  exact ⟨rfl, by go_grown⟩
theorem check2_bad (b : Nat) (lo hi lo' hi' : Int) (w : World) (hb : b < w.heap.size) (h0 : w.cell? ⟨b, 0, none⟩ = some (.int .i64 lo)) (h1 : w.cell? ⟨b, 1, none⟩ = some (.int .i64 hi))
  (h2 : w.cell? ⟨b, 2, none⟩ = some (.int .i64 lo')) (h3 : w.cell? ⟨b, 3, none⟩ = some (.int .i64 hi'))
  (hn : ¬ ((lo ≤ hi ∧ -2305843009213693952 ≤ lo ∧ hi ≤ 2305843009213693952) ∧ (lo' ≤ hi' ∧ -2305843009213693952 ≤ lo' ∧ hi' ≤ 2305843009213693952))) :
    Calls Tryz.prog 30 #[.slice (some ⟨b, 0, none⟩) 2 2] w fun e w' => e = .returned (.int .i64 8) ∧ Below w.heap.size w w' := by
  go_enter Tryz.func30, Tryz.ntmps30
  go_wp2
  go_rounds 3
  all_goals go_returns
  all_goals exact ⟨rfl, by go_grown⟩
end Go.Proofs.YtalnlnpnacfdfaaGreat
