import Derived.Test.YtalnlnpnacfdfaaProg
import Derived.WalkKit
import Derived.Handy
import Derived.WalkSpells
import Derived.Laws.MathBits
import Derived.Laws.Externs
import Derived.Shelf.Spec.BitsCarry
import Derived.Lib.Hide
import Derived.Deep.QuietTactic
import Derived.BigQuiet
import Derived.Deep.Draws
import Derived.Deep.RegionHeld3
import Derived.Deep.DeepCutAuto
import Derived.Deep.DeepMust
import Derived.Deep.RegionWith
namespace Go.Proofs.Ytalnlnpnacfdfaa
open Go.RowKit
theorem retI {k : IntKind} {a b : Int} (h : a = b) : Ending.returned (.int k a) = .returned (.int k b) := by rw [h]
theorem ret2I {k l : IntKind} {a b c d : Int} (h : a = b) (g : c = d) : Ending.returned (.tuple #[.int k a, .int l c]) = .returned (.tuple #[.int k b, .int l d]) := by rw [h, g]

/-- the borrow of 0 - y -/
def bor (y : Int) : Int := if 0 < y then 1 else 0
theorem bor_01 (y : Int) : 0 ≤ bor y ∧ bor y ≤ 1 := by unfold bor; split <;> omega

theorem sub64_neg (y : Int) (hy0 : 0 ≤ y) (hy1 : y < 18446744073709551616) (w : World) : (callFunc 83 #[.int .u64 0, .int .u64 y, .int .u64 0]).run Try.prog w =
    .ok (.value (.tuple #[.int .u64 ((-y) % 18446744073709551616), .int .u64 (bor y)])) w := by
  obtain ⟨y, rfl⟩ := Int.eq_ofNat_of_zero_le hy0
  rw [run_callFunc_extern Try.func83 (by kernel_rfl) (by kernel_rfl) (by kernel_rfl) (e := sub64Entry) (by kernel_rfl)]
  have h := run_sub64 (P := Try.prog) 0 y 0 (by omega) w
  have e1 : (((0 + 18446744073709551616 - y - 0) % 18446744073709551616 : Nat) : Int) = (-(y : Int)) % 18446744073709551616 := by omega
  have e2 : ((if 0 < y + 0 then 1 else 0 : Nat) : Int) = bor y := by unfold bor; split <;> split <;> omega
  rw [e1, e2] at h
  show (Sem.run Try.prog (sub64Entry #[.int .u64 ((0 : Nat) : Int), .int .u64 y, .int .u64 ((0 : Nat) : Int)]) w).andThen _ = _
  rw [h]
  rfl

set_option maxHeartbeats 1000000 in
theorem mul64 (x y : Int) (w : World) (hx0 : 0 ≤ x) (hx : x < 18446744073709551616) (hy0 : 0 ≤ y) (hy : y < 18446744073709551616) :
    Calls Try.prog 80 #[.int .u64 x, .int .u64 y] w fun e w' => e = .returned (.tuple #[.int .u64 (x * y / 18446744073709551616), .int .u64 (x * y % 18446744073709551616)]) ∧ w = w' := by
  have h := mul64_arith x y hx0 hx hy0 hy
  have H := Lib.hid h
  clear h
  go_enter Try.func80, Try.ntmps80
  go_wp2
  simp only [IntKind.wrap_u64]
  simp (disch := omega) only [and_low32]
  rw [H.out]
  go_ret2
  exact ⟨rfl, rfl⟩

theorem len_close (x y : Int) (b : Nat) (hy : y.toNat = x.toNat / 2 ^ b) (hp : 0 < y) (h : y < 256) (hb : b ≤ 56) :
    wrap64 ((b : Int) + wrap64 ((bitLen y.toNat : Nat) : Int)) = ((bitLen x.toNat : Nat) : Int) := by
  have l := bitLen_le8 y.toNat (by omega)
  have s := bitLen_shift x.toNat b (by omega)
  rw [← hy] at s
  rw [s]
  unfold wrap64
  omega
theorem len_close0 (x : Int) (h : x < 256) : wrap64 (wrap64 ((bitLen x.toNat : Nat) : Int)) = ((bitLen x.toNat : Nat) : Int) := by
  have l := bitLen_le8 x.toNat (by omega)
  unfold wrap64
  omega
set_option maxRecDepth 100000 in
set_option maxHeartbeats 4000000 in
theorem len64 (x : Int) (w : World) (hx0 : 0 ≤ x) (hx : x < 18446744073709551616) :
    Calls Try.prog 127 #[.int .u64 x] w fun e w' => e = .returned (.int .i64 (bitLen x.toNat)) ∧ w = w' := by
  go_enter Try.func127, Try.ntmps127
  go_wp2
  all_goals go_ret
  all_goals refine ⟨retI ?_, rfl⟩
  all_goals simp only [Array.getD_eq_getD_getElem?, List.getElem?_toArray, List.getElem?_cons_succ, List.getElem?_cons_zero, Option.getD_some, len8tab_get]
  all_goals first
    | exact len_close x _ 56 (by omega) (by omega) (by omega) (by omega)
    | exact len_close x _ 48 (by omega) (by omega) (by omega) (by omega)
    | exact len_close x _ 40 (by omega) (by omega) (by omega) (by omega)
    | exact len_close x _ 32 (by omega) (by omega) (by omega) (by omega)
    | exact len_close x _ 24 (by omega) (by omega) (by omega) (by omega)
    | exact len_close x _ 16 (by omega) (by omega) (by omega) (by omega)
    | exact len_close x _ 8 (by omega) (by omega) (by omega) (by omega)
    | exact len_close0 x (by omega)
    | skip

theorem bitLen_le64 (x : Int) (hx0 : 0 ≤ x) (hx : x < 18446744073709551616) : bitLen x.toNat ≤ 64 := by
  unfold bitLen
  split
  · omega
  · rename_i h0
    have := (Nat.log2_lt h0).2 (show x.toNat < 2 ^ 64 by omega)
    omega
theorem lz64 (x : Int) (w : World) (hx0 : 0 ≤ x) (hx : x < 18446744073709551616) :
    Calls Try.prog 110 #[.int .u64 x] w fun e w' => e = .returned (.int .i64 (64 - (bitLen x.toNat : Nat))) ∧ w = w' := by
  have hl := bitLen_le64 x hx0 hx
  go_enter Try.func110, Try.ntmps110
  go_wp2_with (go_at_call 127; refine (len64 _ _ hx0 hx).mono ?_; rintro e w' ⟨rfl, rfl⟩)
  go_ret
  exact ⟨rfl, rfl⟩
