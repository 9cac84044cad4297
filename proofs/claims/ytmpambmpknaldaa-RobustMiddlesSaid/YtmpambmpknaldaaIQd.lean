import Derived.Test.YtmpambmpknaldaaIQc
import Derived.Test.YtmpambmpknaldaaITz
import Derived.LoopN
set_option linter.unusedVariables false
set_option linter.unusedSimpArgs false
set_option maxHeartbeats 6400000
set_option maxRecDepth 1000000
namespace Go.Proofs.Ytmpambmpknaldaa
open Go.RowKit
structure At4 (w : World) (v : Value) (l : List (Int × Int)) (k0 k1 k2 k3 : Nat) (p0 p1 p2 p3 : Int × Int) : Prop where
 pts : Pts w v l
 lt : k0 < l.length ∧ k1 < l.length ∧ k2 < l.length ∧ k3 < l.length
 eq : l.getD k0 (0, 0) = p0 ∧ l.getD k1 (0, 0) = p1 ∧ l.getD k2 (0, 0) = p2 ∧ l.getD k3 (0, 0) = p3
def okp (x y : Int) : Prop := -1048576 ≤ x ∧ x ≤ 1048576 ∧ -1048576 ≤ y ∧ y ≤ 1048576
theorem cnan64 (x : Int) (w : World) : Calls Try.prog 47 #[.int .i64 x] w fun e w' => e = .returned (.bool false) ∧ Steps w w' := by
 go_enter Try.func47, Try.ntmps47
 go_wp2
 go_returns
 exact ⟨rfl, belowB⟩
theorem ccmp64 (x y : Int) (w : World) : Calls Try.prog 34 #[.int .i64 x, .int .i64 y] w fun e w' => e = .returned (.int .i64 (cmpI x y)) ∧ Steps w w' := by
 rcases (show x < y ∨ x = y ∨ y < x by omega) with h | h | h
 ·
  have E : Hid (cmpI x y = -1) := by show cmpI x y = _; unfold cmpI; rw [if_neg (by omega), if_pos h]
  go_enter Try.func34, Try.ntmps34
  go_wp2_with fail
  refine (cnan64 _ _).mono ?_
  rintro e w1 ⟨rfl, hb1⟩
  have st : Steps _ w1 := hb1
  have Bn : Below w.heap.size w w1 := belowA st
  clear st
  have B := Bn
  clear Bn
  go_wp2_with fail
  refine (cnan64 _ _).mono ?_
  rintro e w2 ⟨rfl, hb2⟩
  have st : Steps _ w2 := hb2
  have Bn : Below w.heap.size w w2 := belowA st
  clear B
  clear st
  have B := Bn
  clear Bn
  go_wp2
  go_returns
  exact ⟨retI E.out.symm, belowB⟩
 ·
  have E : Hid (cmpI x y = 0) := by show cmpI x y = _; unfold cmpI; rw [if_pos h]
  subst h
  go_enter Try.func34, Try.ntmps34
  go_wp2_with fail
  refine (cnan64 _ _).mono ?_
  rintro e w1 ⟨rfl, hb1⟩
  have st : Steps _ w1 := hb1
  have Bn : Below w.heap.size w w1 := belowA st
  clear st
  have B := Bn
  clear Bn
  go_wp2_with fail
  refine (cnan64 _ _).mono ?_
  rintro e w2 ⟨rfl, hb2⟩
  have st : Steps _ w2 := hb2
  have Bn : Below w.heap.size w w2 := belowA st
  clear B
  clear st
  have B := Bn
  clear Bn
  go_wp2
  go_returns
  exact ⟨retI E.out.symm, belowB⟩
 ·
  have E : Hid (cmpI x y = 1) := by show cmpI x y = _; unfold cmpI; rw [if_neg (by omega), if_neg (by omega)]
  go_enter Try.func34, Try.ntmps34
  go_wp2_with fail
  refine (cnan64 _ _).mono ?_
  rintro e w1 ⟨rfl, hb1⟩
  have st : Steps _ w1 := hb1
  have Bn : Below w.heap.size w w1 := belowA st
  clear st
  have B := Bn
  clear Bn
  go_wp2_with fail
  refine (cnan64 _ _).mono ?_
  rintro e w2 ⟨rfl, hb2⟩
  have st : Steps _ w2 := hb2
  have Bn : Below w.heap.size w w2 := belowA st
  clear B
  clear st
  have B := Bn
  clear Bn
  go_wp2
  go_returns
  exact ⟨retI E.out.symm, belowB⟩
def orI (c d : Int) : Int := if c = 0 then d else c
def arrV (a : Arr) : Value := .agg #[.int .i64 a.k0, .int .i64 a.k1, .int .i64 a.k2, .int .i64 a.k3, .int .i64 a.a1, .int .i64 a.a2, .int .i64 a.b1, .int .i64 a.b2, .int .i64 a.n]
def okA (a : Arr) : Prop := -35184372088832 ≤ a.a1 ∧ a.a1 ≤ 35184372088832 ∧ -35184372088832 ≤ a.b1 ∧ a.b1 ≤ 35184372088832
def arrF (a : Arr) (i : Nat) : Int := match i with | 0 => a.a1 | 1 => a.a2 | 2 => a.b1 | 3 => a.b2 | 4 => a.k0 | 5 => a.k1 | 6 => a.k2 | _ => a.k3
def arrR (x y : Nat → Int) : Nat → Int
 | 0 => cmpI (x 0 + x 2) (y 0 + y 2)
 | k + 1 => orI (arrR x y k) (cmpI (x k) (y k))
end Go.Proofs.Ytmpambmpknaldaa
