import Derived.Test.YtmpambmpknaldaaGreatAQc
import Derived.Test.YtmpambmpknaldaaGreatATz
import Derived.LoopN
set_option linter.unusedVariables false
set_option linter.unusedSimpArgs false
namespace Go.Proofs.YtmpambmpknaldaaGreat
open Go.RowKit
structure At4 (w : World) (v : Value) (l : List (Int × Int)) (k0 k1 k2 k3 : Nat) (p0 p1 p2 p3 : Int × Int) : Prop where
 pts : Pts w v l
 lt : k0 < l.length ∧ k1 < l.length ∧ k2 < l.length ∧ k3 < l.length
 eq : l.getD k0 (0, 0) = p0 ∧ l.getD k1 (0, 0) = p1 ∧ l.getD k2 (0, 0) = p2 ∧ l.getD k3 (0, 0) = p3
def okp (x y : Int) : Prop := -1048576 ≤ x ∧ x ≤ 1048576 ∧ -1048576 ≤ y ∧ y ≤ 1048576
def orI (c d : Int) : Int := if c = 0 then d else c
def arrV (a : Arr) : Value := .agg #[.int .i64 a.k0, .int .i64 a.k1, .int .i64 a.k2, .int .i64 a.k3, .int .i64 a.a1, .int .i64 a.a2, .int .i64 a.b1, .int .i64 a.b2, .int .i64 a.n]
def okA (a : Arr) : Prop := -35184372088832 ≤ a.a1 ∧ a.a1 ≤ 35184372088832 ∧ -35184372088832 ≤ a.b1 ∧ a.b1 ≤ 35184372088832
def arrF (a : Arr) (i : Nat) : Int := match i with | 0 => a.a1 | 1 => a.a2 | 2 => a.b1 | 3 => a.b2 | 4 => a.k0 | 5 => a.k1 | 6 => a.k2 | _ => a.k3
def arrR (x y : Nat → Int) : Nat → Int
 | 0 => cmpI (x 0 + x 2) (y 0 + y 2)
 | k + 1 => orI (arrR x y k) (cmpI (x k) (y k))
end Go.Proofs.YtmpambmpknaldaaGreat
