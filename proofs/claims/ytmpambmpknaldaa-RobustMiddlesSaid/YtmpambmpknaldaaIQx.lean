import Derived.Test.YtmpambmpknaldaaIQu
import Derived.Test.YtmpambmpknaldaaITz
import Derived.Deep.DeepAppendWide
set_option linter.unusedVariables false
set_option linter.unusedSimpArgs false
namespace Go.Proofs.Ytmpambmpknaldaa
open Go.RowKit
def kT (k : Nat → Int) (i : Nat) : Int := k (at4 2 0 3 1 i)
def pcs (l : PL) : List Value := l.flatMap fun p => [.int .i64 p.1, .int .i64 p.2]
theorem pcs_len (l : PL) : (pcs l).length = l.length * 2 := by
 induction l with
 | nil => rfl
 | cons p r ih => show ((pcs r).length + 1 + 1) = _; rw [ih]; simp only [List.length_cons]; omega
theorem pcs_get (l : PL) : ∀ t, t < l.length → (pcs l)[t * 2]? = some (.int .i64 (l.getD t (0, 0)).1) ∧ (pcs l)[t * 2 + 1]? = some (.int .i64 (l.getD t (0, 0)).2) := by
 induction l with
 | nil => intro t h; cases h
 | cons p r ih =>
  intro t h
  match t with
  | 0 => exact ⟨rfl, rfl⟩
  | t + 1 =>
   have := ih t (by simp only [List.length_cons] at h; omega)
   rw [show (t + 1) * 2 = t * 2 + 1 + 1 by omega]
   exact this
def SlcL (n : Nat) (x : Value) : Prop := ∃ a c, x = .slice a n c
def cntA (a : Arr) (x : Int) : Nat → Nat
 | 0 => 0
 | m + 1 => cntA a x m + if kA a m = x then 1 else 0
open Go.RowKit
structure Backs (l : PL) (a : Arr) (m : Nat → Nat) : Prop where
 lt : ∀ i, i < 4 → m i < l.length
 k : ∀ i, i < 4 → kA a i = (m i : Int)
 x2 : rA a 0 * (((pt l (m 1)).1 - (pt l (m 0)).1 : Int) : Rat) - rA a 1 * (((pt l (m 1)).2 - (pt l (m 0)).2 : Int) : Rat) = (((pt l (m 2)).1 - (pt l (m 0)).1 : Int) : Rat)
 y2 : rA a 0 * (((pt l (m 1)).2 - (pt l (m 0)).2 : Int) : Rat) + rA a 1 * (((pt l (m 1)).1 - (pt l (m 0)).1 : Int) : Rat) = (((pt l (m 2)).2 - (pt l (m 0)).2 : Int) : Rat)
 x3 : rA a 2 * (((pt l (m 1)).1 - (pt l (m 0)).1 : Int) : Rat) - rA a 3 * (((pt l (m 1)).2 - (pt l (m 0)).2 : Int) : Rat) = (((pt l (m 3)).1 - (pt l (m 0)).1 : Int) : Rat)
 y3 : rA a 2 * (((pt l (m 1)).2 - (pt l (m 0)).2 : Int) : Rat) + rA a 3 * (((pt l (m 1)).1 - (pt l (m 0)).1 : Int) : Rat) = (((pt l (m 3)).2 - (pt l (m 0)).2 : Int) : Rat)
end Go.Proofs.Ytmpambmpknaldaa
