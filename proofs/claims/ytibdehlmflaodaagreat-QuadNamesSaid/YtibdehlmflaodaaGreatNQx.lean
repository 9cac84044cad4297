import Derived.Test.YtibdehlmflaodaaGreatNQu
import Derived.Test.YtibdehlmflaodaaGreatNTz
import Derived.Deep.DeepAppendWide
set_option linter.unusedVariables false
set_option linter.unusedSimpArgs false
namespace Go.Proofs.YtibdehlmflaodaaGreat
open Go.RowKit
def kT (k : Nat → Int) (i : Nat) : Int := k (at4 2 0 3 1 i)
def pcs (l : PL) : List Value := l.flatMap fun p => [.int .i64 p.1, .int .i64 p.2]
theorem pcs_len (l : PL) : (pcs l).length = l.length * 2 := by
 induction l with
 | nil => rfl
 | cons p r ih => show ((pcs r).length + 1 + 1) = _; rw [ih]; simp only [List.length_cons]; omega
theorem pcs_get (l : PL) : ∀ t, t < l.length → (pcs l)[t * 2]? = some (.int .i64 (l.getD t (0, 0)).1) ∧ (pcs l)[t * 2 + 1]? = some (.int .i64 (l.getD t (0, 0)).2) := by
 induction l with
 | nil => intro t h; cases h
 | cons p r ih =>
  intro t h
  match t with
  | 0 => exact ⟨rfl, rfl⟩
  | t + 1 =>
   have := ih t (by simp only [List.length_cons] at h; omega)
   rw [show (t + 1) * 2 = t * 2 + 1 + 1 by omega]
   exact this
theorem Pts.own {w : World} {base n : Nat} {v : Value} {l : PL} (h : w.ownsRow base 23 2 v n (pcs l)) (hb : ∀ k, -9223372036854775808 ≤ (l.getD k (0, 0)).1 ∧ (l.getD k (0, 0)).1 ≤ 9223372036854775807 ∧ -9223372036854775808 ≤ (l.getD k (0, 0)).2 ∧ (l.getD k (0, 0)).2 ≤ 9223372036854775807) : Pts w v l := by
 have hn : n = l.length := by have := h.1; rw [pcs_len] at this; omega
 subst hn
 rcases h.2 with ⟨rfl, h0⟩ | ⟨g, cap, cur, rfl, h1, h2, h3, h4, h5, h6⟩
 ·
  have : l = [] := List.eq_nil_of_length_eq_zero h0
  subst this
  exact ⟨hb, none, 0, rfl, Nat.le_refl _, fun h => absurd rfl h⟩
 ·
  refine ⟨hb, _, cap, rfl, h3, fun _ => ⟨g, 0, rfl, ?_, fun t ht => ?_⟩⟩
  · exact (Array.getElem?_eq_some_iff.1 h2).1
  ·
   have c := h.cells (g := g) rfl
   have a := c (t * 2) _ (pcs_get l t ht).1
   have b := c (t * 2 + 1) _ (pcs_get l t ht).2
   rw [Addr.add_lit] at a b
   rw [Nat.zero_add] at *
   exact ⟨a, b⟩
def SlcL (n : Nat) (x : Value) : Prop := ∃ a c, x = .slice a n c
def cntA (a : Arr) (x : Int) : Nat → Nat
 | 0 => 0
 | m + 1 => cntA a x m + if kA a m = x then 1 else 0
open Go.RowKit
theorem QM.qf {w : World} {cs : Array Value} {a : Arr} (hn : 0 < a.n) (na : NumOk a) (h : QM w cs (kA a) (fun i => cP (cA a i) a.n) (fun i => cQ (cA a i) a.n)) : QF w cs (kA a) (rA a) := by
 obtain ⟨h1, h2, h3, h4⟩ := h
 refine ⟨h1, h2, h3, fun i hi => ?_⟩
 obtain ⟨a', b, c, d, c0, c1, c2, c3, f1, f2⟩ := h4 i hi
 have e1 : cP (cA a i) a.n = (rA a i).num := by unfold cP rA; rw [if_neg (by omega)]
 have e2 : cQ (cA a i) a.n = ((rA a i).den : Int) := by unfold cQ rA; rw [if_neg (by omega)]
 dsimp only at f1 f2
 rw [e1] at f1
 rw [e2] at f2
 obtain ⟨g, s, m, t, rfl, rfl⟩ := f1.parts2
 obtain ⟨g', s', m', t', rfl, rfl⟩ := f2.parts2
 have z := (rA_sz na hn i).fits (by omega)
 exact ⟨_, _, _, _, _, _, _, _, c0, c1, c2, c3, Frc.mk' f1 f2 (den_pos' _) (gcd_rat _) z.1 z.2⟩
end Go.Proofs.YtibdehlmflaodaaGreat
