import Derived.Test.YtffmbepfbienaaaGreatDRow
import Derived.Test.YtffmbepfbienaaaGreatDNp
import Derived.Test.YtffmbepfbienaaaGreatDTz
/- Quads as they come in: four indices, four fractions that are valid or not; lists of quads. -/
set_option linter.unusedVariables false
set_option linter.unusedSimpArgs false
namespace Go.Proofs.YtffmbepfbienaaaGreat
open Go.RowKit
def absQ (r : Rat) : Rat := if r < 0 then -r else r
theorem rat_neg_num (r : Rat) : r < 0 ↔ r.num < 0 := by rw [← Rat.not_le, ← Rat.num_nonneg]; omega
theorem absQ_num (r : Rat) : (absQ r).num = absN r.num ∧ ((absQ r).den : Int) = r.den := by
 unfold absQ absN
 by_cases h : r < 0
 ·
  have := (rat_neg_num r).1 h
  rw [if_pos h, Rat.neg_num, Rat.neg_den]; exact ⟨by omega, rfl⟩
 ·
  have : ¬ r.num < 0 := fun g => h ((rat_neg_num r).2 g)
  rw [if_neg h]; exact ⟨by omega, rfl⟩
theorem gcd_abs (x y : Int) : gcdI (absN x) y = gcdI x y := by unfold gcdI absN; simp [Int.gcd]
theorem absN_abs (x : Int) : absN (absN x) = absN x := by unfold absN; omega
theorem FR.abs {w : World} {a b : Bool} {s t : Value} {r : Rat} (h : FR w (.agg #[.bool a, s, .bool b, t]) r) : FR w (.agg #[.bool false, s, .bool b, t]) (absQ r) := by
 obtain ⟨sp, sq, e, l1, l2, q0, hg, fp, fq⟩ := h
 simp only [Value.agg.injEq, Array.mk.injEq, List.cons.injEq, and_true, Value.bool.injEq] at e
 obtain ⟨e1, rfl, rfl, rfl⟩ := e
 obtain ⟨n1, n2⟩ := absQ_num r
 have hn := absN_nonneg r.num
 unfold FR
 rw [n1, n2]
 refine ⟨s, t, ?_, by rw [absN_abs]; exact l1, l2, q0, by rw [gcd_abs]; exact hg, ?_, fq⟩
 · rw [decide_eq_false (by omega)]
 · unfold fits at fp ⊢; rw [absN_abs]; exact fp
theorem sz.abs {r : Rat} {k : Nat} (h : sz r k) : sz (absQ r) k := by
 obtain ⟨n1, n2⟩ := absQ_num r
 unfold sz
 rw [n1, n2, absN_abs]; exact h
def FB (w : World) (v : Value) : Option Rat → Prop
 | some r => FR w v r
 | none => Bad w v
theorem FB.keeps {w w' : World} {v : Value} {o : Option Rat} (h : FB w v o) (k : Keeps w w') : FB w' v o := by
 cases o with
 | none => exact Bad.keeps h k
 | some r => exact FR.keeps h k
def QX (w : World) (cs : Array Value) (r : Nat → Option Rat) : Prop := cs.size = 20 ∧ cs.all (·.oneCell') = true ∧ noU32 cs = true ∧
 ∀ i, i < 4 → ∃ a1 a2 a3 a4 a5 a6 a7 a8, cs[4 + i * 4]? = some (.bool a1) ∧ cs[4 + i * 4 + 1]? = some (.slice a2 a3 a4) ∧ cs[4 + i * 4 + 2]? = some (.bool a5) ∧ cs[4 + i * 4 + 3]? = some (.slice a6 a7 a8) ∧ FB w (.agg #[.bool a1, .slice a2 a3 a4, .bool a5, .slice a6 a7 a8]) (r i)
theorem QX.keeps {w w' : World} {cs : Array Value} {r : Nat → Option Rat} (h : QX w cs r) (kp : Keeps w w') : QX w' cs r := by
 obtain ⟨h1, h2, h3, h4⟩ := h
 refine ⟨h1, h2, h3, fun i hi => ?_⟩
 obtain ⟨a1, a2, a3, a4, a5, a6, a7, a8, c0, c1, c2, c3, f⟩ := h4 i hi
 exact ⟨a1, a2, a3, a4, a5, a6, a7, a8, c0, c1, c2, c3, f.keeps kp⟩
theorem QX.steps {w w' : World} {cs : Array Value} {r : Nat → Option Rat} (h : QX w cs r) (s : Steps w w') : QX w' cs r := h.keeps (Keeps.steps s)
def QCells (w : World) (b o n : Nat) (CS : Nat → Array Value) : Prop := ∀ t, t < n → ∀ j, j < 20 → w.cell? ⟨b, o + t * 20 + j, none⟩ = (CS t)[j]?
def QSl (w : World) (v : Value) (n : Nat) (CS : Nat → Array Value) (R : Nat → Nat → Option Rat) : Prop :=
 (∀ t, t < n → QX w (CS t) (R t)) ∧ ∃ ao cap, v = .slice ao n cap ∧ n ≤ cap ∧ (0 < n → ∃ b o, ao = some ⟨b, o, none⟩ ∧ b < w.heap.size ∧ QCells w b o n CS)
theorem QSl.steps {w w' : World} {v : Value} {n : Nat} {CS : Nat → Array Value} {R : Nat → Nat → Option Rat} (h : QSl w v n CS R) (s : Steps w w') : QSl w' v n CS R := by
 obtain ⟨h1, ao, cap, e, hc, h2⟩ := h
 refine ⟨fun t ht => (h1 t ht).steps s, ao, cap, e, hc, fun hn => ?_⟩
 obtain ⟨b, o, e2, hb, h3⟩ := h2 hn
 exact ⟨b, o, e2, Nat.lt_of_lt_of_le hb s.size, fun t ht j hj => (s.cell (p := ⟨b, _, none⟩) hb).trans (h3 t ht j hj)⟩
theorem QSl.shape {w : World} {v : Value} {n : Nat} {CS : Nat → Array Value} {R : Nat → Nat → Option Rat} (h : QSl w v n CS R) : ∃ ao cap, v = .slice ao n cap := by obtain ⟨_, ao, cap, e, _⟩ := h; exact ⟨ao, cap, e⟩
theorem QSl.at {w : World} {ao : Option Addr} {n cap : Nat} {CS : Nat → Array Value} {R : Nat → Nat → Option Rat} (h : QSl w (.slice ao n cap) n CS R) {t : Nat} (ht : t < n) :
  ∃ b o, ao = some ⟨b, o, none⟩ ∧ b < w.heap.size ∧ ∀ j, j < 20 → w.cell? ⟨b, o + t * 20 + j, none⟩ = (CS t)[j]? := by
 obtain ⟨_, ao', cap', e, _, h2⟩ := h
 injection e with e1 e2 e3
 subst e1
 obtain ⟨b, o, e2, hb, h3⟩ := h2 (by omega)
 exact ⟨b, o, e2, hb, h3 t ht⟩
section
variable {P : Program}
end
def nearQ (a b : Nat → Rat) (off : Rat) : Nat → Bool
 | 0 => true
 | i + 1 => nearQ a b off i && decide (absQ (a i - b i) ≤ off)
def wholeQ (r : Nat → Option Rat) : Nat → Bool
 | 0 => true
 | i + 1 => wholeQ r i && (r i).isSome
def wholeL (R : Nat → Nat → Option Rat) : Nat → Bool
 | 0 => true
 | t + 1 => wholeL R t && wholeQ (R t) 4
def rq (r : Nat → Option Rat) (i : Nat) : Rat := (r i).getD 0
def found (R : Nat → Nat → Option Rat) (q : Nat → Option Rat) (off : Rat) : Nat → List Int
 | 0 => []
 | t + 1 => if nearQ (rq (R t)) (rq q) off 4 then found R q off t ++ [(t : Int)] else found R q off t
end Go.Proofs.YtffmbepfbienaaaGreat
/- Similarities, partners and odds (plain). -/
namespace Go.Proofs.YtffmbepfbienaaaGreat
theorem one_divQ (x : Int) : (x : Rat) / ((1 : Int) : Rat) = (x : Rat) := by
 have h1 : ((1 : Int) : Rat) ≠ 0 := by decide
 exact div_of_mul h1 (by rw [Rat.intCast_one, Rat.mul_one])
def apX (t : Nat → Rat) (p : Int × Int) : Rat := t 0 * (p.1 : Rat) - t 1 * (p.2 : Rat) + t 2
def apY (t : Nat → Rat) (p : Int × Int) : Rat := t 1 * (p.1 : Rat) + t 0 * (p.2 : Rat) + t 3
def simRe (a b p q : Int × Int) : Rat := (cre (b.1 - a.1) (b.2 - a.2) (q.1 - p.1) (q.2 - p.2) : Rat) / (csq (b.1 - a.1) (b.2 - a.2) : Rat)
def simIm (a b p q : Int × Int) : Rat := (cim (b.1 - a.1) (b.2 - a.2) (q.1 - p.1) (q.2 - p.2) : Rat) / (csq (b.1 - a.1) (b.2 - a.2) : Rat)
def simT (a b p q : Int × Int) (i : Nat) : Rat := match i with
 | 0 => simRe a b p q
 | 1 => simIm a b p q
 | 2 => (p.1 : Rat) - (simRe a b p q * (a.1 : Rat) - simIm a b p q * (a.2 : Rat) + 0)
 | _ => (p.2 : Rat) - (simIm a b p q * (a.1 : Rat) + simRe a b p q * (a.2 : Rat) + 0)
def apartQ (x y : Rat) (q : Int × Int) : Rat := if absQ (x - (q.1 : Rat)) < absQ (y - (q.2 : Rat)) then absQ (y - (q.2 : Rat)) else absQ (x - (q.1 : Rat))
def prtP (x y rad : Rat) (m : PL) : Nat → Int × Rat
 | 0 => (-1, rad)
 | k + 1 => if apartQ x y (pt m k) < (prtP x y rad m k).2 ∨ (apartQ x y (pt m k) = (prtP x y rad m k).2 ∧ (prtP x y rad m k).1 < 0) then ((k : Int), apartQ x y (pt m k)) else prtP x y rad m k
def partners (t : Nat → Rat) (rad : Rat) (l m : PL) : Nat → List Int
 | 0 => []
 | i + 1 => partners t rad l m i ++ [(prtP (apX t (pt l i)) (apY t (pt l i)) rad m m.length).1]
theorem partners_len (t : Nat → Rat) (rad : Rat) (l m : PL) : ∀ n, (partners t rad l m n).length = n
 | 0 => rfl
 | n + 1 => by unfold partners; rw [List.length_append, partners_len t rad l m n]; rfl
/- odds -/
def chanceQ (R A n : Int) : Rat := ((n * 4 * R * R : Int) : Rat) / (A : Rat)
def withQ (s h : Rat) : Rat := (1 - s + s * h) / h
def oddsQ (w s : Rat) (l : List Int) (out : Nat → Bool) : Nat → Rat
 | 0 => 1
 | i + 1 => if out i then oddsQ w s l out i else oddsQ w s l out i * (if 0 ≤ l.getD i 0 then w else s)
def noOut (_ : Nat) : Bool := false
def oddsL (w s : Rat) : List Int → Rat
 | [] => 1
 | k :: l => (if 0 ≤ k then w else s) * oddsL w s l
end Go.Proofs.YtffmbepfbienaaaGreat
