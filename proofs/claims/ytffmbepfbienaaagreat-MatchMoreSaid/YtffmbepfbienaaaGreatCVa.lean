import Derived.Test.YtffmbepfbienaaaGreatCRow
import Derived.Test.YtffmbepfbienaaaGreatCNp
import Derived.Test.YtffmbepfbienaaaGreatCTz
/- Quads as they come in: four indices, four fractions that are valid or not; lists of quads. -/
namespace Go.Proofs.YtffmbepfbienaaaGreat
open Go.RowKit
def absQ (r : Rat) : Rat := if r < 0 then -r else r
def FB (w : World) (v : Value) : Option Rat → Prop
  | some r => FR w v r
  | none => Bad w v
theorem FB.keeps {w w' : World} {v : Value} {o : Option Rat} (h : FB w v o) (k : Keeps w w') : FB w' v o := by
  cases o with
  | none => exact Bad.keeps h k
  | some r => exact FR.keeps h k
def QX (w : World) (cs : Array Value) (r : Nat → Option Rat) : Prop := cs.size = 20 ∧ cs.all (·.oneCell') = true ∧ noU32 cs = true ∧
  ∀ i, i < 4 → ∃ a1 a2 a3 a4 a5 a6 a7 a8, cs[4 + i * 4]? = some (.bool a1) ∧ cs[4 + i * 4 + 1]? = some (.slice a2 a3 a4) ∧ cs[4 + i * 4 + 2]? = some (.bool a5) ∧ cs[4 + i * 4 + 3]? = some (.slice a6 a7 a8) ∧ FB w (.agg #[.bool a1, .slice a2 a3 a4, .bool a5, .slice a6 a7 a8]) (r i)
theorem QX.keeps {w w' : World} {cs : Array Value} {r : Nat → Option Rat} (h : QX w cs r) (kp : Keeps w w') : QX w' cs r := by
  obtain ⟨h1, h2, h3, h4⟩ := h
  refine ⟨h1, h2, h3, fun i hi => ?_⟩
  obtain ⟨a1, a2, a3, a4, a5, a6, a7, a8, c0, c1, c2, c3, f⟩ := h4 i hi
  exact ⟨a1, a2, a3, a4, a5, a6, a7, a8, c0, c1, c2, c3, f.keeps kp⟩
theorem QX.steps {w w' : World} {cs : Array Value} {r : Nat → Option Rat} (h : QX w cs r) (s : Steps w w') : QX w' cs r := h.keeps (Keeps.steps s)
def QCells (w : World) (b o n : Nat) (CS : Nat → Array Value) : Prop := ∀ t, t < n → ∀ j, j < 20 → w.cell? ⟨b, o + t * 20 + j, none⟩ = (CS t)[j]?
def QSl (w : World) (v : Value) (n : Nat) (CS : Nat → Array Value) (R : Nat → Nat → Option Rat) : Prop :=
  (∀ t, t < n → QX w (CS t) (R t)) ∧ ∃ ao cap, v = .slice ao n cap ∧ n ≤ cap ∧ (0 < n → ∃ b o, ao = some ⟨b, o, none⟩ ∧ b < w.heap.size ∧ QCells w b o n CS)
theorem QSl.steps {w w' : World} {v : Value} {n : Nat} {CS : Nat → Array Value} {R : Nat → Nat → Option Rat} (h : QSl w v n CS R) (s : Steps w w') : QSl w' v n CS R := by
  obtain ⟨h1, ao, cap, e, hc, h2⟩ := h
  refine ⟨fun t ht => (h1 t ht).steps s, ao, cap, e, hc, fun hn => ?_⟩
  obtain ⟨b, o, e2, hb, h3⟩ := h2 hn
  exact ⟨b, o, e2, Nat.lt_of_lt_of_le hb s.size, fun t ht j hj => (s.cell (p := ⟨b, _, none⟩) hb).trans (h3 t ht j hj)⟩
theorem QSl.shape {w : World} {v : Value} {n : Nat} {CS : Nat → Array Value} {R : Nat → Nat → Option Rat} (h : QSl w v n CS R) : ∃ ao cap, v = .slice ao n cap := by obtain ⟨_, ao, cap, e, _⟩ := h; exact ⟨ao, cap, e⟩
theorem QSl.at {w : World} {ao : Option Addr} {n cap : Nat} {CS : Nat → Array Value} {R : Nat → Nat → Option Rat} (h : QSl w (.slice ao n cap) n CS R) {t : Nat} (ht : t < n) :
    ∃ b o, ao = some ⟨b, o, none⟩ ∧ b < w.heap.size ∧ ∀ j, j < 20 → w.cell? ⟨b, o + t * 20 + j, none⟩ = (CS t)[j]? := by
  obtain ⟨_, ao', cap', e, _, h2⟩ := h
  injection e with e1 e2 e3
  subst e1
  obtain ⟨b, o, e2, hb, h3⟩ := h2 (by omega)
  exact ⟨b, o, e2, hb, h3 t ht⟩
section
variable {P : Program}
end
def nearQ (a b : Nat → Rat) (off : Rat) : Nat → Bool
  | 0 => true
  | i + 1 => nearQ a b off i && decide (absQ (a i - b i) ≤ off)
def wholeQ (r : Nat → Option Rat) : Nat → Bool
  | 0 => true
  | i + 1 => wholeQ r i && (r i).isSome
theorem wholeQ_get {r : Nat → Option Rat} : ∀ {n : Nat}, wholeQ r n = true → ∀ i, i < n → ∃ q, r i = some q
  | n + 1, h, i, hi => by
    unfold wholeQ at h
    simp only [Bool.and_eq_true] at h
    rcases Nat.lt_or_ge i n with g | g
    · exact wholeQ_get h.1 i g
    · obtain rfl : i = n := by omega
      exact Option.isSome_iff_exists.1 h.2
def wholeL (R : Nat → Nat → Option Rat) : Nat → Bool
  | 0 => true
  | t + 1 => wholeL R t && wholeQ (R t) 4
def rq (r : Nat → Option Rat) (i : Nat) : Rat := (r i).getD 0
def found (R : Nat → Nat → Option Rat) (q : Nat → Option Rat) (off : Rat) : Nat → List Int
  | 0 => []
  | t + 1 => if nearQ (rq (R t)) (rq q) off 4 then found R q off t ++ [(t : Int)] else found R q off t
end Go.Proofs.YtffmbepfbienaaaGreat
/- Similarities, partners and odds (plain). -/
namespace Go.Proofs.YtffmbepfbienaaaGreat
theorem one_divQ (x : Int) : (x : Rat) / ((1 : Int) : Rat) = (x : Rat) := by
  have h1 : ((1 : Int) : Rat) ≠ 0 := by decide
  exact div_of_mul h1 (by rw [Rat.intCast_one, Rat.mul_one])
def apX (t : Nat → Rat) (p : Int × Int) : Rat := t 0 * (p.1 : Rat) - t 1 * (p.2 : Rat) + t 2
def apY (t : Nat → Rat) (p : Int × Int) : Rat := t 1 * (p.1 : Rat) + t 0 * (p.2 : Rat) + t 3
def simRe (a b p q : Int × Int) : Rat := (cre (b.1 - a.1) (b.2 - a.2) (q.1 - p.1) (q.2 - p.2) : Rat) / (csq (b.1 - a.1) (b.2 - a.2) : Rat)
def simIm (a b p q : Int × Int) : Rat := (cim (b.1 - a.1) (b.2 - a.2) (q.1 - p.1) (q.2 - p.2) : Rat) / (csq (b.1 - a.1) (b.2 - a.2) : Rat)
def simT (a b p q : Int × Int) (i : Nat) : Rat := match i with
  | 0 => simRe a b p q
  | 1 => simIm a b p q
  | 2 => (p.1 : Rat) - (simRe a b p q * (a.1 : Rat) - simIm a b p q * (a.2 : Rat) + 0)
  | _ => (p.2 : Rat) - (simIm a b p q * (a.1 : Rat) + simRe a b p q * (a.2 : Rat) + 0)
def apartQ (x y : Rat) (q : Int × Int) : Rat := if absQ (x - (q.1 : Rat)) < absQ (y - (q.2 : Rat)) then absQ (y - (q.2 : Rat)) else absQ (x - (q.1 : Rat))
def prtP (x y rad : Rat) (m : PL) : Nat → Int × Rat
  | 0 => (-1, rad)
  | k + 1 => if apartQ x y (pt m k) < (prtP x y rad m k).2 ∨ (apartQ x y (pt m k) = (prtP x y rad m k).2 ∧ (prtP x y rad m k).1 < 0) then ((k : Int), apartQ x y (pt m k)) else prtP x y rad m k
def partners (t : Nat → Rat) (rad : Rat) (l m : PL) : Nat → List Int
  | 0 => []
  | i + 1 => partners t rad l m i ++ [(prtP (apX t (pt l i)) (apY t (pt l i)) rad m m.length).1]
/- odds -/
def chanceQ (R A n : Int) : Rat := ((n * 4 * R * R : Int) : Rat) / (A : Rat)
def withQ (s h : Rat) : Rat := (1 - s + s * h) / h
def oddsQ (w s : Rat) (l : List Int) (out : Nat → Bool) : Nat → Rat
  | 0 => 1
  | i + 1 => if out i then oddsQ w s l out i else oddsQ w s l out i * (if 0 ≤ l.getD i 0 then w else s)
def noOut (_ : Nat) : Bool := false
theorem withQ_gt {s h : Rat} (h0 : 0 < h) (s1 : s < 1) : s < withQ s h := by
  unfold withQ
  have hd := Rat.div_mul_cancel (a := 1 - s + s * h) (Rat.ne_of_gt h0)
  refine Rat.not_le.1 fun g => ?_
  have := Rat.mul_le_mul_of_nonneg_right g (Rat.le_of_lt h0)
  grind
def oddsL (w s : Rat) : List Int → Rat
  | [] => 1
  | k :: l => (if 0 ≤ k then w else s) * oddsL w s l
theorem oddsL_app (w s : Rat) (a b : List Int) : oddsL w s (a ++ b) = oddsL w s a * oddsL w s b := by
  induction a with
  | nil => simp [oddsL]
  | cons k a ih => simp only [List.cons_append, oddsL, ih]; grind
theorem oddsQ_take (w s : Rat) (l : List Int) : ∀ n, n ≤ l.length → oddsQ w s l noOut n = oddsL w s (l.take n)
  | 0, _ => by simp [oddsQ, oddsL]
  | n + 1, h => by
    unfold oddsQ
    rw [oddsQ_take w s l n (by omega), List.take_add_one, List.getElem?_eq_getElem (by omega), oddsL_app]
    simp only [noOut, Bool.false_eq_true, if_false, Option.toList, oddsL, List.getD, List.getElem?_eq_getElem (show n < l.length by omega), Option.getD_some]
    grind
theorem oddsQ_all (w s : Rat) (l : List Int) : oddsQ w s l noOut l.length = oddsL w s l := by rw [oddsQ_take w s l _ (Nat.le_refl _), List.take_length]
theorem oddsL_pos {w s : Rat} (hw : 0 < w) (hs : 0 < s) (l : List Int) : 0 < oddsL w s l := by
  induction l with
  | nil => show (0 : Rat) < 1; decide
  | cons k l ih =>
    unfold oddsL
    split
    · exact Rat.mul_pos hw ih
    · exact Rat.mul_pos hs ih
theorem oddsL_set {w s : Rat} (hw : 0 < w) (hs : 0 < s) (h : s < w) (l : List Int) (i : Nat) (hi : i < l.length) : oddsL w s (l.set i (-1)) < oddsL w s (l.set i 0) := by
  induction l generalizing i with
  | nil => simp at hi
  | cons k l ih =>
    cases i with
    | zero =>
      simp only [List.set_cons_zero, oddsL]
      have hp := oddsL_pos hw hs l
      rw [if_neg (by omega), if_pos (by omega)]
      exact Rat.mul_lt_mul_of_pos_right h hp
    | succ i =>
      simp only [List.set_cons_succ, oddsL]
      have := ih i (by simpa using hi)
      split
      · exact Rat.mul_lt_mul_of_pos_left this hw
      · exact Rat.mul_lt_mul_of_pos_left this hs
end Go.Proofs.YtffmbepfbienaaaGreat
