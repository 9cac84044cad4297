import Derived.Test.YtmpambmpknaldaaIRow
import Derived.Test.YtmpambmpknaldaaINp
import Derived.Test.YtmpambmpknaldaaITz
/- Quads as they come in: four indices, four fractions that are valid or not; lists of quads. -/
set_option linter.unusedVariables false
set_option linter.unusedSimpArgs false
namespace Go.Proofs.Ytmpambmpknaldaa
open Go.RowKit
def absQ (r : Rat) : Rat := if r < 0 then -r else r
def FB (w : World) (v : Value) : Option Rat → Prop
 | some r => FR w v r
 | none => Bad w v
theorem FB.keeps {w w' : World} {v : Value} {o : Option Rat} (h : FB w v o) (k : Keeps w w') : FB w' v o := by
 cases o with
 | none => exact Bad.keeps h k
 | some r => exact FR.keeps h k
def QX (w : World) (cs : Array Value) (r : Nat → Option Rat) : Prop := cs.size = 20 ∧ cs.all (·.oneCell') = true ∧ noU32 cs = true ∧
 ∀ i, i < 4 → ∃ a1 a2 a3 a4 a5 a6 a7 a8, cs[4 + i * 4]? = some (.bool a1) ∧ cs[4 + i * 4 + 1]? = some (.slice a2 a3 a4) ∧ cs[4 + i * 4 + 2]? = some (.bool a5) ∧ cs[4 + i * 4 + 3]? = some (.slice a6 a7 a8) ∧ FB w (.agg #[.bool a1, .slice a2 a3 a4, .bool a5, .slice a6 a7 a8]) (r i)
theorem QX.keeps {w w' : World} {cs : Array Value} {r : Nat → Option Rat} (h : QX w cs r) (kp : Keeps w w') : QX w' cs r := by
 obtain ⟨h1, h2, h3, h4⟩ := h
 refine ⟨h1, h2, h3, fun i hi => ?_⟩
 obtain ⟨a1, a2, a3, a4, a5, a6, a7, a8, c0, c1, c2, c3, f⟩ := h4 i hi
 exact ⟨a1, a2, a3, a4, a5, a6, a7, a8, c0, c1, c2, c3, f.keeps kp⟩
theorem QX.steps {w w' : World} {cs : Array Value} {r : Nat → Option Rat} (h : QX w cs r) (s : Steps w w') : QX w' cs r := h.keeps (Keeps.steps s)
def QCells (w : World) (b o n : Nat) (CS : Nat → Array Value) : Prop := ∀ t, t < n → ∀ j, j < 20 → w.cell? ⟨b, o + t * 20 + j, none⟩ = (CS t)[j]?
def QSl (w : World) (v : Value) (n : Nat) (CS : Nat → Array Value) (R : Nat → Nat → Option Rat) : Prop :=
 (∀ t, t < n → QX w (CS t) (R t)) ∧ ∃ ao cap, v = .slice ao n cap ∧ n ≤ cap ∧ (0 < n → ∃ b o, ao = some ⟨b, o, none⟩ ∧ b < w.heap.size ∧ QCells w b o n CS)
theorem QSl.steps {w w' : World} {v : Value} {n : Nat} {CS : Nat → Array Value} {R : Nat → Nat → Option Rat} (h : QSl w v n CS R) (s : Steps w w') : QSl w' v n CS R := by
 obtain ⟨h1, ao, cap, e, hc, h2⟩ := h
 refine ⟨fun t ht => (h1 t ht).steps s, ao, cap, e, hc, fun hn => ?_⟩
 obtain ⟨b, o, e2, hb, h3⟩ := h2 hn
 exact ⟨b, o, e2, Nat.lt_of_lt_of_le hb s.size, fun t ht j hj => (s.cell (p := ⟨b, _, none⟩) hb).trans (h3 t ht j hj)⟩
theorem QSl.shape {w : World} {v : Value} {n : Nat} {CS : Nat → Array Value} {R : Nat → Nat → Option Rat} (h : QSl w v n CS R) : ∃ ao cap, v = .slice ao n cap := by obtain ⟨_, ao, cap, e, _⟩ := h; exact ⟨ao, cap, e⟩
section
variable {P : Program}
end
def nearQ (a b : Nat → Rat) (off : Rat) : Nat → Bool
 | 0 => true
 | i + 1 => nearQ a b off i && decide (absQ (a i - b i) ≤ off)
def wholeQ (r : Nat → Option Rat) : Nat → Bool
 | 0 => true
 | i + 1 => wholeQ r i && (r i).isSome
def wholeL (R : Nat → Nat → Option Rat) : Nat → Bool
 | 0 => true
 | t + 1 => wholeL R t && wholeQ (R t) 4
def rq (r : Nat → Option Rat) (i : Nat) : Rat := (r i).getD 0
def found (R : Nat → Nat → Option Rat) (q : Nat → Option Rat) (off : Rat) : Nat → List Int
 | 0 => []
 | t + 1 => if nearQ (rq (R t)) (rq q) off 4 then found R q off t ++ [(t : Int)] else found R q off t
end Go.Proofs.Ytmpambmpknaldaa
/- Lists of numbers: sum, mean, variance, clipping (plain). -/
namespace Go.Proofs.Ytmpambmpknaldaa
def sumI : List Int → Int
 | [] => 0
 | x :: l => x + sumI l
def sqsI : List Int → Int
 | [] => 0
 | x :: l => x * x + sqsI l
def nI (l : List Int) : Int := (l.length : Int)
def sprI (l : List Int) : Int := nI l * sqsI l - sumI l * sumI l
def meanQ (l : List Int) : Rat := (sumI l : Rat) / (nI l : Rat)
def varQ (l : List Int) : Rat := (sprI l : Rat) / ((nI l * nI l : Int) : Rat)
def devQ (m : Rat) : List Int → Rat
 | [] => 0
 | x :: l => ((x : Rat) - m) * ((x : Rat) - m) + devQ m l
def keepB (l : List Int) (k : Rat) (x : Int) : Bool := decide (((x : Rat) - meanQ l) * ((x : Rat) - meanQ l) ≤ k * k * varQ l)
end Go.Proofs.Ytmpambmpknaldaa
/- Clipping (plain). -/
namespace Go.Proofs.Ytmpambmpknaldaa
def pick (l : List Int) (ix : List Nat) : List Int := ix.map (fun i => l.getD i 0)
def stepC (l : List Int) (k : Rat) (ix : List Nat) : List Nat := ix.filter (fun i => keepB (pick l ix) k (l.getD i 0))
def clipGo (l : List Int) (k : Rat) : Nat → List Nat → Nat → List Nat × Nat
 | 0, ix, r => (ix, r)
 | f + 1, ix, r => if (stepC l k ix).length = ix.length then (ix, r) else clipGo l k f (stepC l k ix) (r + 1)
def clipR (l : List Int) (k : Rat) : List Nat × Nat := clipGo l k l.length (List.range l.length) 0
/- moved by a constant -/
/- in reverse order -/
def turn (n : Nat) (ix : List Nat) : List Nat := (ix.map (fun i => n - 1 - i)).reverse
end Go.Proofs.Ytmpambmpknaldaa
/- Sizes of sums, means and variances of lists of values (plain). -/
namespace Go.Proofs.Ytmpambmpknaldaa
def valL (l : List Int) : Prop := l.length ≤ 1000 ∧ ∀ x ∈ l, -4294967296 ≤ x ∧ x ≤ 4294967296
theorem valL.tail {x : Int} {l : List Int} (h : valL (x :: l)) : valL l := ⟨by have := h.1; simp at this; omega, fun y hy => h.2 y (List.mem_cons_of_mem _ hy)⟩
theorem valL.sub {l m : List Int} (h : valL l) (s : m.Sublist l) : valL m := ⟨Nat.le_trans s.length_le h.1, fun y hy => h.2 y (s.subset hy)⟩
theorem valL.take {l : List Int} (h : valL l) (i : Nat) : valL (l.take i) := h.sub (List.take_sublist _ _)
theorem take_step {l : List Int} {i : Nat} (h : i < l.length) : l.take (i + 1) = l.take i ++ [l.getD i 0] := by
 rw [List.take_succ_eq_append_getElem h]
 simp [List.getD, h]
theorem getD_mem {l : List Int} {i : Nat} (h : i < l.length) : l.getD i 0 ∈ l := by
 rw [List.getD, List.getElem?_eq_getElem h]
 exact List.getElem_mem h
end Go.Proofs.Ytmpambmpknaldaa
/- Similarities, partners and odds (plain). -/
namespace Go.Proofs.Ytmpambmpknaldaa
def apX (t : Nat → Rat) (p : Int × Int) : Rat := t 0 * (p.1 : Rat) - t 1 * (p.2 : Rat) + t 2
def apY (t : Nat → Rat) (p : Int × Int) : Rat := t 1 * (p.1 : Rat) + t 0 * (p.2 : Rat) + t 3
def simRe (a b p q : Int × Int) : Rat := (cre (b.1 - a.1) (b.2 - a.2) (q.1 - p.1) (q.2 - p.2) : Rat) / (csq (b.1 - a.1) (b.2 - a.2) : Rat)
def simIm (a b p q : Int × Int) : Rat := (cim (b.1 - a.1) (b.2 - a.2) (q.1 - p.1) (q.2 - p.2) : Rat) / (csq (b.1 - a.1) (b.2 - a.2) : Rat)
def simT (a b p q : Int × Int) (i : Nat) : Rat := match i with
 | 0 => simRe a b p q
 | 1 => simIm a b p q
 | 2 => (p.1 : Rat) - (simRe a b p q * (a.1 : Rat) - simIm a b p q * (a.2 : Rat) + 0)
 | _ => (p.2 : Rat) - (simIm a b p q * (a.1 : Rat) + simRe a b p q * (a.2 : Rat) + 0)
def apartQ (x y : Rat) (q : Int × Int) : Rat := if absQ (x - (q.1 : Rat)) < absQ (y - (q.2 : Rat)) then absQ (y - (q.2 : Rat)) else absQ (x - (q.1 : Rat))
def prtP (x y rad : Rat) (m : PL) : Nat → Int × Rat
 | 0 => (-1, rad)
 | k + 1 => if apartQ x y (pt m k) < (prtP x y rad m k).2 ∨ (apartQ x y (pt m k) = (prtP x y rad m k).2 ∧ (prtP x y rad m k).1 < 0) then ((k : Int), apartQ x y (pt m k)) else prtP x y rad m k
def partners (t : Nat → Rat) (rad : Rat) (l m : PL) : Nat → List Int
 | 0 => []
 | i + 1 => partners t rad l m i ++ [(prtP (apX t (pt l i)) (apY t (pt l i)) rad m m.length).1]
/- odds -/
def chanceQ (R A n : Int) : Rat := ((n * 4 * R * R : Int) : Rat) / (A : Rat)
def withQ (s h : Rat) : Rat := (1 - s + s * h) / h
def oddsQ (w s : Rat) (l : List Int) (out : Nat → Bool) : Nat → Rat
 | 0 => 1
 | i + 1 => if out i then oddsQ w s l out i else oddsQ w s l out i * (if 0 ≤ l.getD i 0 then w else s)
def noOut (_ : Nat) : Bool := false
def oddsL (w s : Rat) : List Int → Rat
 | [] => 1
 | k :: l => (if 0 ≤ k then w else s) * oddsL w s l
end Go.Proofs.Ytmpambmpknaldaa
/- Sorted lists, medians, percentiles (plain). -/
namespace Go.Proofs.Ytmpambmpknaldaa
def srt (l : List Int) : List Int := l.mergeSort (fun a b => decide (a ≤ b))
theorem srt_perm (l : List Int) : (srt l).Perm l := List.mergeSort_perm l _
def Asc (l : List Int) : Prop := l.Pairwise (fun a b => a ≤ b)
theorem srt_asc (l : List Int) : Asc (srt l) := by
 have := List.pairwise_mergeSort (le := fun a b : Int => decide (a ≤ b)) (fun a b c => by simp; omega) (fun a b => by simp; omega) l
 exact this.imp (fun h => by simpa using h)
theorem srt_len (l : List Int) : (srt l).length = l.length := (srt_perm l).length_eq
theorem asc_unique {a b : List Int} (h : a.Perm b) (ha : Asc a) (hb : Asc b) : a = b :=
 List.Perm.eq_of_pairwise (fun x y _ _ h1 h2 => Int.le_antisymm h1 h2) ha hb h
theorem srt_of {a b : List Int} (h : a.Perm b) (ha : Asc a) : a = srt b := asc_unique (h.trans (srt_perm b).symm) ha (srt_asc b)
theorem srt_perm_eq {a b : List Int} (h : a.Perm b) : srt a = srt b := srt_of ((srt_perm a).trans h) (srt_asc a)
theorem asc_get {s : List Int} (h : Asc s) {i j : Nat} (hij : i ≤ j) (hj : j < s.length) : s.getD i 0 ≤ s.getD j 0 := by
 have hi : i < s.length := by omega
 simp only [List.getD, List.getElem?_eq_getElem hi, List.getElem?_eq_getElem hj, Option.getD_some]
 rcases Nat.lt_or_ge i j with g | g
 · exact List.pairwise_iff_getElem.1 h i j hi hj g
 ·
  obtain rfl : i = j := by omega
  exact Int.le_refl _
def twI (l : List Int) : Int := (srt l).getD ((l.length - 1) / 2) 0 + (srt l).getD (l.length / 2) 0
def awI (m : Int) (l : List Int) : List Int := l.map (fun x => max (2 * x - m) (m - 2 * x))
def medQ (l : List Int) : Rat := (twI l : Rat) / ((2 : Int) : Rat)
def dvnQ (l : List Int) : Rat := (twI (awI (twI l) l) : Rat) / ((4 : Int) : Rat)
def pctI (n : Nat) (num den : Int) : Nat := (max 0 ((num * (n : Int) + den - 1) / den - 1)).toNat
theorem pct_lt {n : Nat} {num den : Int} (hn : 0 < n) (h0 : 0 ≤ num) (h1 : num ≤ den) (h2 : 0 < den) : pctI n num den < n := by
 unfold pctI
 have h3 : num * (n : Int) ≤ den * (n : Int) := Int.mul_le_mul_of_nonneg_right h1 (by omega)
 have h4 : (num * (n : Int) + den - 1) / den < (n : Int) + 1 := by
  refine Int.ediv_lt_of_lt_mul h2 ?_
  have : ((n : Int) + 1) * den = den * (n : Int) + den := by rw [Int.add_mul, Int.mul_comm, Int.one_mul]
  omega
 omega
theorem pct_is {n : Nat} {num den : Int} {i : Nat} (h2 : 0 < den) (h0 : 0 ≤ num) (hl : ∀ j : Nat, j < i → ((j : Int) + 1) * den < num * (n : Int)) (hs : ¬ ((i : Int) + 1) * den < num * (n : Int)) : pctI n num den = i := by
 unfold pctI
 generalize num * (n : Int) = t at *
 have hu : (t + den - 1) / den < (i : Int) + 2 := by
  refine Int.ediv_lt_of_lt_mul h2 ?_
  have : ((i : Int) + 2) * den = ((i : Int) + 1) * den + den := by rw [show (i : Int) + 2 = ((i : Int) + 1) + 1 by omega, Int.add_mul ((i : Int) + 1), Int.one_mul]
  omega
 rcases Nat.eq_zero_or_pos i with rfl | hi
 · simp at hu ⊢; omega
 ·
  have hb := hl (i - 1) (by omega)
  have e : ((i - 1 : Nat) : Int) + 1 = (i : Int) := by omega
  rw [e] at hb
  have hlo : (i : Int) + 1 ≤ (t + den - 1) / den := by
   refine Int.le_ediv_of_mul_le h2 ?_
   have : ((i : Int) + 1) * den = (i : Int) * den + den := by rw [Int.add_mul, Int.one_mul]
   omega
  omega
/- moved by a constant; in reverse order -/
/- the sum of the absolute differences is least at the median -/
def awayQ (y : Rat) : List Int → Rat
 | [] => 0
 | x :: l => absQ ((x : Rat) - y) + awayQ y l
end Go.Proofs.Ytmpambmpknaldaa
/- The stable sort of package slices, on functions of the index (plain). -/
namespace Go.Proofs.Ytmpambmpknaldaa
def swp (f : Nat → Int) (i j : Nat) (k : Nat) : Int := if k = i then f j else if k = j then f i else f k
inductive SP (a b : Nat) : (Nat → Int) → (Nat → Int) → Prop
 | refl (f : Nat → Int) : SP a b f f
 | swap {f g : Nat → Int} (h : SP a b f g) {i j : Nat} (h1 : a ≤ i) (h2 : i < b) (h3 : a ≤ j) (h4 : j < b) : SP a b f (swp g i j)
theorem SP.trans {a b : Nat} {f g h : Nat → Int} (x : SP a b f g) (y : SP a b g h) : SP a b f h := by
 induction y with
 | refl => exact x
 | swap _ h1 h2 h3 h4 ih => exact ih.swap h1 h2 h3 h4
theorem SP.mono {a b a' b' : Nat} {f g : Nat → Int} (x : SP a b f g) (ha : a' ≤ a) (hb : b ≤ b') : SP a' b' f g := by
 induction x with
 | refl => exact .refl _
 | swap _ h1 h2 h3 h4 ih => exact ih.swap (by omega) (by omega) (by omega) (by omega)
theorem SP.out {a b : Nat} {f g : Nat → Int} (x : SP a b f g) {k : Nat} (h : k < a ∨ b ≤ k) : g k = f k := by
 induction x with
 | refl => rfl
 | swap _ h1 h2 h3 h4 ih => unfold swp; rw [if_neg (by omega), if_neg (by omega)]; exact ih
theorem SP.all {a b : Nat} {f g : Nat → Int} (x : SP a b f g) {P : Int → Prop} (h : ∀ k, a ≤ k → k < b → P (f k)) : ∀ k, a ≤ k → k < b → P (g k) := by
 induction x with
 | refl => exact h
 | swap _ h1 h2 h3 h4 ih =>
  intro k k1 k2
  unfold swp
  split
  · exact ih _ h3 h4
  ·
   split
   · exact ih _ h1 h2
   · exact ih _ k1 k2
theorem swp_perm (f : Nat → Int) {n i j : Nat} (hi : i < n) (hj : j < n) : ((List.range n).map (swp f i j)).Perm ((List.range n).map f) := by
 have hs : ((List.range n).map f).toArray.size = n := by simp
 have e : (List.range n).map (swp f i j) = (((List.range n).map f).toArray.swap i j (by omega) (by omega)).toList := by
  apply List.ext_getElem
  · simp
  ·
   intro k h1 h2
   simp at h1
   simp only [List.getElem_map, List.getElem_range, Array.getElem_toList]
   rw [Array.getElem_swap]
   unfold swp
   simp
 rw [e]
 have := Array.swap_perm (xs := ((List.range n).map f).toArray) (i := i) (j := j) (by omega) (by omega)
 have h2 := Array.perm_iff_toList_perm.1 this
 simpa using h2
theorem SP.perm {a b n : Nat} {f g : Nat → Int} (x : SP a b f g) (hb : b ≤ n) : ((List.range n).map g).Perm ((List.range n).map f) := by
 induction x with
 | refl => exact .refl _
 | swap _ h1 h2 h3 h4 ih => exact (swp_perm _ (by omega) (by omega)).trans ih
def Up (f : Nat → Int) (a b : Nat) : Prop := ∀ i j, a ≤ i → i ≤ j → j < b → f i ≤ f j
theorem Up.congr {f g : Nat → Int} {a b : Nat} (h : Up f a b) (e : ∀ k, a ≤ k → k < b → g k = f k) : Up g a b := by
 intro i j h1 h2 h3
 rw [e i h1 (by omega), e j (by omega) h3]
 exact h i j h1 h2 h3
theorem Up.sub {f : Nat → Int} {a b a' b' : Nat} (h : Up f a b) (ha : a ≤ a') (hb : b' ≤ b) : Up f a' b' := fun i j h1 h2 h3 => h i j (by omega) h2 (by omega)
theorem Up.none {f : Nat → Int} {a b : Nat} (h : b ≤ a + 1) : Up f a b := fun i j h1 h2 h3 => by
 obtain rfl : i = j := by omega
 exact Int.le_refl _
theorem Up.join {f : Nat → Int} {a m b : Nat} (h1 : Up f a m) (h2 : Up f m b) (h : ∀ i j, a ≤ i → i < m → m ≤ j → j < b → f i ≤ f j) : Up f a b := fun i j g1 g2 g3 => by
 rcases Nat.lt_or_ge j m with c | c
 · exact h1 i j g1 g2 c
 ·
  rcases Nat.lt_or_ge i m with d | d
  · exact h i j g1 d c g3
  · exact h2 i j d g2 g3
theorem up_srt {f g : Nat → Int} {n : Nat} (x : SP 0 n f g) (h : Up g 0 n) : (List.range n).map g = srt ((List.range n).map f) := by
 refine srt_of (x.perm (Nat.le_refl _)) ?_
 unfold Asc
 rw [List.pairwise_map]
 refine List.pairwise_iff_getElem.2 fun i j hi hj hij => ?_
 simp at hi hj
 simp only [List.getElem_range]
 exact h i j (by omega) (by omega) hj
def Ins (f : Nat → Int) (a j i : Nat) : Prop := Up f a j ∧ Up f j (i + 1) ∧ ∀ x y, a ≤ x → x < j → j < y → y ≤ i → f x ≤ f y
theorem Ins.start {f : Nat → Int} {a i : Nat} (h : Up f a i) : Ins f a i i := ⟨h, Up.none (by omega), fun x y _ _ _ _ => by omega⟩
theorem Ins.step {f : Nat → Int} {a j i : Nat} (h : Ins f a j i) (hj : a < j) (hji : j ≤ i) (hlt : f j < f (j - 1)) : Ins (swp f j (j - 1)) a (j - 1) i := by
 obtain ⟨h1, h2, h3⟩ := h
 refine ⟨fun x y p q r => ?_, fun x y p q r => ?_, fun x y p q r s => ?_⟩
 ·
  unfold swp
  rw [if_neg (by omega), if_neg (by omega), if_neg (by omega), if_neg (by omega)]
  exact h1 x y p q (by omega)
 ·
  unfold swp
  by_cases x1 : x = j - 1
  ·
   rw [if_neg (show ¬ x = j by omega), if_pos x1]
   by_cases y1 : y = j
   · rw [if_pos y1]; omega
   ·
    rw [if_neg y1]
    by_cases y2 : y = j - 1
    · rw [if_pos y2]; exact Int.le_refl _
    · rw [if_neg y2]; exact h2 j y (Nat.le_refl _) (by omega) r
  ·
   by_cases x2 : x = j
   ·
    rw [if_pos x2]
    by_cases y1 : y = j
    · rw [if_pos y1]; exact Int.le_refl _
    ·
     rw [if_neg y1, if_neg (show ¬ y = j - 1 by omega)]
     exact h3 (j - 1) y (by omega) (by omega) (by omega) (by omega)
   ·
    rw [if_neg x2, if_neg x1, if_neg (show ¬ y = j by omega), if_neg (show ¬ y = j - 1 by omega)]
    exact h2 x y (by omega) q r
 ·
  unfold swp
  rw [if_neg (show ¬ x = j by omega), if_neg (show ¬ x = j - 1 by omega)]
  by_cases y1 : y = j
  · rw [if_pos y1]; exact h1 x (j - 1) p (by omega) (by omega)
  ·
   rw [if_neg y1, if_neg (show ¬ y = j - 1 by omega)]
   exact h3 x y p (by omega) (by omega) s
theorem Ins.done {f : Nat → Int} {a j i : Nat} (h : Ins f a j i) (hji : j ≤ i) (he : j = a ∨ ¬ f j < f (j - 1)) (ha : a ≤ j) : Up f a (i + 1) := by
 obtain ⟨h1, h2, h3⟩ := h
 refine h1.join h2 fun x y p q r s => ?_
 rcases Nat.lt_or_ge j y with g | g
 · exact h3 x y p q g (by omega)
 ·
  obtain rfl : y = j := by omega
  rcases he with e | e
  · omega
  ·
   have := h1 x (y - 1) p (by omega) (by omega)
   omega
def swR (f : Nat → Int) (a b : Nat) : Nat → Nat → Int
 | 0 => f
 | i + 1 => swp (swR f a b i) (a + i) (b + i)
theorem swR_is (f : Nat → Int) {a b : Nat} : ∀ (n : Nat), a + n ≤ b → ∀ k, swR f a b n k = if a ≤ k ∧ k < a + n then f (b + (k - a)) else if b ≤ k ∧ k < b + n then f (a + (k - b)) else f k
 | 0, _, k => by rw [if_neg (by omega), if_neg (by omega)]; rfl
 | n + 1, h, k => by
  unfold swR swp
  have e1 := swR_is f (a := a) (b := b) n (by omega) (b + n)
  have e2 := swR_is f (a := a) (b := b) n (by omega) (a + n)
  have e3 := swR_is f (a := a) (b := b) n (by omega) k
  rw [e1, e2, e3]
  by_cases k1 : k = a + n
  ·
   subst k1
   rw [if_pos rfl, if_neg (by omega), if_neg (by omega), if_pos (by omega)]
   congr 1; omega
  ·
   rw [if_neg k1]
   by_cases k2 : k = b + n
   ·
    subst k2
    rw [if_pos rfl, if_neg (by omega), if_neg (by omega), if_neg (by omega), if_pos (by omega)]
    congr 1; omega
   ·
    rw [if_neg k2]
    by_cases k3 : a ≤ k ∧ k < a + n
    · rw [if_pos k3, if_pos (by omega)]
    ·
     rw [if_neg k3, if_neg (show ¬ (a ≤ k ∧ k < a + (n + 1)) by omega)]
     by_cases k4 : b ≤ k ∧ k < b + n
     · rw [if_pos k4, if_pos (by omega)]
     · rw [if_neg k4, if_neg (show ¬ (b ≤ k ∧ k < b + (n + 1)) by omega)]
theorem swR_sp (f : Nat → Int) {a b lo hi : Nat} (h1 : lo ≤ a) (h2 : lo ≤ b) : ∀ (n : Nat), a + n ≤ hi → b + n ≤ hi → SP lo hi f (swR f a b n)
 | 0, _, _ => .refl f
 | n + 1, p, q => (swR_sp f h1 h2 n (by omega) (by omega)).swap (by omega) (by omega) (by omega) (by omega)
def rotF (lo m hi : Nat) (f : Nat → Int) (k : Nat) : Int := if lo ≤ k ∧ k < lo + (hi - m) then f (k + (m - lo)) else if lo + (hi - m) ≤ k ∧ k < hi then f (k - (hi - m)) else f k
theorem rot_more (f : Nat → Int) {m i j : Nat} (hi : i ≤ m) (h : j < i) : rotF (m - i) m (m + j) f = rotF (m - i + j) m (m + j) (swR f (m - i) m j) := by
 funext k
 have e := swR_is f (a := m - i) (b := m) j (by omega)
 unfold rotF
 simp only [e]
 by_cases c1 : m - i ≤ k ∧ k < m - i + (m + j - m)
 ·
  rw [if_pos c1, if_neg (by omega), if_neg (by omega), if_pos (by omega)]
  congr 1; omega
 ·
  rw [if_neg c1]
  by_cases c2 : m - i + (m + j - m) ≤ k ∧ k < m + j
  ·
   rw [if_pos c2]
   by_cases c3 : m - i + j ≤ k ∧ k < m - i + j + (m + j - m)
   ·
    rw [if_pos c3]
    by_cases c4 : m - i ≤ k + (m - (m - i + j)) ∧ k + (m - (m - i + j)) < m - i + j
    · omega
    ·
     rw [if_neg c4, if_pos (by omega)]
     congr 1; omega
   · rw [if_neg c3, if_pos (by omega), if_neg (by omega), if_neg (by omega)]
  · rw [if_neg c2, if_neg (by omega), if_neg (by omega), if_neg (by omega), if_neg (by omega)]
theorem rot_less (f : Nat → Int) {m i j : Nat} (hi : i ≤ m) (h : i < j) : rotF (m - i) m (m + j) f = rotF (m - i) m (m + (j - i)) (swR f (m - i) (m + j - i) i) := by
 funext k
 have e := swR_is f (a := m - i) (b := m + j - i) i (by omega)
 unfold rotF
 simp only [e]
 by_cases c1 : m - i ≤ k ∧ k < m - i + (m + j - m)
 ·
  rw [if_pos c1]
  by_cases c2 : m - i ≤ k ∧ k < m - i + (m + (j - i) - m)
  · rw [if_pos c2, if_neg (by omega), if_neg (by omega)]
  ·
   rw [if_neg c2]
   by_cases c3 : m - i + (m + (j - i) - m) ≤ k ∧ k < m + (j - i)
   ·
    rw [if_pos c3, if_pos (by omega)]
    congr 1; omega
   · omega
 ·
  rw [if_neg c1]
  by_cases c2 : m - i + (m + j - m) ≤ k ∧ k < m + j
  ·
   rw [if_pos c2, if_neg (by omega), if_neg (by omega), if_neg (by omega), if_pos (by omega)]
   congr 1; omega
  · rw [if_neg c2, if_neg (by omega), if_neg (by omega), if_neg (by omega), if_neg (by omega)]
theorem rot_same (f : Nat → Int) {m i : Nat} (hi : i ≤ m) : rotF (m - i) m (m + i) f = swR f (m - i) m i := by
 funext k
 rw [swR_is f i (by omega)]
 unfold rotF
 by_cases c1 : m - i ≤ k ∧ k < m - i + i
 · rw [if_pos (by omega), if_pos c1]; congr 1; omega
 ·
  rw [if_neg (by omega), if_neg c1]
  by_cases c2 : m ≤ k ∧ k < m + i
  · rw [if_pos (by omega), if_pos c2]; congr 1; omega
  · rw [if_neg (by omega), if_neg c2]
def upR (f : Nat → Int) (a : Nat) : Nat → Nat → Int
 | 0 => f
 | i + 1 => swp (upR f a i) (a + i) (a + i + 1)
theorem upR_is (f : Nat → Int) (a : Nat) : ∀ n k, upR f a n k = if a ≤ k ∧ k < a + n then f (k + 1) else if k = a + n then f a else f k
 | 0, k => by
  rw [if_neg (by omega)]
  by_cases h : k = a + 0
  · rw [if_pos h]; show f k = f a; rw [h]; rfl
  · rw [if_neg h]; rfl
 | n + 1, k => by
  unfold upR swp
  rw [upR_is f a n (a + n + 1), upR_is f a n (a + n), upR_is f a n k]
  by_cases k1 : k = a + n
  ·
   subst k1
   rw [if_pos rfl, if_neg (by omega), if_neg (by omega), if_pos (by omega)]
  ·
   rw [if_neg k1]
   by_cases k2 : k = a + n + 1
   ·
    subst k2
    rw [if_pos rfl, if_neg (by omega), if_pos rfl, if_neg (by omega), if_pos (by omega)]
   ·
    rw [if_neg k2]
    by_cases k3 : a ≤ k ∧ k < a + n
    · rw [if_pos k3, if_pos (by omega)]
    · rw [if_neg k3, if_neg k1, if_neg (show ¬ (a ≤ k ∧ k < a + (n + 1)) by omega), if_neg (show ¬ k = a + (n + 1) by omega)]
theorem upR_sp (f : Nat → Int) {a lo hi : Nat} (h1 : lo ≤ a) : ∀ n, a + n < hi → SP lo hi f (upR f a n)
 | 0, _ => .refl f
 | n + 1, p => (upR_sp f h1 n (by omega)).swap (by omega) (by omega) (by omega) (by omega)
def dnR (f : Nat → Int) (m : Nat) : Nat → Nat → Int
 | 0 => f
 | i + 1 => swp (dnR f m i) (m - i) (m - i - 1)
theorem dnR_is (f : Nat → Int) (m : Nat) : ∀ n, n ≤ m → ∀ k, dnR f m n k = if m - n < k ∧ k ≤ m then f (k - 1) else if k = m - n then f m else f k
 | 0, _, k => by
  rw [if_neg (by omega)]
  by_cases h : k = m - 0
  · rw [if_pos h]; show f k = f m; rw [h]; rfl
  · rw [if_neg h]; rfl
 | n + 1, hn, k => by
  unfold dnR swp
  rw [dnR_is f m n (by omega) (m - n - 1), dnR_is f m n (by omega) (m - n), dnR_is f m n (by omega) k]
  by_cases k1 : k = m - n
  ·
   rw [if_pos k1, if_neg (by omega), if_neg (by omega), if_pos (by omega)]
   congr 1; omega
  ·
   rw [if_neg k1]
   by_cases k2 : k = m - n - 1
   · rw [if_pos k2, if_neg (by omega), if_pos rfl, if_neg (by omega), if_pos (by omega)]
   ·
    rw [if_neg k2]
    by_cases k3 : m - n < k ∧ k ≤ m
    · rw [if_pos k3, if_pos (by omega)]
    · rw [if_neg k3, if_neg k1, if_neg (show ¬ (m - (n + 1) < k ∧ k ≤ m) by omega), if_neg (show ¬ k = m - (n + 1) by omega)]
theorem dnR_sp (f : Nat → Int) {m lo hi : Nat} (h1 : m < hi) : ∀ n, lo + n ≤ m → SP lo hi f (dnR f m n)
 | 0, _ => .refl f
 | n + 1, p => (dnR_sp f h1 n (by omega)).swap (by omega) (by omega) (by omega) (by omega)
theorem up_first {f : Nat → Int} {a b i : Nat} (h : Up f (a + 1) b) (hi : a + 1 ≤ i) (hib : i ≤ b) (lo : ∀ k, a + 1 ≤ k → k < i → f k < f a) (hi' : ∀ k, i ≤ k → k < b → f a ≤ f k) : Up (upR f a (i - 1 - a)) a b := by
 intro x y p q r
 rw [upR_is, upR_is]
 by_cases x1 : a ≤ x ∧ x < a + (i - 1 - a)
 ·
  rw [if_pos x1]
  by_cases y1 : a ≤ y ∧ y < a + (i - 1 - a)
  · rw [if_pos y1]; exact h _ _ (by omega) (by omega) (by omega)
  ·
   rw [if_neg y1]
   by_cases y2 : y = a + (i - 1 - a)
   · rw [if_pos y2]; have := lo (x + 1) (by omega) (by omega); omega
   · rw [if_neg y2]; exact h _ _ (by omega) (by omega) r
 ·
  rw [if_neg x1, if_neg (show ¬ (a ≤ y ∧ y < a + (i - 1 - a)) by omega)]
  by_cases x2 : x = a + (i - 1 - a)
  ·
   rw [if_pos x2]
   by_cases y2 : y = a + (i - 1 - a)
   · rw [if_pos y2]; exact Int.le_refl _
   · rw [if_neg y2]; exact hi' y (by omega) r
  ·
   rw [if_neg x2, if_neg (show ¬ y = a + (i - 1 - a) by omega)]
   exact h x y (by omega) q r
theorem up_last {f : Nat → Int} {a m i : Nat} (h : Up f a m) (hi : a ≤ i) (him : i ≤ m) (lo : ∀ k, a ≤ k → k < i → f k ≤ f m) (hi' : ∀ k, i ≤ k → k < m → f m < f k) : Up (dnR f m (m - i)) a (m + 1) := by
 intro x y p q r
 rw [dnR_is f m _ (by omega), dnR_is f m _ (by omega)]
 by_cases y1 : m - (m - i) < y ∧ y ≤ m
 ·
  rw [if_pos y1]
  by_cases x1 : m - (m - i) < x ∧ x ≤ m
  · rw [if_pos x1]; exact h _ _ (by omega) (by omega) (by omega)
  ·
   rw [if_neg x1]
   by_cases x2 : x = m - (m - i)
   · rw [if_pos x2]; have := hi' (y - 1) (by omega) (by omega); omega
   · rw [if_neg x2]; exact h _ _ p (by omega) (by omega)
 ·
  rw [if_neg y1, if_neg (show ¬ (m - (m - i) < x ∧ x ≤ m) by omega)]
  by_cases y2 : y = m - (m - i)
  ·
   rw [if_pos y2]
   by_cases x2 : x = m - (m - i)
   · rw [if_pos x2]; exact Int.le_refl _
   · rw [if_neg x2]; exact lo x p (by omega)
  ·
   rw [if_neg y2, if_neg (show ¬ x = m - (m - i) by omega)]
   exact h x y p q (by omega)
theorem merge_halves {f : Nat → Int} {a m b s : Nat} (mid : Nat) (h1 : Up f a m) (h2 : Up f m b) (ha : a ≤ s) (hs : s ≤ m) (hsm : s ≤ mid) (hab : a ≤ mid) (hmb : mid ≤ b) (hm : m ≤ b) (he1 : m ≤ mid + m - s) (he2 : mid + m - s ≤ b)
  (c1 : s = a ∨ mid + m - s = b ∨ f (s - 1) ≤ f (mid + m - s)) (c2 : s = m ∨ mid = s ∨ f (mid + m - s - 1) < f s) :
  let g := rotF s m (mid + m - s) f
  Up g a s ∧ Up g s mid ∧ Up g mid (mid + m - s) ∧ Up g (mid + m - s) b ∧ ∀ x y, a ≤ x → x < mid → mid ≤ y → y < b → g x ≤ g y := by
 intro g
 have g0 : ∀ k, k < s → g k = f k := fun k hk => by show rotF s m (mid + m - s) f k = _; unfold rotF; rw [if_neg (by omega), if_neg (by omega)]
 have g1 : ∀ k, s ≤ k → k < mid → g k = f (k + (m - s)) := fun k p q => by show rotF s m (mid + m - s) f k = _; unfold rotF; rw [if_pos (by omega)]
 have g2 : ∀ k, mid ≤ k → k < mid + m - s → g k = f (k - (mid - s)) := fun k p q => by show rotF s m (mid + m - s) f k = _; unfold rotF; rw [if_neg (by omega), if_pos (by omega)]; congr 1; omega
 have g3 : ∀ k, mid + m - s ≤ k → g k = f k := fun k p => by show rotF s m (mid + m - s) f k = _; unfold rotF; rw [if_neg (by omega), if_neg (by omega)]
 refine ⟨?_, ?_, ?_, ?_, ?_⟩
 · intro x y p q r; rw [g0 x (by omega), g0 y r]; exact h1 x y p q (by omega)
 · intro x y p q r; rw [g1 x p (by omega), g1 y (by omega) r]; exact h2 _ _ (by omega) (by omega) (by omega)
 · intro x y p q r; rw [g2 x p (by omega), g2 y (by omega) r]; exact h1 _ _ (by omega) (by omega) (by omega)
 · intro x y p q r; rw [g3 x p, g3 y (by omega)]; exact h2 _ _ (by omega) q r
 ·
  intro x y p q r t
  rcases Nat.lt_or_ge x s with x1 | x1
  ·
   rw [g0 x x1]
   rcases Nat.lt_or_ge y (mid + m - s) with y1 | y1
   · rw [g2 y r y1]; exact h1 _ _ p (by omega) (by omega)
   ·
    rw [g3 y y1]
    rcases c1 with c | c | c
    · omega
    · omega
    ·
     have e1 := h1 x (s - 1) p (by omega) (by omega)
     have e2 := h2 (mid + m - s) y (by omega) y1 t
     omega
  ·
   rw [g1 x x1 q]
   rcases Nat.lt_or_ge y (mid + m - s) with y1 | y1
   ·
    rw [g2 y r y1]
    rcases c2 with c | c | c
    · omega
    · omega
    ·
     have e1 := h2 (x + (m - s)) (mid + m - s - 1) (by omega) (by omega) (by omega)
     have e2 := h1 s (y - (mid - s)) (by omega) (by omega) (by omega)
     omega
   · rw [g3 y y1]; exact h2 _ _ (by omega) (by omega) t
theorem merge_join {g g' g'' : Nat → Int} {a mid b : Nat} (hm : a ≤ mid) (hb : mid ≤ b) (x1 : SP a mid g g') (x2 : SP mid b g' g'') (u1 : Up g' a mid) (u2 : Up g'' mid b) (h : ∀ x y, a ≤ x → x < mid → mid ≤ y → y < b → g x ≤ g y) : Up g'' a b := by
 refine Up.join (m := mid) (u1.congr fun k p q => x2.out (.inl q)) u2 fun x y p q r t => ?_
 rw [x2.out (.inl q)]
 refine x2.all (P := fun z => g' x ≤ z) (fun k k1 k2 => ?_) y r t
 rw [x1.out (.inr k1)]
 exact x1.all (P := fun z => z ≤ g k) (fun j j1 j2 => h j k j1 j2 k1 k2) x p q
def Sch (f : Nat → Int) (p lo hi s r : Nat) : Prop := lo ≤ s ∧ s ≤ r ∧ r ≤ hi ∧ (∀ c, lo ≤ c → c < s → ¬ f (p - c) < f c) ∧ ∀ c, r ≤ c → c < hi → f (p - c) < f c
theorem Sch.up {f : Nat → Int} {p lo hi s r c : Nat} (h : Sch f p lo hi s r) (hc : s ≤ c) (hr : c < r) (mono : ∀ x y, lo ≤ x → x ≤ y → y < hi → f (p - x) < f x → f (p - y) < f y) (hn : ¬ f (p - c) < f c) : Sch f p lo hi (c + 1) r := by
 obtain ⟨h1, h2, h3, h4, h5⟩ := h
 refine ⟨by omega, by omega, h3, fun x p q g => ?_, h5⟩
 exact hn (mono x c p (by omega) (by omega) g)
theorem Sch.down {f : Nat → Int} {p lo hi s r c : Nat} (h : Sch f p lo hi s r) (hc : s ≤ c) (hr : c < r) (mono : ∀ x y, lo ≤ x → x ≤ y → y < hi → f (p - x) < f x → f (p - y) < f y) (hn : f (p - c) < f c) : Sch f p lo hi s c := by
 obtain ⟨h1, h2, h3, h4, h5⟩ := h
 exact ⟨h1, hc, by omega, h4, fun x p q => mono c x (by omega) p (by omega) hn⟩
end Go.Proofs.Ytmpambmpknaldaa
/- symMerge of the stable sort: its plain part. -/
namespace Go.Proofs.Ytmpambmpknaldaa
theorem rotF_sp {lo hi m : Nat} : ∀ (k : Nat) (f : Nat → Int) (i j : Nat), i + j ≤ k → 0 < i → 0 < j → i ≤ m → lo ≤ m - i → m + j ≤ hi → SP lo hi f (rotF (m - i) m (m + j) f)
 | 0, f, i, j, h, h1, h2, _, _, _ => by omega
 | k + 1, f, i, j, h, h1, h2, h3, h4, h5 => by
  rcases (show i = j ∨ j < i ∨ i < j by omega) with rfl | c | c
  · rw [rot_same f h3]; exact swR_sp f h4 (by omega) i (by omega) (by omega)
  ·
   rw [rot_more f h3 c, show m - i + j = m - (i - j) by omega]
   exact (swR_sp f h4 (by omega) j (by omega) (by omega)).trans (rotF_sp k _ (i - j) j (by omega) (by omega) h2 (by omega) (by omega) (by omega))
  ·
   rw [rot_less f h3 c]
   exact (swR_sp f h4 (by omega) i (by omega) (by omega)).trans (rotF_sp k _ i (j - i) (by omega) h1 (by omega) h3 h4 (by omega))
theorem rotF_sp' {a s m e b : Nat} (f : Nat → Int) (h1 : a ≤ s) (h2 : s < m) (h3 : m < e) (h4 : e ≤ b) : SP a b f (rotF s m e f) := by
 have := rotF_sp (lo := a) (hi := b) (m := m) (m - s + (e - m)) f (m - s) (e - m) (by omega) (by omega) (by omega) (by omega) (by omega) (by omega)
 rw [show m - (m - s) = s by omega, show m + (e - m) = e by omega] at this
 exact this
theorem rotF_id (f : Nat → Int) {s m e : Nat} (h1 : s ≤ m) (h2 : m ≤ e) (h : s = m ∨ e = m) : rotF s m e f = f := by
 funext k
 unfold rotF
 split
 · congr 1; omega
 ·
  split
  · congr 1; omega
  · rfl
theorem sch_mono {f : Nat → Int} {a m b p lo hi : Nat} (h1 : Up f a m) (h2 : Up f m b) (ha : a ≤ lo) (hh : hi ≤ m) (hp : m + hi ≤ p + 1) (hb : p < lo + b) : ∀ x y, lo ≤ x → x ≤ y → y < hi → f (p - x) < f x → f (p - y) < f y := by
 intro x y p1 p2 p3 g
 have e1 := h1 x y (by omega) p2 (by omega)
 have e2 := h2 (p - y) (p - x) (by omega) (by omega) (by omega)
 omega
theorem Sch.start {f : Nat → Int} {p lo hi : Nat} (h : lo ≤ hi) : Sch f p lo hi lo hi := ⟨Nat.le_refl _, h, Nat.le_refl _, fun c h1 h2 => by omega, fun c h1 h2 => by omega⟩
theorem sch_ends {f : Nat → Int} {a m b mid s lo hi : Nat} (hs : Sch f (mid + m - 1) lo hi s s) (hm : 0 < m) (h : (lo = a ∧ hi = m) ∨ (lo = mid + m - b ∧ hi = mid ∧ b ≤ mid + m)) :
  (s = a ∨ mid + m - s = b ∨ f (s - 1) ≤ f (mid + m - s)) ∧ (s = m ∨ mid = s ∨ f (mid + m - s - 1) < f s) := by
 obtain ⟨h1, h2, h3, h4, h5⟩ := hs
 refine ⟨?_, ?_⟩
 ·
  rcases Nat.lt_or_ge lo s with c | c
  ·
   have := h4 (s - 1) (by omega) (by omega)
   rw [show mid + m - 1 - (s - 1) = mid + m - s by omega] at this
   exact .inr (.inr (by omega))
  ·
   rcases h with ⟨rfl, _⟩ | ⟨rfl, _, hb⟩
   · exact .inl (by omega)
   · exact .inr (.inl (by omega))
 ·
  rcases Nat.lt_or_ge s hi with c | c
  ·
   have := h5 s (Nat.le_refl _) c
   rw [show mid + m - 1 - s = mid + m - s - 1 by omega] at this
   exact .inr (.inr this)
  ·
   rcases h with ⟨_, rfl⟩ | ⟨_, rfl, _⟩
   · exact .inl (by omega)
   · exact .inr (.inl (by omega))
def Sc1 (f : Nat → Int) (x : Int) (m b i j : Nat) : Prop := m ≤ i ∧ i ≤ j ∧ j ≤ b ∧ (∀ k, m ≤ k → k < i → f k < x) ∧ ∀ k, j ≤ k → k < b → x ≤ f k
theorem Sc1.start {f : Nat → Int} {x : Int} {m b : Nat} (h : m ≤ b) : Sc1 f x m b m b := ⟨Nat.le_refl _, h, Nat.le_refl _, fun c h1 h2 => by omega, fun c h1 h2 => by omega⟩
theorem Sc1.up {f : Nat → Int} {x : Int} {m b i j h : Nat} (s : Sc1 f x m b i j) (u : Up f m b) (h1 : i ≤ h) (h2 : h < j) (c : f h < x) : Sc1 f x m b (h + 1) j := by
 obtain ⟨g1, g2, g3, g4, g5⟩ := s
 exact ⟨by omega, by omega, g3, fun k k1 k2 => by have := u k h k1 (by omega) (by omega); omega, g5⟩
theorem Sc1.down {f : Nat → Int} {x : Int} {m b i j h : Nat} (s : Sc1 f x m b i j) (u : Up f m b) (h1 : i ≤ h) (h2 : h < j) (c : ¬ f h < x) : Sc1 f x m b i h := by
 obtain ⟨g1, g2, g3, g4, g5⟩ := s
 exact ⟨g1, h1, by omega, g4, fun k k1 k2 => by have := u h k (by omega) k1 k2; omega⟩
def Sc2 (f : Nat → Int) (x : Int) (a m i j : Nat) : Prop := a ≤ i ∧ i ≤ j ∧ j ≤ m ∧ (∀ k, a ≤ k → k < i → f k ≤ x) ∧ ∀ k, j ≤ k → k < m → x < f k
theorem Sc2.start {f : Nat → Int} {x : Int} {m b : Nat} (h : m ≤ b) : Sc2 f x m b m b := ⟨Nat.le_refl _, h, Nat.le_refl _, fun c h1 h2 => by omega, fun c h1 h2 => by omega⟩
theorem Sc2.up {f : Nat → Int} {x : Int} {m b i j h : Nat} (s : Sc2 f x m b i j) (u : Up f m b) (h1 : i ≤ h) (h2 : h < j) (c : ¬ x < f h) : Sc2 f x m b (h + 1) j := by
 obtain ⟨g1, g2, g3, g4, g5⟩ := s
 exact ⟨by omega, by omega, g3, fun k k1 k2 => by have := u k h k1 (by omega) (by omega); omega, g5⟩
theorem Sc2.down {f : Nat → Int} {x : Int} {m b i j h : Nat} (s : Sc2 f x m b i j) (u : Up f m b) (h1 : i ≤ h) (h2 : h < j) (c : x < f h) : Sc2 f x m b i h := by
 obtain ⟨g1, g2, g3, g4, g5⟩ := s
 exact ⟨g1, h1, by omega, g4, fun k k1 k2 => by have := u h k (by omega) k1 k2; omega⟩
end Go.Proofs.Ytmpambmpknaldaa
