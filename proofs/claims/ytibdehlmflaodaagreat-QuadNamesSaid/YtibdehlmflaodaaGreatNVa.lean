import Derived.Test.YtibdehlmflaodaaGreatNRow
import Derived.Test.YtibdehlmflaodaaGreatNNp
/- Quads as they come in: four indices, four fractions that are valid or not; lists of quads. -/
set_option linter.unusedVariables false
set_option linter.unusedSimpArgs false
namespace Go.Proofs.YtibdehlmflaodaaGreat
open Go.RowKit
def absQ (r : Rat) : Rat := if r < 0 then -r else r
theorem rat_neg_num (r : Rat) : r < 0 ↔ r.num < 0 := by rw [← Rat.not_le, ← Rat.num_nonneg]; omega
theorem absQ_num (r : Rat) : (absQ r).num = absN r.num ∧ ((absQ r).den : Int) = r.den := by
 unfold absQ absN
 by_cases h : r < 0
 ·
  have := (rat_neg_num r).1 h
  rw [if_pos h, Rat.neg_num, Rat.neg_den]; exact ⟨by omega, rfl⟩
 ·
  have : ¬ r.num < 0 := fun g => h ((rat_neg_num r).2 g)
  rw [if_neg h]; exact ⟨by omega, rfl⟩
theorem gcd_abs (x y : Int) : gcdI (absN x) y = gcdI x y := by unfold gcdI absN; simp [Int.gcd]
theorem absN_abs (x : Int) : absN (absN x) = absN x := by unfold absN; omega
theorem FR.abs {w : World} {a b : Bool} {s t : Value} {r : Rat} (h : FR w (.agg #[.bool a, s, .bool b, t]) r) : FR w (.agg #[.bool false, s, .bool b, t]) (absQ r) := by
 obtain ⟨sp, sq, e, l1, l2, q0, hg, fp, fq⟩ := h
 simp only [Value.agg.injEq, Array.mk.injEq, List.cons.injEq, and_true, Value.bool.injEq] at e
 obtain ⟨e1, rfl, rfl, rfl⟩ := e
 obtain ⟨n1, n2⟩ := absQ_num r
 have hn := absN_nonneg r.num
 unfold FR
 rw [n1, n2]
 refine ⟨s, t, ?_, by rw [absN_abs]; exact l1, l2, q0, by rw [gcd_abs]; exact hg, ?_, fq⟩
 · rw [decide_eq_false (by omega)]
 · unfold fits at fp ⊢; rw [absN_abs]; exact fp
theorem sz.abs {r : Rat} {k : Nat} (h : sz r k) : sz (absQ r) k := by
 obtain ⟨n1, n2⟩ := absQ_num r
 unfold sz
 rw [n1, n2, absN_abs]; exact h
def FB (w : World) (v : Value) : Option Rat → Prop
 | some r => FR w v r
 | none => Bad w v
theorem FB.keeps {w w' : World} {v : Value} {o : Option Rat} (h : FB w v o) (k : Keeps w w') : FB w' v o := by
 cases o with
 | none => exact Bad.keeps h k
 | some r => exact FR.keeps h k
def QX (w : World) (cs : Array Value) (r : Nat → Option Rat) : Prop := cs.size = 20 ∧ cs.all (·.oneCell') = true ∧ noU32 cs = true ∧
 ∀ i, i < 4 → ∃ a1 a2 a3 a4 a5 a6 a7 a8, cs[4 + i * 4]? = some (.bool a1) ∧ cs[4 + i * 4 + 1]? = some (.slice a2 a3 a4) ∧ cs[4 + i * 4 + 2]? = some (.bool a5) ∧ cs[4 + i * 4 + 3]? = some (.slice a6 a7 a8) ∧ FB w (.agg #[.bool a1, .slice a2 a3 a4, .bool a5, .slice a6 a7 a8]) (r i)
theorem QX.keeps {w w' : World} {cs : Array Value} {r : Nat → Option Rat} (h : QX w cs r) (kp : Keeps w w') : QX w' cs r := by
 obtain ⟨h1, h2, h3, h4⟩ := h
 refine ⟨h1, h2, h3, fun i hi => ?_⟩
 obtain ⟨a1, a2, a3, a4, a5, a6, a7, a8, c0, c1, c2, c3, f⟩ := h4 i hi
 exact ⟨a1, a2, a3, a4, a5, a6, a7, a8, c0, c1, c2, c3, f.keeps kp⟩
theorem QX.steps {w w' : World} {cs : Array Value} {r : Nat → Option Rat} (h : QX w cs r) (s : Steps w w') : QX w' cs r := h.keeps (Keeps.steps s)
def QCells (w : World) (b o n : Nat) (CS : Nat → Array Value) : Prop := ∀ t, t < n → ∀ j, j < 20 → w.cell? ⟨b, o + t * 20 + j, none⟩ = (CS t)[j]?
def QSl (w : World) (v : Value) (n : Nat) (CS : Nat → Array Value) (R : Nat → Nat → Option Rat) : Prop :=
 (∀ t, t < n → QX w (CS t) (R t)) ∧ ∃ ao cap, v = .slice ao n cap ∧ n ≤ cap ∧ (0 < n → ∃ b o, ao = some ⟨b, o, none⟩ ∧ b < w.heap.size ∧ QCells w b o n CS)
theorem QSl.steps {w w' : World} {v : Value} {n : Nat} {CS : Nat → Array Value} {R : Nat → Nat → Option Rat} (h : QSl w v n CS R) (s : Steps w w') : QSl w' v n CS R := by
 obtain ⟨h1, ao, cap, e, hc, h2⟩ := h
 refine ⟨fun t ht => (h1 t ht).steps s, ao, cap, e, hc, fun hn => ?_⟩
 obtain ⟨b, o, e2, hb, h3⟩ := h2 hn
 exact ⟨b, o, e2, Nat.lt_of_lt_of_le hb s.size, fun t ht j hj => (s.cell (p := ⟨b, _, none⟩) hb).trans (h3 t ht j hj)⟩
theorem QSl.shape {w : World} {v : Value} {n : Nat} {CS : Nat → Array Value} {R : Nat → Nat → Option Rat} (h : QSl w v n CS R) : ∃ ao cap, v = .slice ao n cap := by obtain ⟨_, ao, cap, e, _⟩ := h; exact ⟨ao, cap, e⟩
theorem QSl.at {w : World} {ao : Option Addr} {n cap : Nat} {CS : Nat → Array Value} {R : Nat → Nat → Option Rat} (h : QSl w (.slice ao n cap) n CS R) {t : Nat} (ht : t < n) :
  ∃ b o, ao = some ⟨b, o, none⟩ ∧ b < w.heap.size ∧ ∀ j, j < 20 → w.cell? ⟨b, o + t * 20 + j, none⟩ = (CS t)[j]? := by
 obtain ⟨_, ao', cap', e, _, h2⟩ := h
 injection e with e1 e2 e3
 subst e1
 obtain ⟨b, o, e2, hb, h3⟩ := h2 (by omega)
 exact ⟨b, o, e2, hb, h3 t ht⟩
section
variable {P : Program}
theorem run_loadVar_at (w : World) (g off : Nat) (ty : TypeId) (cs : Array Value) (d : TypeDesc) (hg : ∀ j, j < cs.size → w.cell? ⟨g, off + j, none⟩ = cs[j]?)
  (hu : P.underlying ty = some d) (hd : (match d with | .struct _ | .array _ _ => true | _ => false) = true) (hi : (P.info? ty).map (·.size) = some cs.size) :
  (loadVar ty ⟨g, off, none⟩).run P w = .ok (.agg cs) w := by
 have hl : (loadCells ⟨g, off, none⟩ cs.toList.length).run P w = .ok cs.toList.toArray w :=
  run_loadCells_list (P := P) w ⟨g, off, none⟩ cs.toList (fun j v hv => by
   have hadd : (⟨g, off, none⟩ : Addr).add j = ⟨g, off + j, none⟩ := by unfold Addr.add; split <;> simp_all
   have hv' : cs[j]? = some v := by simpa using hv
   have hj : j < cs.size := by
    rcases Nat.lt_or_ge j cs.size with h | h
    · exact h
    · rw [Array.getElem?_eq_none h] at hv'; cases hv'
   rw [hadd, hg j hj]
   exact hv')
 cases hq : P.info? ty with
 | none => simp [hq] at hi
 | some i =>
  have hs : i.size = cs.size := by simpa [hq] using hi
  have hagg : (isAgg ty).run P w = .ok true w := by
   unfold isAgg
   rw [Sem.run_bind, run_underlying hu w]
   cases d <;> simp_all
  simp only [Array.length_toList, Array.toArray_toList] at hl
  simp [loadVar, Sem.run_bind, hagg, sizeOf, typeInfo, hq, hs, hl]
theorem wp_load_at {o : Oper} {a : Act} {w : World} {K : Act → World → Prop} {Q : Exit → Act → World → Prop} (ty : TypeId) (x : Operand) (ho : o.op = .load ty x)
  (g off : Nat) (hx : a.eval x = .pointer (some ⟨g, off, none⟩)) (cs : Array Value) (d : TypeDesc) (hg : ∀ j, j < cs.size → w.cell? ⟨g, off + j, none⟩ = cs[j]?)
  (hu : P.underlying ty = some d) (hd : (match d with | .struct _ | .array _ _ => true | _ => false) = true) (hi : (P.info? ty).map (·.size) = some cs.size)
  (h : K (a.put o.dst (.agg cs)) w) : o.wp P a w K Q := by
 unfold Oper.wp execOp
 simp only [ho, hx, Instr.loadAt, Instr.sureAddr, Sem.run_bind, Sem.run_pure, Result.andThen_ok, run_loadVar_at w g off ty cs d hg hu hd hi]
 exact h
theorem load_bigH {ops : Array Oper} {rest : List Oper} {o : Oper} {a : Act} {w : World} {Q : Exit → Act → World → Prop} (hw : Region.wanted o (yielded ops a.tmps) = true) (ty : TypeId) (x : Operand) (ho : o.op = .load ty x) (g : Nat) (hx : a.eval x = .pointer (some ⟨g, 0, none⟩)) (t : TypeId) (cs : Array Value) (d : TypeDesc) (hg : Blk w g t cs)
  (hu : P.underlying ty = some d) (hd : (match d with | .struct _ | .array _ _ => true | _ => false) = true) (hi : (P.info? ty).map (·.size) = some cs.size)
  (h : wpList P ops Q rest (a.put o.dst (.agg cs)) w) : wpList P ops Q (o :: rest) a w := by
 unfold wpList
 rw [if_pos hw]
 exact .inl (wp_load_row ty x ho g hx t cs (0, 0) d hg hu hd hi h)
theorem load_at {ops : Array Oper} {rest : List Oper} {o : Oper} {a : Act} {w : World} {Q : Exit → Act → World → Prop} (hgd : o.guard = none) (ty : TypeId) (x : Operand) (ho : o.op = .load ty x) (g off : Nat) (hx : a.eval x = .pointer (some ⟨g, off, none⟩)) (cs : Array Value) (d : TypeDesc)
  (hg : ∀ j, j < cs.size → w.cell? ⟨g, off + j, none⟩ = cs[j]?)
  (hu : P.underlying ty = some d) (hd : (match d with | .struct _ | .array _ _ => true | _ => false) = true) (hi : (P.info? ty).map (·.size) = some cs.size)
  (h : wpList P ops Q rest (a.put o.dst (.agg cs)) w) : wpList P ops Q (o :: rest) a w :=
 wpList_plain hgd fun _ hK => wp_load_at ty x ho g off hx cs d hg hu hd hi (hK _ _ h)
end
def nearQ (a b : Nat → Rat) (off : Rat) : Nat → Bool
 | 0 => true
 | i + 1 => nearQ a b off i && decide (absQ (a i - b i) ≤ off)
theorem nearQ_stay {a b : Nat → Rat} {off : Rat} {i : Nat} (h : nearQ a b off i = false) : ∀ m, i ≤ m → nearQ a b off m = false := by
 intro m hm
 induction m with
 | zero =>
      obtain rfl : i = 0 := by omega
      exact h
 | succ m ih =>
  rcases Nat.lt_or_ge m i with g | g
  ·
   obtain rfl : i = m + 1 := by omega
   exact h
  · unfold nearQ; rw [ih g]; rfl
def wholeQ (r : Nat → Option Rat) : Nat → Bool
 | 0 => true
 | i + 1 => wholeQ r i && (r i).isSome
theorem wholeQ_get {r : Nat → Option Rat} : ∀ {n : Nat}, wholeQ r n = true → ∀ i, i < n → ∃ q, r i = some q
 | n + 1, h, i, hi => by
  unfold wholeQ at h
  simp only [Bool.and_eq_true] at h
  rcases Nat.lt_or_ge i n with g | g
  · exact wholeQ_get h.1 i g
  ·
   obtain rfl : i = n := by omega
   exact Option.isSome_iff_exists.1 h.2
theorem wholeQ_stay {r : Nat → Option Rat} {i : Nat} (h : wholeQ r i = false) : ∀ m, i ≤ m → wholeQ r m = false := by
 intro m hm
 induction m with
 | zero =>
      obtain rfl : i = 0 := by omega
      exact h
 | succ m ih =>
  rcases Nat.lt_or_ge m i with g | g
  ·
   obtain rfl : i = m + 1 := by omega
   exact h
  · unfold wholeQ; rw [ih g]; rfl
def wholeL (R : Nat → Nat → Option Rat) : Nat → Bool
 | 0 => true
 | t + 1 => wholeL R t && wholeQ (R t) 4
theorem wholeL_get {R : Nat → Nat → Option Rat} : ∀ {n : Nat}, wholeL R n = true → ∀ i, i < n → wholeQ (R i) 4 = true
 | n + 1, h, i, hi => by
  unfold wholeL at h
  simp only [Bool.and_eq_true] at h
  rcases Nat.lt_or_ge i n with g | g
  · exact wholeL_get h.1 i g
  ·
   obtain rfl : i = n := by omega
   exact h.2
theorem wholeL_stay {R : Nat → Nat → Option Rat} {i : Nat} (h : wholeL R i = false) : ∀ m, i ≤ m → wholeL R m = false := by
 intro m hm
 induction m with
 | zero =>
      obtain rfl : i = 0 := by omega
      exact h
 | succ m ih =>
  rcases Nat.lt_or_ge m i with g | g
  ·
   obtain rfl : i = m + 1 := by omega
   exact h
  · unfold wholeL; rw [ih g]; rfl
def rq (r : Nat → Option Rat) (i : Nat) : Rat := (r i).getD 0
def found (R : Nat → Nat → Option Rat) (q : Nat → Option Rat) (off : Rat) : Nat → List Int
 | 0 => []
 | t + 1 => if nearQ (rq (R t)) (rq q) off 4 then found R q off t ++ [(t : Int)] else found R q off t
theorem found_len (R : Nat → Nat → Option Rat) (q : Nat → Option Rat) (off : Rat) : ∀ n, (found R q off n).length ≤ n
 | 0 => Nat.le_refl _
 | n + 1 => by have := found_len R q off n; unfold found; split <;> simp <;> omega
end Go.Proofs.YtibdehlmflaodaaGreat
