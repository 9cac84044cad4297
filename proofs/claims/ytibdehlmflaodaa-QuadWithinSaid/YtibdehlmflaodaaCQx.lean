import Derived.Test.YtibdehlmflaodaaCQu
import Derived.Test.YtibdehlmflaodaaCRat
import Derived.Deep.DeepAppendWide
namespace Go.Proofs.Ytibdehlmflaodaa
open Go.RowKit
def kT (k : Nat → Int) (i : Nat) : Int := k (at4 2 0 3 1 i)
theorem codeS_ok {l : PL} (k : Nat → Int) (h : chkP l = 0) : (¬ okIdx l.length k ∧ codeS l k = (2, noArr)) ∨ (okIdx l.length k ∧ wid l (KK k) = 0 ∧ codeS l k = (18, noArr)) ∨ (okIdx l.length k ∧ wid l (KK k) ≠ 0 ∧ codeS l k = (0, bestOf l (KK k))) := by
  have h' : ¬ chkP l ≠ 0 := fun g => g h
  by_cases h1 : okIdx l.length k
  · by_cases h2 : wid l (KK k) = 0
    · exact .inr (.inl ⟨h1, h2, by unfold codeS; rw [if_neg h', if_neg (fun g => g h1), if_pos h2]⟩)
    · exact .inr (.inr ⟨h1, h2, by unfold codeS; rw [if_neg h', if_neg (fun g => g h1), if_neg h2]⟩)
  · exact .inl ⟨h1, by unfold codeS; rw [if_neg h', if_pos h1]⟩
def pcs (l : PL) : List Value := l.flatMap fun p => [.int .i64 p.1, .int .i64 p.2]
theorem pcs_len (l : PL) : (pcs l).length = l.length * 2 := by
  induction l with
  | nil => rfl
  | cons p r ih => show ((pcs r).length + 1 + 1) = _; rw [ih]; simp only [List.length_cons]; omega
theorem pcs_get (l : PL) : ∀ t, t < l.length → (pcs l)[t * 2]? = some (.int .i64 (l.getD t (0, 0)).1) ∧ (pcs l)[t * 2 + 1]? = some (.int .i64 (l.getD t (0, 0)).2) := by
  induction l with
  | nil => intro t h; cases h
  | cons p r ih =>
    intro t h
    match t with
    | 0 => exact ⟨rfl, rfl⟩
    | t + 1 =>
      have := ih t (by simp only [List.length_cons] at h; omega)
      rw [show (t + 1) * 2 = t * 2 + 1 + 1 by omega]
      exact this
theorem Pts.own {w : World} {base n : Nat} {v : Value} {l : PL} (h : w.ownsRow base 43 2 v n (pcs l)) (hb : ∀ k, -9223372036854775808 ≤ (l.getD k (0, 0)).1 ∧ (l.getD k (0, 0)).1 ≤ 9223372036854775807 ∧ -9223372036854775808 ≤ (l.getD k (0, 0)).2 ∧ (l.getD k (0, 0)).2 ≤ 9223372036854775807) : Pts w v l := by
  have hn : n = l.length := by have := h.1; rw [pcs_len] at this; omega
  subst hn
  rcases h.2 with ⟨rfl, h0⟩ | ⟨g, cap, cur, rfl, h1, h2, h3, h4, h5, h6⟩
  · have : l = [] := List.eq_nil_of_length_eq_zero h0
    subst this
    exact ⟨hb, none, 0, rfl, Nat.le_refl _, fun h => absurd rfl h⟩
  · refine ⟨hb, _, cap, rfl, h3, fun _ => ⟨g, 0, rfl, ?_, fun t ht => ?_⟩⟩
    · exact (Array.getElem?_eq_some_iff.1 h2).1
    · have c := h.cells (g := g) rfl
      have a := c (t * 2) _ (pcs_get l t ht).1
      have b := c (t * 2 + 1) _ (pcs_get l t ht).2
      rw [Addr.add_lit] at a b
      rw [Nat.zero_add] at *
      exact ⟨a, b⟩
def SlcL (n : Nat) (x : Value) : Prop := ∃ a c, x = .slice a n c
end Go.Proofs.Ytibdehlmflaodaa
namespace Go.Proofs.Ytibdehlmflaodaa
def cntA (a : Arr) (x : Int) : Nat → Nat
  | 0 => 0
  | m + 1 => cntA a x m + if kA a m = x then 1 else 0
theorem cnt_perm : ∀ p ∈ perms4, ∀ i, i < 4 → (if p.1 = i then 1 else 0) + (if p.2.1 = i then 1 else 0) + (if p.2.2.1 = i then 1 else 0) + (if p.2.2.2 = i then 1 else 0) = 1 := by decide
theorem KK_cast {n : Nat} {k : Nat → Int} (h : okIdx n k) {i : Nat} (hi : i < 4) : ((KK k i : Nat) : Int) = k i := by
  have := (h i hi).1
  rcases (show i = 0 ∨ i = 1 ∨ i = 2 ∨ i = 3 by omega) with rfl | rfl | rfl | rfl
  · show ((k 0).toNat : Int) = k 0; omega
  · show ((k 1).toNat : Int) = k 1; omega
  · show ((k 2).toNat : Int) = k 2; omega
  · show ((k 3).toNat : Int) = k 3; omega
theorem k_inj {n : Nat} {k : Nat → Int} (h : okIdx n k) {i j : Nat} (hi : i < 4) (hj : j < 4) : k i = k j ↔ i = j := by
  constructor
  · intro e
    rcases Nat.lt_trichotomy i j with g | g | g
    · exact absurd e ((h j hj).2 i g)
    · exact g
    · exact absurd e.symm ((h i hi).2 j g)
  · rintro rfl; rfl
theorem best_once {l : PL} {k : Nat → Int} (h : okIdx l.length k) (hw : 0 < wid l (KK k)) {i : Nat} (hi : i < 4) : cntA (bestOf l (KK k)) (k i) 4 = 1 := by
  obtain ⟨p, hp, e⟩ := best_arr hw
  obtain ⟨q0, q1, q2, q3, -⟩ := perms4_ok p hp
  have c := cnt_perm p hp i hi
  have e0 : kA (bestOf l (KK k)) 0 = k p.1 := by rw [e]; exact KK_cast h q0
  have e1 : kA (bestOf l (KK k)) 1 = k p.2.1 := by rw [e]; exact KK_cast h q1
  have e2 : kA (bestOf l (KK k)) 2 = k p.2.2.1 := by rw [e]; exact KK_cast h q2
  have e3 : kA (bestOf l (KK k)) 3 = k p.2.2.2 := by rw [e]; exact KK_cast h q3
  simp only [cntA, e0, e1, e2, e3, k_inj h q0 hi, k_inj h q1 hi, k_inj h q2 hi, k_inj h q3 hi]
  omega
theorem back1 (ux uy vx vy : Int) : cre ux uy vx vy * ux - cim ux uy vx vy * uy = vx * csq ux uy := by
  unfold cre cim csq; simp only [Int.sub_mul, Int.mul_add, Int.add_mul]; simp only [Int.mul_comm, Int.mul_left_comm, Int.mul_assoc]; omega
theorem back2 (ux uy vx vy : Int) : cre ux uy vx vy * uy + cim ux uy vx vy * ux = vy * csq ux uy := by
  unfold cre cim csq; simp only [Int.sub_mul, Int.mul_add, Int.add_mul]; simp only [Int.mul_comm, Int.mul_left_comm, Int.mul_assoc]; omega
theorem frac_back {a b x y v n : Int} (hn : n ≠ 0) (h : a * x - b * y = v * n) : (a : Rat) / (n : Rat) * (x : Rat) - (b : Rat) / (n : Rat) * (y : Rat) = (v : Rat) := by
  have hn' : (n : Rat) ≠ 0 := fun e => hn (Rat.intCast_eq_zero_iff.1 e)
  have e : (a : Rat) * (x : Rat) - (b : Rat) * (y : Rat) = (v : Rat) * (n : Rat) := by
    rw [← Rat.intCast_mul, ← Rat.intCast_mul, ← Rat.intCast_mul, ← Rat.intCast_sub, h]
  have e1 : ∀ c z : Rat, c / (n : Rat) * z = c * z * (n : Rat)⁻¹ := fun c z => by rw [Rat.div_def, Rat.mul_assoc, Rat.mul_comm (n : Rat)⁻¹ z, ← Rat.mul_assoc]
  rw [e1, e1, Rat.sub_eq_add_neg, ← Rat.neg_mul, ← Rat.add_mul, ← Rat.sub_eq_add_neg, e, Rat.mul_assoc, Rat.mul_inv_cancel _ hn', Rat.mul_one]
theorem frac_back' {a b x y v n : Int} (hn : n ≠ 0) (h : a * x + b * y = v * n) : (a : Rat) / (n : Rat) * (x : Rat) + (b : Rat) / (n : Rat) * (y : Rat) = (v : Rat) := by
  have hn' : (n : Rat) ≠ 0 := fun e => hn (Rat.intCast_eq_zero_iff.1 e)
  have e : (a : Rat) * (x : Rat) + (b : Rat) * (y : Rat) = (v : Rat) * (n : Rat) := by
    rw [← Rat.intCast_mul, ← Rat.intCast_mul, ← Rat.intCast_mul, ← Rat.intCast_add, h]
  have e1 : ∀ c z : Rat, c / (n : Rat) * z = c * z * (n : Rat)⁻¹ := fun c z => by rw [Rat.div_def, Rat.mul_assoc, Rat.mul_comm (n : Rat)⁻¹ z, ← Rat.mul_assoc]
  rw [e1, e1, ← Rat.add_mul, e, Rat.mul_assoc, Rat.mul_inv_cancel _ hn', Rat.mul_one]
theorem one_div (x : Int) : (x : Rat) / ((1 : Int) : Rat) = (x : Rat) := by
  have h1 : ((1 : Int) : Rat) ≠ 0 := by decide
  exact div_of_mul h1 (by rw [Rat.intCast_one, Rat.mul_one])
theorem frac_ge {x a n : Int} (hn : 0 < n) (h : x * n ≤ a) : (x : Rat) / ((1 : Int) : Rat) ≤ (a : Rat) / (n : Rat) := by
  have hn' : (0 : Rat) < (n : Rat) := Rat.intCast_pos.2 hn
  rw [one_div]
  refine Rat.le_of_mul_le_mul_right ?_ hn'
  rw [Rat.div_mul_cancel (fun e => by rw [e] at hn'; exact absurd hn' (by decide)), ← Rat.intCast_mul]
  exact Rat.intCast_le_intCast.2 h
theorem frac_le {x a n : Int} (hn : 0 < n) (h : a ≤ x * n) : (a : Rat) / (n : Rat) ≤ (x : Rat) / ((1 : Int) : Rat) := by
  have hn' : (0 : Rat) < (n : Rat) := Rat.intCast_pos.2 hn
  rw [one_div]
  refine Rat.le_of_mul_le_mul_right ?_ hn'
  rw [Rat.div_mul_cancel (fun e => by rw [e] at hn'; exact absurd hn' (by decide)), ← Rat.intCast_mul]
  exact Rat.intCast_le_intCast.2 h
theorem frac_sum {a b n : Int} : (a : Rat) / (n : Rat) + (b : Rat) / (n : Rat) = ((a + b : Int) : Rat) / (n : Rat) := by
  rw [Rat.div_def, Rat.div_def, Rat.div_def, ← Rat.add_mul, Rat.intCast_add]
open Go.RowKit
theorem QM.qf {w : World} {cs : Array Value} {a : Arr} (hn : 0 < a.n) (na : NumOk a) (h : QM w cs (kA a) (fun i => cP (cA a i) a.n) (fun i => cQ (cA a i) a.n)) : QF w cs (kA a) (rA a) := by
  obtain ⟨h1, h2, h3, h4⟩ := h
  refine ⟨h1, h2, h3, fun i hi => ?_⟩
  obtain ⟨a', b, c, d, c0, c1, c2, c3, f1, f2⟩ := h4 i hi
  have e1 : cP (cA a i) a.n = (rA a i).num := by unfold cP rA; rw [if_neg (by omega)]
  have e2 : cQ (cA a i) a.n = ((rA a i).den : Int) := by unfold cQ rA; rw [if_neg (by omega)]
  dsimp only at f1 f2
  rw [e1] at f1
  rw [e2] at f2
  obtain ⟨g, s, m, t, rfl, rfl⟩ := f1.parts2
  obtain ⟨g', s', m', t', rfl, rfl⟩ := f2.parts2
  have z := (rA_sz na hn i).fits (by omega)
  exact ⟨_, _, _, _, _, _, _, _, c0, c1, c2, c3, Frc.mk' f1 f2 (den_pos' _) (gcd_rat _) z.1 z.2⟩
end Go.Proofs.Ytibdehlmflaodaa
namespace Go.Proofs.Ytibdehlmflaodaa
open Go.RowKit
structure Backs (l : PL) (a : Arr) (m : Nat → Nat) : Prop where
  lt : ∀ i, i < 4 → m i < l.length
  k : ∀ i, i < 4 → kA a i = (m i : Int)
  x2 : rA a 0 * (((pt l (m 1)).1 - (pt l (m 0)).1 : Int) : Rat) - rA a 1 * (((pt l (m 1)).2 - (pt l (m 0)).2 : Int) : Rat) = (((pt l (m 2)).1 - (pt l (m 0)).1 : Int) : Rat)
  y2 : rA a 0 * (((pt l (m 1)).2 - (pt l (m 0)).2 : Int) : Rat) + rA a 1 * (((pt l (m 1)).1 - (pt l (m 0)).1 : Int) : Rat) = (((pt l (m 2)).2 - (pt l (m 0)).2 : Int) : Rat)
  x3 : rA a 2 * (((pt l (m 1)).1 - (pt l (m 0)).1 : Int) : Rat) - rA a 3 * (((pt l (m 1)).2 - (pt l (m 0)).2 : Int) : Rat) = (((pt l (m 3)).1 - (pt l (m 0)).1 : Int) : Rat)
  y3 : rA a 2 * (((pt l (m 1)).2 - (pt l (m 0)).2 : Int) : Rat) + rA a 3 * (((pt l (m 1)).1 - (pt l (m 0)).1 : Int) : Rat) = (((pt l (m 3)).2 - (pt l (m 0)).2 : Int) : Rat)
theorem best_backs {l : PL} {K : Nat → Nat} (h : 0 < wid l K) (hk : ∀ i, K i < l.length) : ∃ m, Backs l (bestOf l K) m := by
  obtain ⟨p, hp, e⟩ := best_arr h
  have hn : (arrOf l K p).n ≠ 0 := by rw [← e, (bestOf_spec l K h).2.1]; omega
  obtain ⟨p0, p1, p2, p3⟩ := p
  rw [e]
  refine ⟨at4 (K p0) (K p1) (K p2) (K p3), fun i hi => ?_, fun i hi => ?_, ?_, ?_, ?_, ?_⟩
  · rcases (show i = 0 ∨ i = 1 ∨ i = 2 ∨ i = 3 by omega) with rfl | rfl | rfl | rfl <;> exact hk _
  · rcases (show i = 0 ∨ i = 1 ∨ i = 2 ∨ i = 3 by omega) with rfl | rfl | rfl | rfl <;> rfl
  · exact frac_back hn (back1 _ _ _ _)
  · exact frac_back' hn (back2 _ _ _ _)
  · exact frac_back hn (back1 _ _ _ _)
  · exact frac_back' hn (back2 _ _ _ _)
theorem rsameR {va vb : Value} {r : Rat} (w : World) (h : FR w va r) (h' : FR w vb r) : Calls Try.prog 29 #[va, vb] w fun e w' => e = .returned (.bool true) ∧ Steps w w' := by
  obtain ⟨f1, f2⟩ := h.fit
  obtain ⟨a2, a3, a4, a6, a7, a8, rfl, na, da, -⟩ := h.nums
  obtain ⟨b2, b3, b4, b6, b7, b8, rfl, nb, db, -⟩ := h'.nums
  exact rsameF w ⟨na, da⟩ ⟨nb, db⟩ f1 f2
theorem lofI (x : Int) (w : World) (h : -4194304 ≤ x ∧ x ≤ 4194304) : Calls Try.prog 26 #[.int .i64 x, .int .i64 1] w fun e w' => ∃ v, e = .returned v ∧ FR w' v (x : Rat) ∧ Steps w w' := by
  have := lof x 1 w (by omega) (by omega) (by omega) (by omega) (by omega)
  rw [one_div] at this
  exact this
theorem sz_pt {x : Int} (h : -4194304 ≤ x ∧ x ≤ 4194304) : sz (x : Rat) 2 := sz_int (by rw [bp_two]; unfold absN; omega)
end Go.Proofs.Ytibdehlmflaodaa
