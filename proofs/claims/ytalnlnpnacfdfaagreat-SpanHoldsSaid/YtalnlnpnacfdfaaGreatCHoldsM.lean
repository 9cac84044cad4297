import Derived.Test.YtalnlnpnacfdfaaGreatCPartsM
import Derived.Test.YtalnlnpnacfdfaaGreatCLawF
/- SpanHolds: the plain law. -/
namespace Go.Proofs.YtalnlnpnacfdfaaGreat
open Go.RowKit
theorem unitQ_mul (n : Int) : unitQ n * 1099511627776 = (n : Rat) := by
  unfold unitQ
  have h := Rat.div_mul_cancel (a := (n : Rat)) (b := ((1099511627776 : Int) : Rat)) (by decide)
  exact h
theorem unit_le {m n : Int} : unitQ m ≤ unitQ n ↔ m ≤ n := by
  have h1 := unitQ_mul m
  have h2 := unitQ_mul n
  rw [← Rat.intCast_le_intCast]
  constructor
  · intro h; grind
  · intro h; grind
theorem unit_add (m n : Int) : unitQ m + unitQ n = unitQ (m + n) := by
  have h1 := unitQ_mul m
  have h2 := unitQ_mul n
  have h3 := unitQ_mul (m + n)
  rw [Rat.intCast_add] at h3
  grind
theorem unit_sub (m n : Int) : unitQ m - unitQ n = unitQ (m - n) := by
  have h1 := unitQ_mul m
  have h2 := unitQ_mul n
  have h3 := unitQ_mul (m - n)
  rw [Rat.intCast_sub] at h3
  grind
theorem unit_prod (m n : Int) : unitQ m * unitQ n * 1208925819614629174706176 = ((m * n : Int) : Rat) := by
  have h1 := unitQ_mul m
  have h2 := unitQ_mul n
  rw [Rat.intCast_mul, ← h1, ← h2]
  grind
theorem unit_le_mul {s m n : Int} : unitQ s ≤ unitQ m * unitQ n ↔ s * 1099511627776 ≤ m * n := by
  have h1 := unitQ_mul s
  have h2 := unit_prod m n
  rw [← Rat.intCast_le_intCast, Rat.intCast_mul s, ← h2, ← h1]
  have e : ((1099511627776 : Int) : Rat) = 1099511627776 := rfl
  rw [e]
  constructor
  · intro h; grind
  · intro h; grind
theorem mul_le_unit {s m n : Int} : unitQ m * unitQ n ≤ unitQ s ↔ m * n ≤ s * 1099511627776 := by
  have h1 := unitQ_mul s
  have h2 := unit_prod m n
  rw [← Rat.intCast_le_intCast, Rat.intCast_mul s, ← h2, ← h1]
  have e : ((1099511627776 : Int) : Rat) = 1099511627776 := rfl
  rw [e]
  constructor
  · intro h; grind
  · intro h; grind
theorem unit_ne {n : Int} (h : n ≠ 0) : unitQ n ≠ 0 := by
  intro e
  have h1 := unitQ_mul n
  rw [e, Rat.zero_mul] at h1
  exact h (Rat.intCast_eq_zero_iff.1 h1.symm)
theorem unit_zero : unitQ 0 = 0 := by unfold unitQ; rw [Rat.intCast_zero, Rat.div_def, Rat.zero_mul]
theorem unit_eq_zero {n : Int} : unitQ n = 0 ↔ n = 0 := by
  constructor
  · intro h
    rcases Int.lt_trichotomy n 0 with g | g | g
    · exact absurd h (unit_ne (by omega))
    · exact g
    · exact absurd h (unit_ne (by omega))
  · rintro rfl; exact unit_zero
theorem unit_quot {m n : Int} (hn : n ≠ 0) : unitQ m / unitQ n * (n : Rat) = (m : Rat) := by
  have h1 := unitQ_mul m
  have h2 := unitQ_mul n
  have h3 := Rat.div_mul_cancel (a := unitQ m) (unit_ne hn)
  rw [← h2, ← h1]
  conv => rhs; rw [← h3]
  grind
theorem unit_le_div {s m n : Int} (hn : 0 < n) : unitQ s ≤ unitQ m / unitQ n ↔ s * n ≤ m * 1099511627776 := by
  have h1 := unit_quot (m := m) (show n ≠ 0 by omega)
  have h2 := unitQ_mul s
  have hp : (0 : Rat) < (n : Rat) := Rat.intCast_pos.2 hn
  have e : ((1099511627776 : Int) : Rat) = 1099511627776 := rfl
  rw [← Rat.intCast_le_intCast, Rat.intCast_mul, Rat.intCast_mul, ← h1, ← h2, e]
  constructor
  · intro h
    have := Rat.mul_le_mul_of_nonneg_right h (Rat.le_of_lt hp)
    grind
  · intro h
    refine Rat.le_of_mul_le_mul_right (c := (n : Rat)) ?_ hp
    grind
theorem div_le_unit {s m n : Int} (hn : 0 < n) : unitQ m / unitQ n ≤ unitQ s ↔ m * 1099511627776 ≤ s * n := by
  have h1 := unit_quot (m := m) (show n ≠ 0 by omega)
  have h2 := unitQ_mul s
  have hp : (0 : Rat) < (n : Rat) := Rat.intCast_pos.2 hn
  have e : ((1099511627776 : Int) : Rat) = 1099511627776 := rfl
  rw [← Rat.intCast_le_intCast, Rat.intCast_mul, Rat.intCast_mul, ← h1, ← h2, e]
  constructor
  · intro h
    have := Rat.mul_le_mul_of_nonneg_right h (Rat.le_of_lt hp)
    grind
  · intro h
    refine Rat.le_of_mul_le_mul_right (c := (n : Rat)) ?_ hp
    grind
theorem unit_neg (n : Int) : unitQ (-n) = -unitQ n := by
  have h1 := unitQ_mul n
  have h2 := unitQ_mul (-n)
  rw [Rat.intCast_neg] at h2
  grind
theorem unit_div_neg {m n : Int} (hn : n ≠ 0) : unitQ m / unitQ n = unitQ (-m) / unitQ (-n) := by
  have h1 := unit_quot (m := m) hn
  have h2 := unit_quot (m := -m) (show -n ≠ 0 by omega)
  rw [Rat.intCast_neg, Rat.intCast_neg] at h2
  have hne : (n : Rat) ≠ 0 := fun e => hn (Rat.intCast_eq_zero_iff.1 e)
  grind
/-- a number t/d that lies between the ends -/
theorem enc {T : Int × Int × Int} {t d : Int} (hd : 0 < d) (hs : SubRes T (md (dn t d) (upq t d))) (h0 : T.2.2 = 0) : T.1 * d ≤ t ∧ t ≤ T.2.1 * d := by
  obtain ⟨h1, h2, h3⟩ := hs h0
  unfold md at h1 h2 h3
  by_cases g : dn t d < -2305843009213693952 ∨ 2305843009213693952 < upq t d
  · rw [if_pos g] at h1; cases h1
  · rw [if_neg g] at h2 h3
    have d1 := Int.mul_ediv_add_emod t d
    have d2 := Int.emod_nonneg t (show d ≠ 0 by omega)
    have e1 := Int.mul_ediv_add_emod (-t) d
    have e2 := Int.emod_nonneg (-t) (show d ≠ 0 by omega)
    simp only [] at h2 h3
    unfold upq dn at g h3
    unfold dn at h2
    obtain ⟨q, hq⟩ : ∃ q, t / d = q := ⟨_, rfl⟩
    obtain ⟨p, hp⟩ : ∃ q, -t / d = q := ⟨_, rfl⟩
    rw [hq] at h2 g d1
    rw [hp] at h3 g e1
    have a1 : T.1 ≤ q := by omega
    have a2 : -p ≤ T.2.1 := by omega
    have b1 := Int.mul_le_mul_of_nonneg_right a1 (show 0 ≤ d by omega)
    have b2 := Int.mul_le_mul_of_nonneg_right a2 (show 0 ≤ d by omega)
    rw [Int.mul_comm] at d1 e1
    rw [Int.neg_mul] at b2
    omega
def Has (T : Int × Int × Int) (r : Rat) : Prop := T.2.2 = 0 → unitQ T.1 ≤ r ∧ r ≤ unitQ T.2.1
theorem add_has {a b c d x y : Int} (v1 : V a b) (v2 : V c d) (h1 : a ≤ x) (h2 : x ≤ b) (h3 : c ≤ y) (h4 : y ≤ d) : Has (addS a b c d) (unitQ x + unitQ y) := by
  intro h0
  have e : addS a b c d = md (a + c) (b + d) := if_pos ⟨v1, v2⟩
  rw [e] at h0 ⊢
  unfold md at h0 ⊢
  by_cases g : a + c < -2305843009213693952 ∨ 2305843009213693952 < b + d
  · rw [if_pos g] at h0; cases h0
  · rw [if_neg g, unit_add, unit_le, unit_le]; constructor <;> (dsimp only; omega)
theorem sub_has {a b c d x y : Int} (v1 : V a b) (v2 : V c d) (h1 : a ≤ x) (h2 : x ≤ b) (h3 : c ≤ y) (h4 : y ≤ d) : Has (subS a b c d) (unitQ x - unitQ y) := by
  intro h0
  have e : subS a b c d = md (a - d) (b - c) := if_pos ⟨v1, v2⟩
  rw [e] at h0 ⊢
  unfold md at h0 ⊢
  by_cases g : a - d < -2305843009213693952 ∨ 2305843009213693952 < b - c
  · rw [if_pos g] at h0; cases h0
  · rw [if_neg g, unit_sub, unit_le, unit_le]; constructor <;> (dsimp only; omega)
theorem V_point {a b x : Int} (v : V a b) (h1 : a ≤ x) (h2 : x ≤ b) : V x x := by unfold V at *; omega
theorem mul_has {a b c d x y : Int} (v1 : V a b) (v2 : V c d) (h1 : a ≤ x) (h2 : x ≤ b) (h3 : c ≤ y) (h4 : y ≤ d) : Has (mulS a b c d) (unitQ x * unitQ y) := by
  intro h0
  have hs := mul_sub' v1 v2 h1 (Int.le_refl x) h2 h3 (Int.le_refl y) h4
  have e : mulS x x y y = md (dn (x * y) 1099511627776) (upq (x * y) 1099511627776) := by
    rw [show mulS x x y y = mulV x x y y from if_pos ⟨V_point v1 h1 h2, V_point v2 h3 h4⟩]
    unfold mulV mn mx
    simp
  rw [e] at hs
  have := enc (by decide) hs h0
  rw [unit_le_mul, mul_le_unit]
  exact this
theorem sq_has {a b x : Int} (v1 : V a b) (h1 : a ≤ x) (h2 : x ≤ b) : Has (sqS a b) (unitQ x * unitQ x) := by
  intro h0
  have hs := sq_sub v1 h1 (Int.le_refl x) h2
  have e : sqS x x = md (dn (x * x) 1099511627776) (upq (x * x) 1099511627776) := by
    rw [show sqS x x = sqV (absV x x) from if_pos (V_point v1 h1 h2)]
    unfold sqV absV
    by_cases g : 0 ≤ x
    · rw [if_pos g]
    · rw [if_neg g, if_pos (by omega)]
      simp only [Int.neg_mul_neg]
  rw [e] at hs
  have := enc (by decide) hs h0
  rw [unit_le_mul, mul_le_unit]
  exact this
theorem div_has {a b c d x y : Int} (v1 : V a b) (v2 : V c d) (h1 : a ≤ x) (h2 : x ≤ b) (h3 : c ≤ y) (h4 : y ≤ d) (hy : y ≠ 0) : Has (divS a b c d) (unitQ x / unitQ y) := by
  intro h0
  have hs := div_sub' v1 v2 h1 (Int.le_refl x) h2 h3 (Int.le_refl y) h4
  have e : divS x x y y = divV x x y y := if_pos ⟨V_point v1 h1 h2, V_point v2 h3 h4⟩
  rw [e] at hs
  unfold divV at hs
  rw [if_neg (by omega)] at hs
  by_cases g : y < 0
  · rw [if_pos g] at hs
    unfold divQ at hs
    rw [show ∀ t : Int, min t t = t from fun t => by omega, show ∀ t : Int, max t t = t from fun t => by omega] at hs
    have := enc (by omega) hs h0
    rw [unit_div_neg hy, unit_le_div (by omega), div_le_unit (by omega)]
    exact this
  · rw [if_neg g] at hs
    unfold divQ at hs
    rw [show ∀ t : Int, min t t = t from fun t => by omega, show ∀ t : Int, max t t = t from fun t => by omega] at hs
    have := enc (by omega) hs h0
    rw [unit_le_div (by omega), div_le_unit (by omega)]
    exact this
def okB (T : Int × Int × Int) : Prop := T.2.2 = 0 → -2305843009213693952 ≤ T.1 ∧ T.2.1 ≤ 2305843009213693952
theorem md_b (x y : Int) : okB (md x y) := by
  unfold okB md
  intro h
  by_cases g : x < -2305843009213693952 ∨ 2305843009213693952 < y
  · rw [if_pos g] at h; cases h
  · rw [if_neg g]; constructor <;> (dsimp only; omega)
theorem has_b {T : Int × Int × Int} {r : Rat} (h : Has T r) (hb : okB T) (h0 : T.2.2 = 0) : -9223372036854775808 ≤ T.1 ∧ T.1 ≤ 9223372036854775807 ∧ -9223372036854775808 ≤ T.2.1 ∧ T.2.1 ≤ 9223372036854775807 := by
  have h1 := h h0
  have h2 := hb h0
  have h3 := unit_le.1 (Rat.le_trans h1.1 h1.2)
  omega
theorem add_b {a b c d : Int} (v1 : V a b) (v2 : V c d) : okB (addS a b c d) := by rw [show addS a b c d = md (a + c) (b + d) from if_pos ⟨v1, v2⟩]; exact md_b _ _
theorem sub_b {a b c d : Int} (v1 : V a b) (v2 : V c d) : okB (subS a b c d) := by rw [show subS a b c d = md (a - d) (b - c) from if_pos ⟨v1, v2⟩]; exact md_b _ _
theorem mul_b {a b c d : Int} (v1 : V a b) (v2 : V c d) : okB (mulS a b c d) := by rw [show mulS a b c d = mulV a b c d from if_pos ⟨v1, v2⟩]; exact md_b _ _
theorem sq_bb {a b : Int} (v1 : V a b) : okB (sqS a b) := by rw [show sqS a b = sqV (absV a b) from if_pos v1]; exact md_b _ _
theorem div_b {a b c d : Int} (v1 : V a b) (v2 : V c d) : okB (divS a b c d) := by
  rw [show divS a b c d = divV a b c d from if_pos ⟨v1, v2⟩]
  unfold divV
  by_cases g : c ≤ 0 ∧ 0 ≤ d
  · rw [if_pos g]; intro h; cases h
  · rw [if_neg g]
    by_cases k : d < 0
    · rw [if_pos k]; exact md_b _ _
    · rw [if_neg k]; exact md_b _ _
/-- the call of Has at a result that has its number -/
theorem has_call {s t e : Int} {r : Rat} {k : Nat} (h : Has (s, t, e) r) (hb : okB (s, t, e)) (hr : sz r k) (hk : k ≤ 4000) (w : World) (v : Value) (h0 : (e == 0) = true) (hv : FR w v r) :
    Calls Tryz.prog 16 #[.agg #[.int .i64 s, .int .i64 t], v] w fun e w' => e = .returned (.bool true) ∧ Steps w w' := by
  have e0 : e = 0 := by simpa using h0
  have b := has_b h hb e0
  have c := h e0
  have := rhas s t w hv hr hk b.1 b.2.1 b.2.2.1 b.2.2.2
  rw [decide_eq_true c] at this
  exact this
theorem isqrt_sq {n : Int} (h : 0 ≤ n) : 0 ≤ isqrt n ∧ isqrt n * isqrt n ≤ n ∧ n < (isqrt n + 1) * (isqrt n + 1) := by
  obtain ⟨m, rfl⟩ := Int.eq_ofNat_of_zero_le h
  unfold isqrt
  simp only [Int.toNat_natCast]
  have h1 := Nat.sqrt_le m
  have h2 : m < (m.sqrt + 1) * (m.sqrt + 1) := Nat.lt_succ_sqrt m
  exact ⟨by omega, by exact_mod_cast h1, by exact_mod_cast h2⟩
/-- what the root's ends are -/
theorem sqrt_has {a b x : Int} (v1 : V a b) (h1 : a ≤ x) (h2 : x ≤ b) : (a < 0 ∧ sqrtS a b = (0, 0, 2)) ∨ (0 ≤ a ∧ (sqrtS a b).2.2 = 0 ∧ 0 ≤ (sqrtS a b).1 ∧ (sqrtS a b).1 ≤ 2305843009213693952 ∧ 0 ≤ (sqrtS a b).2.1 ∧ (sqrtS a b).2.1 ≤ 2305843009213693952 ∧
    unitQ (sqrtS a b).1 * unitQ (sqrtS a b).1 ≤ unitQ x ∧ unitQ x ≤ unitQ (sqrtS a b).2.1 * unitQ (sqrtS a b).2.1) := by
  have e : sqrtS a b = sqrtV a b := if_pos v1
  rw [e]
  unfold sqrtV
  by_cases g : a < 0
  · left; exact ⟨g, if_pos g⟩
  · right
    rw [if_neg g]
    unfold V at v1
    obtain ⟨p0, p1, p2⟩ := isqrt_sq (n := a * 1099511627776) (by omega)
    obtain ⟨q0, q1, q2⟩ := isqrt_sq (n := b * 1099511627776) (by omega)
    have pb := isqrt_b (n := a * 1099511627776) (by omega) (by omega)
    have qb := isqrt_b (n := b * 1099511627776) (by omega) (by omega)
    refine ⟨by omega, rfl, p0, by dsimp only; omega, ?_, ?_, ?_, ?_⟩
    · dsimp only; split <;> omega
    · dsimp only; split <;> omega
    · rw [mul_le_unit]; dsimp only; omega
    · rw [unit_le_mul]
      dsimp only
      split
      · omega
      · have : (isqrt (b * 1099511627776) + 1) * (isqrt (b * 1099511627776) + 1) = isqrt (b * 1099511627776) * isqrt (b * 1099511627776) + 2 * isqrt (b * 1099511627776) + 1 := by
          rw [Int.add_mul, Int.mul_add]; omega
        omega
end Go.Proofs.YtalnlnpnacfdfaaGreat
