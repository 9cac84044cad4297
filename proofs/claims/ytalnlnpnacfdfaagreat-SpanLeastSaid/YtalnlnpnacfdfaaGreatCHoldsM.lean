import Derived.Test.YtalnlnpnacfdfaaGreatCPartsM
import Derived.Test.YtalnlnpnacfdfaaGreatCLawF
import Derived.Test.YtalnlnpnacfdfaaGreatCSpanI
/- SpanHolds: the plain law. -/
namespace Go.Proofs.YtalnlnpnacfdfaaGreat
open Go.RowKit
theorem unitQ_mul (n : Int) : unitQ n * 1099511627776 = (n : Rat) := by
  unfold unitQ
  have h := Rat.div_mul_cancel (a := (n : Rat)) (b := ((1099511627776 : Int) : Rat)) (by decide)
  exact h
theorem unit_le {m n : Int} : unitQ m ≤ unitQ n ↔ m ≤ n := by
  have h1 := unitQ_mul m
  have h2 := unitQ_mul n
  rw [← Rat.intCast_le_intCast]
  constructor
  · intro h; grind
  · intro h; grind
theorem unit_add (m n : Int) : unitQ m + unitQ n = unitQ (m + n) := by
  have h1 := unitQ_mul m
  have h2 := unitQ_mul n
  have h3 := unitQ_mul (m + n)
  rw [Rat.intCast_add] at h3
  grind
theorem unit_sub (m n : Int) : unitQ m - unitQ n = unitQ (m - n) := by
  have h1 := unitQ_mul m
  have h2 := unitQ_mul n
  have h3 := unitQ_mul (m - n)
  rw [Rat.intCast_sub] at h3
  grind
theorem unit_prod (m n : Int) : unitQ m * unitQ n * 1208925819614629174706176 = ((m * n : Int) : Rat) := by
  have h1 := unitQ_mul m
  have h2 := unitQ_mul n
  rw [Rat.intCast_mul, ← h1, ← h2]
  grind
theorem unit_le_mul {s m n : Int} : unitQ s ≤ unitQ m * unitQ n ↔ s * 1099511627776 ≤ m * n := by
  have h1 := unitQ_mul s
  have h2 := unit_prod m n
  rw [← Rat.intCast_le_intCast, Rat.intCast_mul s, ← h2, ← h1]
  have e : ((1099511627776 : Int) : Rat) = 1099511627776 := rfl
  rw [e]
  constructor
  · intro h; grind
  · intro h; grind
theorem mul_le_unit {s m n : Int} : unitQ m * unitQ n ≤ unitQ s ↔ m * n ≤ s * 1099511627776 := by
  have h1 := unitQ_mul s
  have h2 := unit_prod m n
  rw [← Rat.intCast_le_intCast, Rat.intCast_mul s, ← h2, ← h1]
  have e : ((1099511627776 : Int) : Rat) = 1099511627776 := rfl
  rw [e]
  constructor
  · intro h; grind
  · intro h; grind
theorem unit_ne {n : Int} (h : n ≠ 0) : unitQ n ≠ 0 := by
  intro e
  have h1 := unitQ_mul n
  rw [e, Rat.zero_mul] at h1
  exact h (Rat.intCast_eq_zero_iff.1 h1.symm)
theorem unit_zero : unitQ 0 = 0 := by unfold unitQ; rw [Rat.intCast_zero, Rat.div_def, Rat.zero_mul]
theorem unit_eq_zero {n : Int} : unitQ n = 0 ↔ n = 0 := by
  constructor
  · intro h
    rcases Int.lt_trichotomy n 0 with g | g | g
    · exact absurd h (unit_ne (by omega))
    · exact g
    · exact absurd h (unit_ne (by omega))
  · rintro rfl; exact unit_zero
theorem unit_quot {m n : Int} (hn : n ≠ 0) : unitQ m / unitQ n * (n : Rat) = (m : Rat) := by
  have h1 := unitQ_mul m
  have h2 := unitQ_mul n
  have h3 := Rat.div_mul_cancel (a := unitQ m) (unit_ne hn)
  rw [← h2, ← h1]
  conv => rhs; rw [← h3]
  grind
theorem unit_le_div {s m n : Int} (hn : 0 < n) : unitQ s ≤ unitQ m / unitQ n ↔ s * n ≤ m * 1099511627776 := by
  have h1 := unit_quot (m := m) (show n ≠ 0 by omega)
  have h2 := unitQ_mul s
  have hp : (0 : Rat) < (n : Rat) := Rat.intCast_pos.2 hn
  have e : ((1099511627776 : Int) : Rat) = 1099511627776 := rfl
  rw [← Rat.intCast_le_intCast, Rat.intCast_mul, Rat.intCast_mul, ← h1, ← h2, e]
  constructor
  · intro h
    have := Rat.mul_le_mul_of_nonneg_right h (Rat.le_of_lt hp)
    grind
  · intro h
    refine Rat.le_of_mul_le_mul_right (c := (n : Rat)) ?_ hp
    grind
theorem div_le_unit {s m n : Int} (hn : 0 < n) : unitQ m / unitQ n ≤ unitQ s ↔ m * 1099511627776 ≤ s * n := by
  have h1 := unit_quot (m := m) (show n ≠ 0 by omega)
  have h2 := unitQ_mul s
  have hp : (0 : Rat) < (n : Rat) := Rat.intCast_pos.2 hn
  have e : ((1099511627776 : Int) : Rat) = 1099511627776 := rfl
  rw [← Rat.intCast_le_intCast, Rat.intCast_mul, Rat.intCast_mul, ← h1, ← h2, e]
  constructor
  · intro h
    have := Rat.mul_le_mul_of_nonneg_right h (Rat.le_of_lt hp)
    grind
  · intro h
    refine Rat.le_of_mul_le_mul_right (c := (n : Rat)) ?_ hp
    grind
theorem unit_neg (n : Int) : unitQ (-n) = -unitQ n := by
  have h1 := unitQ_mul n
  have h2 := unitQ_mul (-n)
  rw [Rat.intCast_neg] at h2
  grind
theorem unit_div_neg {m n : Int} (hn : n ≠ 0) : unitQ m / unitQ n = unitQ (-m) / unitQ (-n) := by
  have h1 := unit_quot (m := m) hn
  have h2 := unit_quot (m := -m) (show -n ≠ 0 by omega)
  rw [Rat.intCast_neg, Rat.intCast_neg] at h2
  have hne : (n : Rat) ≠ 0 := fun e => hn (Rat.intCast_eq_zero_iff.1 e)
  grind
theorem enc {T : Int × Int × Int} {t d : Int} (hd : 0 < d) (hs : SubRes T (md (dn t d) (upq t d))) (h0 : T.2.2 = 0) : T.1 * d ≤ t ∧ t ≤ T.2.1 * d := by
  obtain ⟨h1, h2, h3⟩ := hs h0
  unfold md at h1 h2 h3
  by_cases g : dn t d < -2305843009213693952 ∨ 2305843009213693952 < upq t d
  · rw [if_pos g] at h1; cases h1
  · rw [if_neg g] at h2 h3
    have d1 := Int.mul_ediv_add_emod t d
    have d2 := Int.emod_nonneg t (show d ≠ 0 by omega)
    have e1 := Int.mul_ediv_add_emod (-t) d
    have e2 := Int.emod_nonneg (-t) (show d ≠ 0 by omega)
    simp only [] at h2 h3
    unfold upq dn at g h3
    unfold dn at h2
    obtain ⟨q, hq⟩ : ∃ q, t / d = q := ⟨_, rfl⟩
    obtain ⟨p, hp⟩ : ∃ q, -t / d = q := ⟨_, rfl⟩
    rw [hq] at h2 g d1
    rw [hp] at h3 g e1
    have a1 : T.1 ≤ q := by omega
    have a2 : -p ≤ T.2.1 := by omega
    have b1 := Int.mul_le_mul_of_nonneg_right a1 (show 0 ≤ d by omega)
    have b2 := Int.mul_le_mul_of_nonneg_right a2 (show 0 ≤ d by omega)
    rw [Int.mul_comm] at d1 e1
    rw [Int.neg_mul] at b2
    omega
def Has (T : Int × Int × Int) (r : Rat) : Prop := T.2.2 = 0 → unitQ T.1 ≤ r ∧ r ≤ unitQ T.2.1
theorem add_has {a b c d x y : Int} (v1 : V a b) (v2 : V c d) (h1 : a ≤ x) (h2 : x ≤ b) (h3 : c ≤ y) (h4 : y ≤ d) : Has (addS a b c d) (unitQ x + unitQ y) := by
  intro h0
  have e : addS a b c d = md (a + c) (b + d) := if_pos ⟨v1, v2⟩
  rw [e] at h0 ⊢
  unfold md at h0 ⊢
  by_cases g : a + c < -2305843009213693952 ∨ 2305843009213693952 < b + d
  · rw [if_pos g] at h0; cases h0
  · rw [if_neg g, unit_add, unit_le, unit_le]; constructor <;> (dsimp only; omega)
theorem sub_has {a b c d x y : Int} (v1 : V a b) (v2 : V c d) (h1 : a ≤ x) (h2 : x ≤ b) (h3 : c ≤ y) (h4 : y ≤ d) : Has (subS a b c d) (unitQ x - unitQ y) := by
  intro h0
  have e : subS a b c d = md (a - d) (b - c) := if_pos ⟨v1, v2⟩
  rw [e] at h0 ⊢
  unfold md at h0 ⊢
  by_cases g : a - d < -2305843009213693952 ∨ 2305843009213693952 < b - c
  · rw [if_pos g] at h0; cases h0
  · rw [if_neg g, unit_sub, unit_le, unit_le]; constructor <;> (dsimp only; omega)
theorem V_point {a b x : Int} (v : V a b) (h1 : a ≤ x) (h2 : x ≤ b) : V x x := by unfold V at *; omega
theorem mul_has {a b c d x y : Int} (v1 : V a b) (v2 : V c d) (h1 : a ≤ x) (h2 : x ≤ b) (h3 : c ≤ y) (h4 : y ≤ d) : Has (mulS a b c d) (unitQ x * unitQ y) := by
  intro h0
  have hs := mul_sub' v1 v2 h1 (Int.le_refl x) h2 h3 (Int.le_refl y) h4
  have e : mulS x x y y = md (dn (x * y) 1099511627776) (upq (x * y) 1099511627776) := by
    rw [show mulS x x y y = mulV x x y y from if_pos ⟨V_point v1 h1 h2, V_point v2 h3 h4⟩]
    unfold mulV mn mx
    simp
  rw [e] at hs
  have := enc (by decide) hs h0
  rw [unit_le_mul, mul_le_unit]
  exact this
theorem sq_has {a b x : Int} (v1 : V a b) (h1 : a ≤ x) (h2 : x ≤ b) : Has (sqS a b) (unitQ x * unitQ x) := by
  intro h0
  have hs := sq_sub v1 h1 (Int.le_refl x) h2
  have e : sqS x x = md (dn (x * x) 1099511627776) (upq (x * x) 1099511627776) := by
    rw [show sqS x x = sqV (absV x x) from if_pos (V_point v1 h1 h2)]
    unfold sqV absV
    by_cases g : 0 ≤ x
    · rw [if_pos g]
    · rw [if_neg g, if_pos (by omega)]
      simp only [Int.neg_mul_neg]
  rw [e] at hs
  have := enc (by decide) hs h0
  rw [unit_le_mul, mul_le_unit]
  exact this
theorem div_has {a b c d x y : Int} (v1 : V a b) (v2 : V c d) (h1 : a ≤ x) (h2 : x ≤ b) (h3 : c ≤ y) (h4 : y ≤ d) (hy : y ≠ 0) : Has (divS a b c d) (unitQ x / unitQ y) := by
  intro h0
  have hs := div_sub' v1 v2 h1 (Int.le_refl x) h2 h3 (Int.le_refl y) h4
  have e : divS x x y y = divV x x y y := if_pos ⟨V_point v1 h1 h2, V_point v2 h3 h4⟩
  rw [e] at hs
  unfold divV at hs
  rw [if_neg (by omega)] at hs
  by_cases g : y < 0
  · rw [if_pos g] at hs
    unfold divQ at hs
    rw [show ∀ t : Int, min t t = t from fun t => by omega, show ∀ t : Int, max t t = t from fun t => by omega] at hs
    have := enc (by omega) hs h0
    rw [unit_div_neg hy, unit_le_div (by omega), div_le_unit (by omega)]
    exact this
  · rw [if_neg g] at hs
    unfold divQ at hs
    rw [show ∀ t : Int, min t t = t from fun t => by omega, show ∀ t : Int, max t t = t from fun t => by omega] at hs
    have := enc (by omega) hs h0
    rw [unit_le_div (by omega), div_le_unit (by omega)]
    exact this
def okB (T : Int × Int × Int) : Prop := T.2.2 = 0 → -2305843009213693952 ≤ T.1 ∧ T.2.1 ≤ 2305843009213693952
theorem md_b (x y : Int) : okB (md x y) := by
  unfold okB md
  intro h
  by_cases g : x < -2305843009213693952 ∨ 2305843009213693952 < y
  · rw [if_pos g] at h; cases h
  · rw [if_neg g]; constructor <;> (dsimp only; omega)
theorem has_b {T : Int × Int × Int} {r : Rat} (h : Has T r) (hb : okB T) (h0 : T.2.2 = 0) : -9223372036854775808 ≤ T.1 ∧ T.1 ≤ 9223372036854775807 ∧ -9223372036854775808 ≤ T.2.1 ∧ T.2.1 ≤ 9223372036854775807 := by
  have h1 := h h0
  have h2 := hb h0
  have h3 := unit_le.1 (Rat.le_trans h1.1 h1.2)
  omega
theorem add_b {a b c d : Int} (v1 : V a b) (v2 : V c d) : okB (addS a b c d) := by rw [show addS a b c d = md (a + c) (b + d) from if_pos ⟨v1, v2⟩]; exact md_b _ _
theorem sub_b {a b c d : Int} (v1 : V a b) (v2 : V c d) : okB (subS a b c d) := by rw [show subS a b c d = md (a - d) (b - c) from if_pos ⟨v1, v2⟩]; exact md_b _ _
theorem mul_b {a b c d : Int} (v1 : V a b) (v2 : V c d) : okB (mulS a b c d) := by rw [show mulS a b c d = mulV a b c d from if_pos ⟨v1, v2⟩]; exact md_b _ _
theorem sq_bb {a b : Int} (v1 : V a b) : okB (sqS a b) := by rw [show sqS a b = sqV (absV a b) from if_pos v1]; exact md_b _ _
theorem div_b {a b c d : Int} (v1 : V a b) (v2 : V c d) : okB (divS a b c d) := by
  rw [show divS a b c d = divV a b c d from if_pos ⟨v1, v2⟩]
  unfold divV
  by_cases g : c ≤ 0 ∧ 0 ≤ d
  · rw [if_pos g]; intro h; cases h
  · rw [if_neg g]
    by_cases k : d < 0
    · rw [if_pos k]; exact md_b _ _
    · rw [if_neg k]; exact md_b _ _
theorem has_call {s t e : Int} {r : Rat} {k : Nat} (h : Has (s, t, e) r) (hb : okB (s, t, e)) (hr : sz r k) (hk : k ≤ 4000) (w : World) (v : Value) (h0 : (e == 0) = true) (hv : FR w v r) :
    Calls Tryz.prog 16 #[.agg #[.int .i64 s, .int .i64 t], v] w fun e w' => e = .returned (.bool true) ∧ Steps w w' := by
  have e0 : e = 0 := by simpa using h0
  have b := has_b h hb e0
  have c := h e0
  have := rhas s t w hv hr hk b.1 b.2.1 b.2.2.1 b.2.2.2
  rw [decide_eq_true c] at this
  exact this
theorem isqrt_sq {n : Int} (h : 0 ≤ n) : 0 ≤ isqrt n ∧ isqrt n * isqrt n ≤ n ∧ n < (isqrt n + 1) * (isqrt n + 1) := by
  obtain ⟨m, rfl⟩ := Int.eq_ofNat_of_zero_le h
  unfold isqrt
  simp only [Int.toNat_natCast]
  have h1 := Nat.sqrt_le m
  have h2 : m < (m.sqrt + 1) * (m.sqrt + 1) := Nat.lt_succ_sqrt m
  exact ⟨by omega, by exact_mod_cast h1, by exact_mod_cast h2⟩
theorem sqrt_has {a b x : Int} (v1 : V a b) (h1 : a ≤ x) (h2 : x ≤ b) : (a < 0 ∧ sqrtS a b = (0, 0, 2)) ∨ (0 ≤ a ∧ (sqrtS a b).2.2 = 0 ∧ 0 ≤ (sqrtS a b).1 ∧ (sqrtS a b).1 ≤ 2305843009213693952 ∧ 0 ≤ (sqrtS a b).2.1 ∧ (sqrtS a b).2.1 ≤ 2305843009213693952 ∧
    unitQ (sqrtS a b).1 * unitQ (sqrtS a b).1 ≤ unitQ x ∧ unitQ x ≤ unitQ (sqrtS a b).2.1 * unitQ (sqrtS a b).2.1) := by
  have e : sqrtS a b = sqrtV a b := if_pos v1
  rw [e]
  unfold sqrtV
  by_cases g : a < 0
  · left; exact ⟨g, if_pos g⟩
  · right
    rw [if_neg g]
    unfold V at v1
    obtain ⟨p0, p1, p2⟩ := isqrt_sq (n := a * 1099511627776) (by omega)
    obtain ⟨q0, q1, q2⟩ := isqrt_sq (n := b * 1099511627776) (by omega)
    have pb := isqrt_b (n := a * 1099511627776) (by omega) (by omega)
    have qb := isqrt_b (n := b * 1099511627776) (by omega) (by omega)
    refine ⟨by omega, rfl, p0, by dsimp only; omega, ?_, ?_, ?_, ?_⟩
    · dsimp only; split <;> omega
    · dsimp only; split <;> omega
    · rw [mul_le_unit]; dsimp only; omega
    · rw [unit_le_mul]
      dsimp only
      split
      · omega
      · have : (isqrt (b * 1099511627776) + 1) * (isqrt (b * 1099511627776) + 1) = isqrt (b * 1099511627776) * isqrt (b * 1099511627776) + 2 * isqrt (b * 1099511627776) + 1 := by
          rw [Int.add_mul, Int.mul_add]; omega
        omega
end Go.Proofs.YtalnlnpnacfdfaaGreat
namespace Go.Proofs.YtalnlnpnacfdfaaGreat
/- The plain law of SpanLeast. -/
def ND (s : Int) (r : Rat) : Prop := unitQ s ≤ r ∧ r < unitQ s + unitQ 1
def NU (s : Int) (r : Rat) : Prop := r ≤ unitQ s ∧ unitQ s < r + unitQ 1
open Go.RowKit in
theorem FR.len {w : World} {a : Bool} {s : Option Addr} {n c : Nat} {b : Bool} {t : Value} {r : Rat} (h : FR w (.agg #[.bool a, .slice s n c, .bool b, t]) r) : n = 0 ↔ r = 0 := by
  obtain ⟨ap, np, cp, aq, nq, cq, e, _, _, hn⟩ := h.nums
  simp only [Value.agg.injEq, Array.mk.injEq, List.cons.injEq, Value.slice.injEq] at e
  rw [e.2.1.2.1]; exact hn
theorem nd_iff {s : Int} {r : Rat} : ND s r ↔ unitQ s ≤ r ∧ ¬ unitQ (s + 1) ≤ r := by
  unfold ND; rw [unit_add, Rat.not_le]
theorem nu_iff {s : Int} {r : Rat} : NU s r ↔ r ≤ unitQ s ∧ ¬ r ≤ unitQ (s - 1) := by
  unfold NU; rw [← unit_sub, Rat.not_le]
  constructor
  · rintro ⟨h1, h2⟩; exact ⟨h1, by grind⟩
  · rintro ⟨h1, h2⟩; exact ⟨h1, by grind⟩
theorem dn_in {t d : Int} (hd : 0 < d) (h1 : -4611686018427387904 < dn t d) (h2 : dn t d < 4611686018427387904) : dn t d * d ≤ t ∧ ¬ (dn t d + 1) * d ≤ t := by
  have e : dn t d = t / d := by unfold dn at *; omega
  rw [e]
  have d1 := Int.mul_ediv_add_emod t d
  have d2 := Int.emod_nonneg t (show d ≠ 0 by omega)
  have d3 := Int.emod_lt_of_pos t hd
  rw [Int.mul_comm] at d1
  rw [Int.add_mul]
  omega
theorem upq_in {t d : Int} (hd : 0 < d) (h1 : -4611686018427387904 < upq t d) (h2 : upq t d < 4611686018427387904) : t ≤ upq t d * d ∧ ¬ t ≤ (upq t d - 1) * d := by
  have := dn_in (t := -t) hd (by unfold upq at *; omega) (by unfold upq at *; omega)
  unfold upq at *
  rw [Int.neg_mul, Int.sub_mul, Int.neg_mul]
  rw [Int.add_mul] at this
  omega
theorem dn_le_upq {t s d : Int} (hd : 0 < d) (h : t ≤ s) : dn t d ≤ upq s d := by
  have h1 : t / d ≤ s / d := Int.ediv_le_ediv hd h
  have d1 := Int.mul_ediv_add_emod s d
  have d2 := Int.emod_nonneg s (show d ≠ 0 by omega)
  have e1 := Int.mul_ediv_add_emod (-s) d
  have e2 := Int.emod_nonneg (-s) (show d ≠ 0 by omega)
  have h2 : s / d ≤ -(-s / d) := by
    rcases Int.lt_or_le (-(-s / d)) (s / d) with g | g
    · exfalso
      have := Int.mul_le_mul_of_nonneg_left (show s / d + (-s / d) ≥ 1 by omega) (show 0 ≤ d by omega)
      rw [Int.mul_add] at this
      omega
    · exact g
  unfold upq dn
  omega
theorem md_zero {x y : Int} (h : (md x y).2.2 = 0) : md x y = (x, y, 0) ∧ -2305843009213693952 ≤ x ∧ y ≤ 2305843009213693952 := by
  unfold md at *
  by_cases g : x < -2305843009213693952 ∨ 2305843009213693952 < y
  · rw [if_pos g] at h; cases h
  · rw [if_neg g]; exact ⟨rfl, by omega, by omega⟩
theorem ends_in {t s d : Int} (hd : 0 < d) (hts : t ≤ s) (h : (md (dn t d) (upq s d)).2.2 = 0) :
    md (dn t d) (upq s d) = (dn t d, upq s d, 0) ∧ dn t d * d ≤ t ∧ ¬ (dn t d + 1) * d ≤ t ∧ s ≤ upq s d * d ∧ ¬ s ≤ (upq s d - 1) * d := by
  obtain ⟨e, h1, h2⟩ := md_zero h
  have h3 := dn_le_upq hd hts
  have a := dn_in (t := t) hd (by omega) (by omega)
  have b := upq_in (t := s) hd (by omega) (by omega)
  exact ⟨e, a.1, a.2, b.1, b.2⟩
theorem nd_mul {s m n : Int} (h1 : s * 1099511627776 ≤ m * n) (h2 : ¬ (s + 1) * 1099511627776 ≤ m * n) : ND s (unitQ m * unitQ n) := nd_iff.2 ⟨unit_le_mul.2 h1, fun h => h2 (unit_le_mul.1 h)⟩
theorem nu_mul {s m n : Int} (h1 : m * n ≤ s * 1099511627776) (h2 : ¬ m * n ≤ (s - 1) * 1099511627776) : NU s (unitQ m * unitQ n) := nu_iff.2 ⟨mul_le_unit.2 h1, fun h => h2 (mul_le_unit.1 h)⟩
theorem mul_least {a b c d : Int} (v1 : V a b) (v2 : V c d) (h : (mulS a b c d).2.2 = 0) :
    (ND (mulS a b c d).1 (unitQ a * unitQ c) ∨ ND (mulS a b c d).1 (unitQ a * unitQ d) ∨ ND (mulS a b c d).1 (unitQ b * unitQ c) ∨ ND (mulS a b c d).1 (unitQ b * unitQ d)) ∧
    (NU (mulS a b c d).2.1 (unitQ a * unitQ c) ∨ NU (mulS a b c d).2.1 (unitQ a * unitQ d) ∨ NU (mulS a b c d).2.1 (unitQ b * unitQ c) ∨ NU (mulS a b c d).2.1 (unitQ b * unitQ d)) := by
  have e : mulS a b c d = mulV a b c d := if_pos ⟨v1, v2⟩
  rw [e] at h ⊢
  unfold mulV at h ⊢
  obtain ⟨t, ht⟩ : ∃ t, mn (mn (mn (a * c) (a * d)) (b * c)) (b * d) = t := ⟨_, rfl⟩
  obtain ⟨s, hs⟩ : ∃ t, mx (mx (mx (a * c) (a * d)) (b * c)) (b * d) = t := ⟨_, rfl⟩
  rw [ht, hs] at h ⊢
  have hts : t ≤ s := by rw [← ht, ← hs]; unfold mn mx; omega
  obtain ⟨e2, p1, p2, p3, p4⟩ := ends_in (by decide) hts h
  rw [e2]
  dsimp only
  have ct : t = a * c ∨ t = a * d ∨ t = b * c ∨ t = b * d := by rw [← ht]; unfold mn; omega
  have cs : s = a * c ∨ s = a * d ∨ s = b * c ∨ s = b * d := by rw [← hs]; unfold mx; omega
  constructor
  · rcases ct with g | g | g | g
    · left; exact nd_mul (by rw [← g]; exact p1) (by rw [← g]; exact p2)
    · right; left; exact nd_mul (by rw [← g]; exact p1) (by rw [← g]; exact p2)
    · right; right; left; exact nd_mul (by rw [← g]; exact p1) (by rw [← g]; exact p2)
    · right; right; right; exact nd_mul (by rw [← g]; exact p1) (by rw [← g]; exact p2)
  · rcases cs with g | g | g | g
    · left; exact nu_mul (by rw [← g]; exact p3) (by rw [← g]; exact p4)
    · right; left; exact nu_mul (by rw [← g]; exact p3) (by rw [← g]; exact p4)
    · right; right; left; exact nu_mul (by rw [← g]; exact p3) (by rw [← g]; exact p4)
    · right; right; right; exact nu_mul (by rw [← g]; exact p3) (by rw [← g]; exact p4)
theorem nd_div {m n : Int} (hn : 0 < n) (h1 : -4611686018427387904 < dn (m * 1099511627776) n) (h2 : dn (m * 1099511627776) n < 4611686018427387904) : ND (dn (m * 1099511627776) n) (unitQ m / unitQ n) := by
  have := dn_in (t := m * 1099511627776) hn h1 h2
  exact nd_iff.2 ⟨(unit_le_div hn).2 this.1, fun h => this.2 ((unit_le_div hn).1 h)⟩
theorem nu_div {m n : Int} (hn : 0 < n) (h1 : -4611686018427387904 < upq (m * 1099511627776) n) (h2 : upq (m * 1099511627776) n < 4611686018427387904) : NU (upq (m * 1099511627776) n) (unitQ m / unitQ n) := by
  have := upq_in (t := m * 1099511627776) hn h1 h2
  exact nu_iff.2 ⟨(div_le_unit hn).2 this.1, fun h => this.2 ((div_le_unit hn).1 h)⟩
theorem divQ_least {a b c d : Int} (hab : a ≤ b) (hc : 0 < c) (hcd : c ≤ d) (h : (divQ a b c d).2.2 = 0) :
    (ND (divQ a b c d).1 (unitQ a / unitQ c) ∨ ND (divQ a b c d).1 (unitQ a / unitQ d)) ∧ (NU (divQ a b c d).2.1 (unitQ b / unitQ c) ∨ NU (divQ a b c d).2.1 (unitQ b / unitQ d)) := by
  unfold divQ at h ⊢
  obtain ⟨e, h1, h2⟩ := md_zero h
  rw [e]
  dsimp only
  have g1 := dn_le_upq (d := c) hc (show a * 1099511627776 ≤ b * 1099511627776 by omega)
  have g2 := dn_le_upq (d := d) (by omega) (show a * 1099511627776 ≤ b * 1099511627776 by omega)
  have m1 := Int.min_le_left (dn (a * 1099511627776) c) (dn (a * 1099511627776) d)
  have m2 := Int.min_le_right (dn (a * 1099511627776) c) (dn (a * 1099511627776) d)
  have m3 := Int.le_max_left (upq (b * 1099511627776) c) (upq (b * 1099511627776) d)
  have m4 := Int.le_max_right (upq (b * 1099511627776) c) (upq (b * 1099511627776) d)
  constructor
  · rcases Int.le_total (dn (a * 1099511627776) c) (dn (a * 1099511627776) d) with g | g
    · left; rw [Int.min_eq_left g]; exact nd_div hc (by omega) (by omega)
    · right; rw [Int.min_eq_right g]; exact nd_div (by omega) (by omega) (by omega)
  · rcases Int.le_total (upq (b * 1099511627776) c) (upq (b * 1099511627776) d) with g | g
    · right; rw [Int.max_eq_right g]; exact nu_div (by omega) (by omega) (by omega)
    · left; rw [Int.max_eq_left g]; exact nu_div hc (by omega) (by omega)
theorem div_least {a b c d : Int} (v1 : V a b) (v2 : V c d) (h : (divS a b c d).2.2 = 0) : c ≠ 0 ∧ d ≠ 0 ∧
    (ND (divS a b c d).1 (unitQ a / unitQ c) ∨ ND (divS a b c d).1 (unitQ a / unitQ d) ∨ ND (divS a b c d).1 (unitQ b / unitQ c) ∨ ND (divS a b c d).1 (unitQ b / unitQ d)) ∧
    (NU (divS a b c d).2.1 (unitQ a / unitQ c) ∨ NU (divS a b c d).2.1 (unitQ a / unitQ d) ∨ NU (divS a b c d).2.1 (unitQ b / unitQ c) ∨ NU (divS a b c d).2.1 (unitQ b / unitQ d)) := by
  have e : divS a b c d = divV a b c d := if_pos ⟨v1, v2⟩
  rw [e] at h ⊢
  unfold V at v1 v2
  unfold divV at h ⊢
  by_cases g : c ≤ 0 ∧ 0 ≤ d
  · rw [if_pos g] at h; cases h
  · rw [if_neg g] at h ⊢
    refine ⟨by omega, by omega, ?_⟩
    by_cases k : d < 0
    · rw [if_pos k] at h ⊢
      have := divQ_least (by omega) (by omega) (by omega) h
      rw [← unit_div_neg (by omega), ← unit_div_neg (by omega), ← unit_div_neg (by omega), ← unit_div_neg (by omega)] at this
      exact ⟨this.1.elim (fun h => .inr (.inr (.inr h))) (fun h => .inr (.inr (.inl h))), this.2.elim (fun h => .inr (.inl h)) (fun h => .inl h)⟩
    · rw [if_neg k] at h ⊢
      have := divQ_least v1.1 (by omega) v2.1 h
      exact ⟨this.1.elim (fun h => .inl h) (fun h => .inr (.inl h)), this.2.elim (fun h => .inr (.inr (.inl h))) (fun h => .inr (.inr (.inr h)))⟩
theorem scale_q {a num den : Int} (h : den ≠ 0) : unitQ a * ((num : Rat) / (den : Rat)) * (den : Rat) = unitQ a * (num : Rat) := by
  have : (den : Rat) ≠ 0 := by exact_mod_cast h
  grind
theorem mul_le_iff {a b c : Rat} (hc : 0 < c) : a * c ≤ b * c ↔ a ≤ b := ⟨fun h => Rat.le_of_mul_le_mul_right h hc, fun h => Rat.mul_le_mul_of_nonneg_right h (Rat.le_of_lt hc)⟩
theorem unit_le_scale {s a num den : Int} (h : 0 < den) : unitQ s ≤ unitQ a * ((num : Rat) / (den : Rat)) ↔ s * den ≤ a * num := by
  have hd : (0 : Rat) < (den : Rat) := by exact_mod_cast h
  rw [← mul_le_iff hd, scale_q (by omega), ← mul_le_iff (show (0 : Rat) < 1099511627776 by decide)]
  have e1 : unitQ s * (den : Rat) * 1099511627776 = ((s * den : Int) : Rat) := by have := unitQ_mul s; rw [Rat.intCast_mul, ← this]; grind
  have e2 : unitQ a * (num : Rat) * 1099511627776 = ((a * num : Int) : Rat) := by have := unitQ_mul a; rw [Rat.intCast_mul, ← this]; grind
  rw [e1, e2]
  exact_mod_cast Iff.rfl
theorem scale_le_unit {s a num den : Int} (h : 0 < den) : unitQ a * ((num : Rat) / (den : Rat)) ≤ unitQ s ↔ a * num ≤ s * den := by
  have hd : (0 : Rat) < (den : Rat) := by exact_mod_cast h
  rw [← mul_le_iff hd, scale_q (by omega), ← mul_le_iff (show (0 : Rat) < 1099511627776 by decide)]
  have e1 : unitQ s * (den : Rat) * 1099511627776 = ((s * den : Int) : Rat) := by have := unitQ_mul s; rw [Rat.intCast_mul, ← this]; grind
  have e2 : unitQ a * (num : Rat) * 1099511627776 = ((a * num : Int) : Rat) := by have := unitQ_mul a; rw [Rat.intCast_mul, ← this]; grind
  rw [e1, e2]
  exact_mod_cast Iff.rfl
theorem scale_le {a b num den : Int} (h : 0 < den) : unitQ a * ((num : Rat) / (den : Rat)) ≤ unitQ b * ((num : Rat) / (den : Rat)) ↔ a * num ≤ b * num := by
  have hd : (0 : Rat) < (den : Rat) := by exact_mod_cast h
  rw [← mul_le_iff hd, scale_q (by omega), scale_q (by omega), ← mul_le_iff (show (0 : Rat) < 1099511627776 by decide)]
  have e1 : unitQ b * (num : Rat) * 1099511627776 = ((b * num : Int) : Rat) := by have := unitQ_mul b; rw [Rat.intCast_mul, ← this]; grind
  have e2 : unitQ a * (num : Rat) * 1099511627776 = ((a * num : Int) : Rat) := by have := unitQ_mul a; rw [Rat.intCast_mul, ← this]; grind
  rw [e1, e2]
  exact_mod_cast Iff.rfl
def LeastEnds (s : Int × Int × Int) (x y : Rat) : Prop := (x ≤ y → ND s.1 x ∧ NU s.2.1 y) ∧ (y < x → ND s.1 y ∧ NU s.2.1 x)
theorem scale_pos {a b num den : Int} (hab : a ≤ b) (hd : 0 < den) (h : (md (dn (mn (a * num) (b * num)) den) (upq (mx (a * num) (b * num)) den)).2.2 = 0) :
    LeastEnds (md (dn (mn (a * num) (b * num)) den) (upq (mx (a * num) (b * num)) den)) (unitQ a * ((num : Rat) / (den : Rat))) (unitQ b * ((num : Rat) / (den : Rat))) := by
  obtain ⟨e, p1, p2, p3, p4⟩ := ends_in hd (by unfold mn mx; omega) h
  rw [e]
  unfold LeastEnds
  rw [← Rat.not_le, scale_le hd]
  dsimp only
  constructor
  · intro g
    have em : mn (a * num) (b * num) = a * num := by unfold mn; omega
    have ex : mx (a * num) (b * num) = b * num := by unfold mx; omega
    rw [em] at p1 p2 ⊢
    rw [ex] at p3 p4 ⊢
    exact ⟨nd_iff.2 ⟨(unit_le_scale hd).2 p1, fun h => p2 ((unit_le_scale hd).1 h)⟩, nu_iff.2 ⟨(scale_le_unit hd).2 p3, fun h => p4 ((scale_le_unit hd).1 h)⟩⟩
  · intro g
    have em : mn (a * num) (b * num) = b * num := by unfold mn; omega
    have ex : mx (a * num) (b * num) = a * num := by unfold mx; omega
    rw [em] at p1 p2 ⊢
    rw [ex] at p3 p4 ⊢
    exact ⟨nd_iff.2 ⟨(unit_le_scale hd).2 p1, fun h => p2 ((unit_le_scale hd).1 h)⟩, nu_iff.2 ⟨(scale_le_unit hd).2 p3, fun h => p4 ((scale_le_unit hd).1 h)⟩⟩
theorem scale_least {a b num den : Int} (v1 : V a b) (h : (scaleS a b num den).2.2 = 0) : den ≠ 0 ∧ LeastEnds (scaleS a b num den) (unitQ a * ((num : Rat) / (den : Rat))) (unitQ b * ((num : Rat) / (den : Rat))) := by
  have e : scaleS a b num den = scaleV a b num den := if_pos v1
  rw [e] at h ⊢
  unfold scaleV at h ⊢
  by_cases d0 : den = 0
  · rw [if_pos d0] at h; cases h
  · rw [if_neg d0] at h ⊢
    refine ⟨d0, ?_⟩
    unfold V at v1
    by_cases dn' : den < 0
    · rw [if_pos dn'] at h ⊢
      rw [← Int.mul_neg, ← Int.mul_neg] at h ⊢
      have := scale_pos (num := -num) v1.1 (by omega) h
      have er : ((-num : Int) : Rat) / ((-den : Int) : Rat) = (num : Rat) / (den : Rat) := by
        have : (den : Rat) ≠ 0 := by exact_mod_cast d0
        rw [Rat.intCast_neg, Rat.intCast_neg]; grind
      rw [er] at this
      exact this
    · rw [if_neg dn'] at h ⊢
      exact scale_pos v1.1 (by omega) h
theorem scale_b {a b num den : Int} (v1 : V a b) : okB (scaleS a b num den) := by
  rw [show scaleS a b num den = scaleV a b num den from if_pos v1]
  unfold scaleV
  split
  · intro h; cases h
  · split <;> exact md_b _ _
end Go.Proofs.YtalnlnpnacfdfaaGreat
