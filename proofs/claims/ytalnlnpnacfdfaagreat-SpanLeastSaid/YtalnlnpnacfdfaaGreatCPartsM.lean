import Derived.Test.YtalnlnpnacfdfaaGreatCSpanP
namespace Go.Proofs.YtalnlnpnacfdfaaGreat
open Go.RowKit
def SubRes (T U : Int × Int × Int) : Prop := T.2.2 = 0 → U.2.2 = 0 ∧ T.1 ≤ U.1 ∧ U.2.1 ≤ T.2.1
theorem md_sub {lo hi lo' hi' : Int} (h1 : lo ≤ lo') (h2 : hi' ≤ hi) : SubRes (md lo hi) (md lo' hi') := by
  unfold SubRes md
  intro h
  by_cases g : lo < -2305843009213693952 ∨ 2305843009213693952 < hi
  · rw [if_pos g] at h; cases h
  · rw [if_neg g, if_neg (by omega)]
    exact ⟨rfl, h1, h2⟩
theorem upq_mono {s t d : Int} (hd : 0 < d) (h : s ≤ t) : upq s d ≤ upq t d := by
  have := dn_mono hd (show -t ≤ -s by omega)
  unfold upq
  omega
theorem one_dim {k c d v : Int} (h1 : c ≤ v) (h2 : v ≤ d) : min (k * c) (k * d) ≤ k * v ∧ k * v ≤ max (k * c) (k * d) := by
  rcases Int.lt_or_le k 0 with h | h
  · have a := Int.mul_le_mul_of_nonpos_left (show k ≤ 0 by omega) h1
    have b := Int.mul_le_mul_of_nonpos_left (show k ≤ 0 by omega) h2
    omega
  · have a := Int.mul_le_mul_of_nonneg_left h1 h
    have b := Int.mul_le_mul_of_nonneg_left h2 h
    omega
theorem prod_in {a b c d u v : Int} (h1 : a ≤ u) (h2 : u ≤ b) (h3 : c ≤ v) (h4 : v ≤ d) : mn (mn (mn (a * c) (a * d)) (b * c)) (b * d) ≤ u * v ∧ u * v ≤ mx (mx (mx (a * c) (a * d)) (b * c)) (b * d) := by
  have e := one_dim (k := v) h1 h2
  have f := one_dim (k := a) h3 h4
  have g := one_dim (k := b) h3 h4
  rw [Int.mul_comm v a, Int.mul_comm v b, Int.mul_comm v u] at e
  unfold mn mx
  omega
theorem mul_sub' {a b c d x y z w : Int} (v1 : V a b) (v2 : V c d) (h1 : a ≤ x) (h2 : x ≤ y) (h3 : y ≤ b) (h4 : c ≤ z) (h5 : z ≤ w) (h6 : w ≤ d) : SubRes (mulS a b c d) (mulS x y z w) := by
  unfold V at v1 v2
  have e1 : mulS a b c d = mulV a b c d := if_pos ⟨v1, v2⟩
  have e2 : mulS x y z w = mulV x y z w := if_pos ⟨⟨h2, by omega, by omega⟩, ⟨h5, by omega, by omega⟩⟩
  rw [e1, e2]
  have p1 := prod_in h1 (show x ≤ b by omega) h4 (show z ≤ d by omega)
  have p2 := prod_in h1 (show x ≤ b by omega) (show c ≤ w by omega) h6
  have p3 := prod_in (show a ≤ y by omega) h3 h4 (show z ≤ d by omega)
  have p4 := prod_in (show a ≤ y by omega) h3 (show c ≤ w by omega) h6
  unfold mulV
  refine md_sub (dn_mono (by decide) ?_) (upq_mono (by decide) ?_)
  · conv => rhs; unfold mn
    omega
  · conv => lhs; unfold mx
    omega
theorem dn_box {t s c d e : Int} (hc : 0 < c) (h1 : c ≤ e) (h2 : e ≤ d) (hs : t ≤ s) : min (dn t c) (dn t d) ≤ dn s e := by
  have m := dn_mono (show 0 < e by omega) hs
  rcases Int.lt_or_le t 0 with h | h
  · have := ediv_mono_neg h hc h1
    unfold dn at *
    omega
  · have := ediv_anti h (show 0 < e by omega) h2
    unfold dn at *
    omega
theorem upq_box {t s c d e : Int} (hc : 0 < c) (h1 : c ≤ e) (h2 : e ≤ d) (hs : s ≤ t) : upq s e ≤ max (upq t c) (upq t d) := by
  have := dn_box (t := -t) (s := -s) hc h1 h2 (by omega)
  unfold upq
  omega
theorem divQ_sub {a b c d x y z w : Int} (hc : 0 < c) (h1 : a ≤ x) (h3 : y ≤ b) (h4 : c ≤ z) (h5 : z ≤ w) (h6 : w ≤ d) : SubRes (divQ a b c d) (divQ x y z w) := by
  unfold divQ
  have q1 := dn_box hc h4 (show z ≤ d by omega) (show a * 1099511627776 ≤ x * 1099511627776 by omega)
  have q2 := dn_box hc (show c ≤ w by omega) h6 (show a * 1099511627776 ≤ x * 1099511627776 by omega)
  have q3 := upq_box hc h4 (show z ≤ d by omega) (show y * 1099511627776 ≤ b * 1099511627776 by omega)
  have q4 := upq_box hc (show c ≤ w by omega) h6 (show y * 1099511627776 ≤ b * 1099511627776 by omega)
  exact md_sub (by omega) (by omega)
theorem div_sub' {a b c d x y z w : Int} (v1 : V a b) (v2 : V c d) (h1 : a ≤ x) (h2 : x ≤ y) (h3 : y ≤ b) (h4 : c ≤ z) (h5 : z ≤ w) (h6 : w ≤ d) : SubRes (divS a b c d) (divS x y z w) := by
  unfold V at v1 v2
  have e1 : divS a b c d = divV a b c d := if_pos ⟨v1, v2⟩
  have e2 : divS x y z w = divV x y z w := if_pos ⟨⟨h2, by omega, by omega⟩, ⟨h5, by omega, by omega⟩⟩
  rw [e1, e2]
  unfold divV
  by_cases g : c ≤ 0 ∧ 0 ≤ d
  · rw [if_pos g]; intro h; cases h
  · rw [if_neg g, if_neg (show ¬ (z ≤ 0 ∧ 0 ≤ w) by omega)]
    by_cases k : d < 0
    · rw [if_pos k, if_pos (show w < 0 by omega)]
      exact divQ_sub (by omega) (by omega) (by omega) (by omega) (by omega) (by omega)
    · rw [if_neg k, if_neg (show ¬ w < 0 by omega)]
      exact divQ_sub (by omega) h1 h3 h4 h5 h6
theorem abs_in {a b x y : Int} (h1 : a ≤ x) (h2 : x ≤ y) (h3 : y ≤ b) : 0 ≤ (absV a b).1 ∧ (absV a b).1 ≤ (absV x y).1 ∧ 0 ≤ (absV x y).2.1 ∧ (absV x y).2.1 ≤ (absV a b).2.1 := by
  unfold absV
  repeat' split
  all_goals (dsimp only; omega)
theorem sq_sub {a b x y : Int} (v1 : V a b) (h1 : a ≤ x) (h2 : x ≤ y) (h3 : y ≤ b) : SubRes (sqS a b) (sqS x y) := by
  unfold V at v1
  have e1 : sqS a b = sqV (absV a b) := if_pos v1
  have e2 : sqS x y = sqV (absV x y) := if_pos ⟨h2, by omega, by omega⟩
  rw [e1, e2]
  have A := abs_in h1 h2 h3
  unfold sqV
  refine md_sub (dn_mono (by decide) ?_) (upq_mono (by decide) ?_)
  · exact Int.mul_le_mul A.2.1 A.2.1 A.1 (by omega)
  · exact Int.mul_le_mul A.2.2.2 A.2.2.2 A.2.2.1 (by omega)
theorem sub_sub' {a b c d x y z w : Int} (v1 : V a b) (v2 : V c d) (h1 : a ≤ x) (h2 : x ≤ y) (h3 : y ≤ b) (h4 : c ≤ z) (h5 : z ≤ w) (h6 : w ≤ d) : SubRes (subS a b c d) (subS x y z w) := by
  unfold V at v1 v2
  have e1 : subS a b c d = md (a - d) (b - c) := if_pos ⟨v1, v2⟩
  have e2 : subS x y z w = md (x - w) (y - z) := if_pos ⟨⟨h2, by omega, by omega⟩, ⟨h5, by omega, by omega⟩⟩
  rw [e1, e2]
  exact md_sub (by omega) (by omega)
theorem in_is {a b x y : Int} (v1 : V a b) (h1 : a ≤ x) (h2 : x ≤ y) (h3 : y ≤ b) : inV x y a b = true ∧ errV (V x y ∧ V a b) = 0 ∧ meetS x y a b = (x, y, 0) ∧ hullS x y a b = (a, b, 0) := by
  have v2 : V x y := by unfold V at *; omega
  refine ⟨decide_eq_true ⟨v2, v1, h1, h3⟩, if_pos ⟨v2, v1⟩, ?_, ?_⟩
  · have e : meetS x y a b = meetV x y a b := if_pos ⟨v2, v1⟩
    rw [e]
    unfold meetV
    rw [if_neg (by omega), show max x a = x by omega, show min y b = y by omega]
  · have e : hullS x y a b = (min x a, max y b, 0) := if_pos ⟨v2, v1⟩
    rw [e, show min x a = a by omega, show max y b = b by omega]
end Go.Proofs.YtalnlnpnacfdfaaGreat
