import Derived.Test.YtalnlnpnacfdfaaSpanE
import Derived.Test.YtalnlnpnacfdfaaBlk
import Derived.Test.YtalnlnpnacfdfaaDiv64
namespace Go.Proofs.Ytalnlnpnacfdfaa
open Go.RowKit
theorem rcheck (a b : Int) (w : World) : Calls Try.prog 21 #[.agg #[.int .i64 a, .int .i64 b]] w fun e w' => e = .returned (.int .i64 (errV (V a b))) ∧ Below w.heap.size w w' := by
  by_cases hv : V a b
  · have H : Hid (errV (V a b) = 0) := if_pos hv
    obtain ⟨v0, v1, v2⟩ := hv
    go_enter Try.func21, Try.ntmps21
    go_wp2
    go_returns
    exact ⟨retI H.out.symm, by go_grown⟩
  · have H : Hid (errV (V a b) = 8) := if_neg hv
    unfold V at hv
    go_enter Try.func21, Try.ntmps21
    go_wp2
    all_goals go_returns
    all_goals exact ⟨retI H.out.symm, by go_grown⟩
theorem rmade (lo hi : Int) (w : World) : Calls Try.prog 50 #[.int .i64 lo, .int .i64 hi] w (G3 w (md lo hi)) := by
  by_cases h1 : lo < -2305843009213693952
  · go_enter Try.func50, Try.ntmps50
    go_wp2
    go_returns
    exact G3_eq (by simp [md, h1]) (by go_grown)
  · by_cases h2 : 2305843009213693952 < hi
    all_goals
      go_enter Try.func50, Try.ntmps50
      go_wp2
      go_returns
      exact G3_eq (by simp [md, h1, h2]) (by go_grown)
def absI (t : Int) : Int := if t < 0 then -t else t
theorem rsize (x : Int) (w : World) (h0 : -9223372036854775808 ≤ x) (h1 : x ≤ 9223372036854775807) :
    Calls Try.prog 64 #[.int .i64 x] w fun e w' => e = .returned (.int .u64 (absI x)) ∧ w = w' := by
  by_cases h : x < 0
  all_goals
    go_enter Try.func64, Try.ntmps64
    go_wp2
    go_returns
    exact ⟨retI (by simp only [absI, h, if_true, if_false, IntKind.wrap_u64] <;> omega), rfl⟩
theorem rboth (a b c d : Int) (w : World) : Calls Try.prog 65 #[.agg #[.int .i64 a, .int .i64 b], .agg #[.int .i64 c, .int .i64 d]] w fun e w' => e = .returned (.int .i64 (errV (V a b ∧ V c d))) ∧ Below w.heap.size w w' := by
  by_cases h1 : V a b
  · have H1 : Hid (errV (V a b) = 0) := if_pos h1
    have H : Hid (errV (V a b ∧ V c d) = errV (V c d)) := by show errV (V a b ∧ V c d) = _; unfold errV; simp [h1]
    clear h1
    go_enter Try.func65, Try.ntmps65
    go_wp2_with fail
    refine (rcheck a b _).mono ?_
    rintro e w1 ⟨rfl, hb1⟩
    have st : Steps _ w1 := hb1
    have Bn : Below w.heap.size w w1 := below_steps (by (repeat' first | with_reducible assumption | with_reducible exact Below.refl _ _ | with_reducible refine Below.alloc ?_ ?_ _ | with_reducible refine Below.drew ?_ | with_reducible refine belowN ?_ _ | with_reducible refine Below.setCell ?_ ?_ _ | go_size)) (Nat.le_refl _) st
    have na : Blk w1 (w.heap.size) 23 #[.int .i64 a, .int .i64 b] := Blk.steps (by (repeat' first | with_reducible assumption | (with_reducible refine Blk.new' ?_; first | with_reducible rfl | (simp only [World.size_alloc, World.size_setCell, World.size_drew]; done)) | with_reducible refine Blk.alloc ?_ _ | with_reducible refine Blk.drew ?_ | with_reducible refine Blk.drewN ?_ _ | with_reducible apply Blk.both | with_reducible refine Blk.far' ?_ ?_ | (show _ ≠ _; omega))) st
    have nb : Blk w1 (w.heap.size + 1) 23 #[.int .i64 c, .int .i64 d] := Blk.steps (by (repeat' first | with_reducible assumption | (with_reducible refine Blk.new' ?_; first | with_reducible rfl | (simp only [World.size_alloc, World.size_setCell, World.size_drew]; done)) | with_reducible refine Blk.alloc ?_ _ | with_reducible refine Blk.drew ?_ | with_reducible refine Blk.drewN ?_ _ | with_reducible apply Blk.both | with_reducible refine Blk.far' ?_ ?_ | (show _ ≠ _; omega))) st
    clear st
    have B := Bn
    clear Bn
    have oa := na
    clear na
    have ca0 : World.cell? w1 ⟨w.heap.size, 0, none⟩ = some (.int .i64 a) := oa.c 0 rfl
    have ca1 : World.cell? w1 ⟨w.heap.size, 1, none⟩ = some (.int .i64 b) := oa.c 1 rfl
    have fa := oa.fr
    have la := oa.lt
    have ob := nb
    clear nb
    have cb0 : World.cell? w1 ⟨w.heap.size + 1, 0, none⟩ = some (.int .i64 c) := ob.c 0 rfl
    have cb1 : World.cell? w1 ⟨w.heap.size + 1, 1, none⟩ = some (.int .i64 d) := ob.c 1 rfl
    have fb := ob.fr
    have lb := ob.lt
    rw [H1.out]
    go_wp2_with fail
    refine (rcheck c d _).mono ?_
    rintro e w2 ⟨rfl, hb2⟩
    have st : Steps _ w2 := hb2
    have Bn : Below w.heap.size w w2 := below_steps (by (repeat' first | with_reducible assumption | with_reducible exact Below.refl _ _ | with_reducible refine Below.alloc ?_ ?_ _ | with_reducible refine Below.drew ?_ | with_reducible refine belowN ?_ _ | with_reducible refine Below.setCell ?_ ?_ _ | go_size)) (Nat.le_refl _) st
    have na : Blk w2 (w.heap.size) 23 #[.int .i64 a, .int .i64 b] := Blk.steps (by (repeat' first | with_reducible assumption | (with_reducible refine Blk.new' ?_; first | with_reducible rfl | (simp only [World.size_alloc, World.size_setCell, World.size_drew]; done)) | with_reducible refine Blk.alloc ?_ _ | with_reducible refine Blk.drew ?_ | with_reducible refine Blk.drewN ?_ _ | with_reducible apply Blk.both | with_reducible refine Blk.far' ?_ ?_ | (show _ ≠ _; omega))) st
    have nb : Blk w2 (w.heap.size + 1) 23 #[.int .i64 c, .int .i64 d] := Blk.steps (by (repeat' first | with_reducible assumption | (with_reducible refine Blk.new' ?_; first | with_reducible rfl | (simp only [World.size_alloc, World.size_setCell, World.size_drew]; done)) | with_reducible refine Blk.alloc ?_ _ | with_reducible refine Blk.drew ?_ | with_reducible refine Blk.drewN ?_ _ | with_reducible apply Blk.both | with_reducible refine Blk.far' ?_ ?_ | (show _ ≠ _; omega))) st
    clear B oa ob ca0 ca1 fa la cb0 cb1 fb lb
    clear st
    have B := Bn
    clear Bn
    have oa := na
    clear na
    have ca0 : World.cell? w2 ⟨w.heap.size, 0, none⟩ = some (.int .i64 a) := oa.c 0 rfl
    have ca1 : World.cell? w2 ⟨w.heap.size, 1, none⟩ = some (.int .i64 b) := oa.c 1 rfl
    have fa := oa.fr
    have la := oa.lt
    have ob := nb
    clear nb
    have cb0 : World.cell? w2 ⟨w.heap.size + 1, 0, none⟩ = some (.int .i64 c) := ob.c 0 rfl
    have cb1 : World.cell? w2 ⟨w.heap.size + 1, 1, none⟩ = some (.int .i64 d) := ob.c 1 rfl
    have fb := ob.fr
    have lb := ob.lt
    go_wp2
    go_returns
    exact ⟨retI H.out.symm, by go_grown⟩
  · have H1 : Hid (errV (V a b) = 8) := if_neg h1
    have H : Hid (errV (V a b ∧ V c d) = 8) := if_neg (fun h => h1 h.1)
    clear h1
    go_enter Try.func65, Try.ntmps65
    go_wp2_with fail
    refine (rcheck a b _).mono ?_
    rintro e w1 ⟨rfl, hb1⟩
    have st : Steps _ w1 := hb1
    have Bn : Below w.heap.size w w1 := below_steps (by (repeat' first | with_reducible assumption | with_reducible exact Below.refl _ _ | with_reducible refine Below.alloc ?_ ?_ _ | with_reducible refine Below.drew ?_ | with_reducible refine belowN ?_ _ | with_reducible refine Below.setCell ?_ ?_ _ | go_size)) (Nat.le_refl _) st
    have na : Blk w1 (w.heap.size) 23 #[.int .i64 a, .int .i64 b] := Blk.steps (by (repeat' first | with_reducible assumption | (with_reducible refine Blk.new' ?_; first | with_reducible rfl | (simp only [World.size_alloc, World.size_setCell, World.size_drew]; done)) | with_reducible refine Blk.alloc ?_ _ | with_reducible refine Blk.drew ?_ | with_reducible refine Blk.drewN ?_ _ | with_reducible apply Blk.both | with_reducible refine Blk.far' ?_ ?_ | (show _ ≠ _; omega))) st
    have nb : Blk w1 (w.heap.size + 1) 23 #[.int .i64 c, .int .i64 d] := Blk.steps (by (repeat' first | with_reducible assumption | (with_reducible refine Blk.new' ?_; first | with_reducible rfl | (simp only [World.size_alloc, World.size_setCell, World.size_drew]; done)) | with_reducible refine Blk.alloc ?_ _ | with_reducible refine Blk.drew ?_ | with_reducible refine Blk.drewN ?_ _ | with_reducible apply Blk.both | with_reducible refine Blk.far' ?_ ?_ | (show _ ≠ _; omega))) st
    clear st
    have B := Bn
    clear Bn
    have oa := na
    clear na
    have ca0 : World.cell? w1 ⟨w.heap.size, 0, none⟩ = some (.int .i64 a) := oa.c 0 rfl
    have ca1 : World.cell? w1 ⟨w.heap.size, 1, none⟩ = some (.int .i64 b) := oa.c 1 rfl
    have fa := oa.fr
    have la := oa.lt
    have ob := nb
    clear nb
    have cb0 : World.cell? w1 ⟨w.heap.size + 1, 0, none⟩ = some (.int .i64 c) := ob.c 0 rfl
    have cb1 : World.cell? w1 ⟨w.heap.size + 1, 1, none⟩ = some (.int .i64 d) := ob.c 1 rfl
    have fb := ob.fr
    have lb := ob.lt
    rw [H1.out]
    go_wp2_with fail
    refine (rcheck a b _).mono ?_
    rintro e w2 ⟨rfl, hb2⟩
    have st : Steps _ w2 := hb2
    have Bn : Below w.heap.size w w2 := below_steps (by (repeat' first | with_reducible assumption | with_reducible exact Below.refl _ _ | with_reducible refine Below.alloc ?_ ?_ _ | with_reducible refine Below.drew ?_ | with_reducible refine belowN ?_ _ | with_reducible refine Below.setCell ?_ ?_ _ | go_size)) (Nat.le_refl _) st
    have na : Blk w2 (w.heap.size) 23 #[.int .i64 a, .int .i64 b] := Blk.steps (by (repeat' first | with_reducible assumption | (with_reducible refine Blk.new' ?_; first | with_reducible rfl | (simp only [World.size_alloc, World.size_setCell, World.size_drew]; done)) | with_reducible refine Blk.alloc ?_ _ | with_reducible refine Blk.drew ?_ | with_reducible refine Blk.drewN ?_ _ | with_reducible apply Blk.both | with_reducible refine Blk.far' ?_ ?_ | (show _ ≠ _; omega))) st
    have nb : Blk w2 (w.heap.size + 1) 23 #[.int .i64 c, .int .i64 d] := Blk.steps (by (repeat' first | with_reducible assumption | (with_reducible refine Blk.new' ?_; first | with_reducible rfl | (simp only [World.size_alloc, World.size_setCell, World.size_drew]; done)) | with_reducible refine Blk.alloc ?_ _ | with_reducible refine Blk.drew ?_ | with_reducible refine Blk.drewN ?_ _ | with_reducible apply Blk.both | with_reducible refine Blk.far' ?_ ?_ | (show _ ≠ _; omega))) st
    clear B oa ob ca0 ca1 fa la cb0 cb1 fb lb
    clear st
    have B := Bn
    clear Bn
    have oa := na
    clear na
    have ca0 : World.cell? w2 ⟨w.heap.size, 0, none⟩ = some (.int .i64 a) := oa.c 0 rfl
    have ca1 : World.cell? w2 ⟨w.heap.size, 1, none⟩ = some (.int .i64 b) := oa.c 1 rfl
    have fa := oa.fr
    have la := oa.lt
    have ob := nb
    clear nb
    have cb0 : World.cell? w2 ⟨w.heap.size + 1, 0, none⟩ = some (.int .i64 c) := ob.c 0 rfl
    have cb1 : World.cell? w2 ⟨w.heap.size + 1, 1, none⟩ = some (.int .i64 d) := ob.c 1 rfl
    have fb := ob.fr
    have lb := ob.lt
    rw [H1.out]
    go_wp2
    go_returns
    exact ⟨retI H.out.symm, by go_grown⟩
theorem absI_mul (a b : Int) : absI a * absI b = absI (a * b) := by
  unfold absI
  rcases Int.lt_trichotomy a 0 with ha | rfl | ha
  · rcases Int.lt_trichotomy b 0 with hb | rfl | hb
    · have := Int.mul_pos_of_neg_of_neg ha hb
      rw [if_pos ha, if_pos hb, if_neg (by omega), Int.neg_mul_neg]
    · simp
    · have := Int.mul_neg_of_neg_of_pos ha hb
      rw [if_pos ha, if_neg (by omega), if_pos this, Int.neg_mul]
  · simp
  · rcases Int.lt_trichotomy b 0 with hb | rfl | hb
    · have := Int.mul_neg_of_pos_of_neg ha hb
      rw [if_neg (by omega), if_pos hb, if_pos this, Int.mul_neg]
    · simp
    · have := Int.mul_pos ha hb
      rw [if_neg (by omega), if_neg (by omega), if_neg (by omega)]
theorem absI_b {x : Int} (h0 : -9223372036854775808 ≤ x) (h1 : x ≤ 9223372036854775807) : 0 ≤ absI x ∧ absI x < 18446744073709551616 := by unfold absI; split <;> omega
/-- a number of two words as the reference has it: its sign and its absolute value -/
def negB (t : Int) : Bool := decide (t < 0)
def aHi (t : Int) : Int := hi64 (absI t)
def aLo (t : Int) : Int := lo64 (absI t)
theorem absI_nn (t : Int) : 0 ≤ absI t := by unfold absI; split <;> omega
theorem aHi_nn (t : Int) : 0 ≤ aHi t := hi64_nonneg (absI_nn t)
set_option maxHeartbeats 2000000 in
theorem rtimes (a b : Int) (w : World) (a0 : -9223372036854775808 ≤ a) (a1 : a ≤ 9223372036854775807) (b0 : -9223372036854775808 ≤ b) (b1 : b ≤ 9223372036854775807) :
    Calls Try.prog 60 #[.int .i64 a, .int .i64 b] w fun e w' => e = .returned (.agg #[.bool (negB (a * b)), .int .u64 (aHi (a * b)), .int .u64 (aLo (a * b))]) ∧ ∃ c : Array Value, w' = w.alloc (.cells c 77) := by
  obtain ⟨x0, x1⟩ := absI_b a0 a1
  obtain ⟨y0, y1⟩ := absI_b b0 b1
  have e1 : Hid (absI a * absI b = absI (a * b)) := absI_mul a b
  have e2 := aHi_nn (a * b)
  have e3 : 0 ≤ aLo (a * b) := (lo64_b (absI (a * b))).1
  have eh : absI (a * b) / 18446744073709551616 = aHi (a * b) := rfl
  have el : absI (a * b) % 18446744073709551616 = aLo (a * b) := rfl
  have key : ((a < 0 ∧ b < 0 ∨ ¬ a < 0 ∧ ¬ b < 0) ∧ negB (a * b) = false) ∨ ((a < 0 ∧ ¬ b < 0 ∨ ¬ a < 0 ∧ b < 0) ∧ ((aHi (a * b) = 0 ∧ aLo (a * b) = 0 ∧ negB (a * b) = false) ∨ (aHi (a * b) = 0 ∧ 0 < aLo (a * b) ∧ negB (a * b) = true) ∨ (0 < aHi (a * b) ∧ negB (a * b) = true))) := by
    have hl := hilo (absI (a * b))
    have l0 := (lo64_b (absI (a * b))).1
    have hh := aHi_nn (a * b)
    have lem : negB (a * b) = false ∨ (negB (a * b) = true ∧ a * b < 0) := by unfold negB; by_cases h : a * b < 0 <;> simp [h]
    have zero : ¬ (a * b < 0) → negB (a * b) = false := fun h => by unfold negB; simp [h]
    by_cases ha : a < 0 <;> by_cases hb : b < 0
    · exact .inl ⟨.inl ⟨ha, hb⟩, zero (by have := Int.mul_pos_of_neg_of_neg ha hb; omega)⟩
    · refine .inr ⟨.inl ⟨ha, hb⟩, ?_⟩
      have hp : a * b ≤ 0 := Int.mul_nonpos_of_nonpos_of_nonneg (by omega) (by omega)
      rcases lem with h | ⟨h, hlt⟩
      · have : a * b = 0 := by unfold negB at h; simp at h; omega
        left; rw [this]; exact ⟨rfl, rfl, rfl⟩
      · have : absI (a * b) = -(a * b) := by unfold absI; rw [if_pos hlt]
        by_cases hz : aHi (a * b) = 0
        · right; left; refine ⟨hz, ?_, h⟩; unfold aLo; unfold aHi at hz; omega
        · right; right; exact ⟨by omega, h⟩
    · refine .inr ⟨.inr ⟨ha, hb⟩, ?_⟩
      have hp : a * b ≤ 0 := Int.mul_nonpos_of_nonneg_of_nonpos (by omega) (by omega)
      rcases lem with h | ⟨h, hlt⟩
      · have : a * b = 0 := by unfold negB at h; simp at h; omega
        left; rw [this]; exact ⟨rfl, rfl, rfl⟩
      · have : absI (a * b) = -(a * b) := by unfold absI; rw [if_pos hlt]
        by_cases hz : aHi (a * b) = 0
        · right; left; refine ⟨hz, ?_, h⟩; unfold aLo; unfold aHi at hz; omega
        · right; right; exact ⟨by omega, h⟩
    · exact .inl ⟨.inr ⟨ha, hb⟩, zero (by have := Int.mul_nonneg (show 0 ≤ a by omega) (show 0 ≤ b by omega); omega)⟩
  rcases key with ⟨⟨ha, hb⟩ | ⟨ha, hb⟩, hn⟩ | ⟨⟨ha, hb⟩ | ⟨ha, hb⟩, ⟨hz, hl, hn⟩ | ⟨hz, hl, hn⟩ | ⟨hz, hn⟩⟩
  all_goals
    have HN := Lib.hid hn
    clear hn
    go_enter Try.func60, Try.ntmps60
    go_wp2_with fail
    refine (rsize _ _ a0 a1).mono ?_
    rintro e w' ⟨rfl, rfl⟩
    go_wp2_with fail
    refine (rsize _ _ b0 b1).mono ?_
    rintro e w' ⟨rfl, rfl⟩
    go_wp2_with fail
    refine (mul64 _ _ _ x0 x1 y0 y1).mono ?_
    rintro e w' ⟨rfl, rfl⟩
    rw [e1.out]
    go_wp2
    go_returns
    refine ⟨?_, _, rfl⟩
    rw [HN.out]
    (try rw [hz])
    (try rw [hl])
    (try (simp; omega))
