import Derived.Test.YtalnlnpnacfdfaaCNe
import Derived.Deep.RegionWith
namespace Go.Proofs.Ytalnlnpnacfdfaa
open Go.RowKit
def divF (x y : Int) : Int := Int.fdiv x y
def modF (x y : Int) : Int := x - y * divF x y
theorem divF_of {x y q r : Int} (h : x = y * q + r) (hr : (0 ≤ r ∧ r < y) ∨ (y < r ∧ r ≤ 0)) : divF x y = q ∧ modF x y = r := by
  have e : divF x y = q := by
    unfold divF
    rcases hr with ⟨h0, h1⟩ | ⟨h0, h1⟩
    · rw [Int.fdiv_eq_ediv_of_nonneg x (by omega)]
      exact (quot_of h h0 h1).1
    · rw [← Int.neg_fdiv_neg, Int.fdiv_eq_ediv_of_nonneg (-x) (show 0 ≤ -y by omega)]
      exact (quot_of (r := -r) (by rw [h, Int.neg_add, Int.neg_mul]) (by omega) (by omega)).1
  exact ⟨e, by unfold modF; rw [e]; omega⟩
theorem div_same {g : Bool} {x y : Int} (gx : decide (x < 0) = g) (gy : decide (y < 0) = g) (h : y ≠ 0) : divF x y = zv false (absN x / absN y) ∧ modF x y = zv g (absN x % absN y) := by
  have hy : 0 < absN y := by unfold absN; omega
  have e := Int.mul_ediv_add_emod (absN x) (absN y)
  have m0 := Int.emod_nonneg (absN x) (show absN y ≠ 0 by omega)
  have m1 := Int.emod_lt_of_pos (absN x) hy
  have X := absN_cases x
  have Y := absN_cases y
  cases g
  · simp at gx gy
    have e1 : absN y * (absN x / absN y) = y * (absN x / absN y) := congrArg (· * (absN x / absN y)) (show absN y = y by omega)
    refine divF_of ?_ (Or.inl ⟨?_, ?_⟩)
    all_goals simp only [zv, Bool.false_eq_true, if_false]; omega
  · simp at gx gy
    have e1 : absN y * (absN x / absN y) = -(y * (absN x / absN y)) := (congrArg (· * (absN x / absN y)) (show absN y = -y by omega)).trans (Int.neg_mul _ _)
    refine divF_of ?_ (Or.inr ⟨?_, ?_⟩)
    all_goals simp only [zv, Bool.false_eq_true, if_false, if_true]; omega
theorem div_diff {gx gy : Bool} {x y : Int} (hx : decide (x < 0) = gx) (hy : decide (y < 0) = gy) (hg : gx ≠ gy) (h : y ≠ 0) :
    (absN x % absN y = 0 → divF x y = zv true (absN x / absN y) ∧ modF x y = zv gx (absN x % absN y)) ∧
    (0 < absN x % absN y → divF x y = zv true (absN x / absN y) + -1 ∧ modF x y = zv gx (absN x % absN y) + y) := by
  have hy0 : 0 < absN y := by unfold absN; omega
  have e := Int.mul_ediv_add_emod (absN x) (absN y)
  have m0 := Int.emod_nonneg (absN x) (show absN y ≠ 0 by omega)
  have m1 := Int.emod_lt_of_pos (absN x) hy0
  have X := absN_cases x
  have Y := absN_cases y
  have e1 : y < 0 → absN y * (absN x / absN y) = -(y * (absN x / absN y)) := fun g => (congrArg (· * (absN x / absN y)) (show absN y = -y by omega)).trans (Int.neg_mul _ _)
  have e2 : 0 ≤ y → absN y * (absN x / absN y) = y * (absN x / absN y) := fun g => congrArg (· * (absN x / absN y)) (show absN y = y by omega)
  have e3 : y * -(absN x / absN y) = -(y * (absN x / absN y)) := Int.mul_neg _ _
  have e4 : y * (-(absN x / absN y) + -1) = -(y * (absN x / absN y)) - y := by rw [Int.mul_add, Int.mul_neg]; omega
  cases gx <;> cases gy
  · exact absurd rfl hg
  · simp at hx hy
    refine ⟨fun hz => divF_of ?_ (Or.inr ⟨?_, ?_⟩), fun hz => divF_of ?_ (Or.inr ⟨?_, ?_⟩)⟩
    all_goals simp only [zv, Bool.false_eq_true, if_false, if_true]; omega
  · simp at hx hy
    refine ⟨fun hz => divF_of ?_ (Or.inl ⟨?_, ?_⟩), fun hz => divF_of ?_ (Or.inl ⟨?_, ?_⟩)⟩
    all_goals simp only [zv, Bool.false_eq_true, if_false, if_true]; omega
  · exact absurd rfl hg
theorem fits_le {z x : Int} (h : absN z ≤ absN x) (hx : fits x) : fits z := Nat.le_trans (limbs_le (absN_nonneg z) h) hx
theorem div_fits {x y : Int} (h : y ≠ 0) : absN (divF x y) ≤ absN x ∧ absN (modF x y) ≤ absN y ∧ absN x / absN y ≤ absN x ∧ absN x % absN y ≤ absN y := by
  have hy0 : 0 < absN y := by unfold absN; omega
  have e := Int.mul_ediv_add_emod (absN x) (absN y)
  have m0 := Int.emod_nonneg (absN x) (show absN y ≠ 0 by omega)
  have m1 := Int.emod_lt_of_pos (absN x) hy0
  have q0 : 0 ≤ absN x / absN y := Int.ediv_nonneg (absN_nonneg x) (by omega)
  have l1 := Int.mul_le_mul_of_nonneg_right (show 1 ≤ absN y by omega) q0
  have Y := absN_cases y
  obtain ⟨gx, hx⟩ : ∃ b, decide (x < 0) = b := ⟨_, rfl⟩
  obtain ⟨gy, hy⟩ : ∃ b, decide (y < 0) = b := ⟨_, rfl⟩
  have za : ∀ (g : Bool) {m : Int}, 0 ≤ m → absN (zv g m) = m := fun g m h => absN_zv g h
  refine ⟨?_, ?_, by omega, by omega⟩
  all_goals
    by_cases hs : gx = gy
    · subst hs
      have S := div_same hx hy h
      first
        | (rw [S.1, za _ q0]; omega)
        | (rw [S.2, za _ m0]; omega)
    · have D := div_diff hx hy hs h
      rcases Int.lt_or_le 0 (absN x % absN y) with hr | hr
      · have D' := D.2 hr
        have l2 := Int.mul_le_mul_of_nonneg_right (show 2 ≤ absN y by omega) q0
        first
          | (rw [D'.1]; simp only [zv, if_true]; unfold absN at *; omega)
          | (rw [D'.2]; cases gx <;> cases gy <;> first | exact absurd rfl hs | (simp at hx hy; simp only [zv, if_true, Bool.false_eq_true, if_false]; unfold absN at *; omega))
      · have D' := D.1 (by omega)
        first
          | (rw [D'.1, za _ q0]; omega)
          | (rw [D'.2, za _ m0]; omega)
end Go.Proofs.Ytalnlnpnacfdfaa
namespace Go.Proofs.Ytalnlnpnacfdfaa
open Go.RowKit
set_option maxHeartbeats 6400000 in
set_option maxRecDepth 1000000 in
theorem rdivmod_same {va vb : Value} {x y : Int} (w : World) (ha : Num w va x) (hb : Num w vb y) (fx : fits x) (fy : fits y) (hy : y ≠ 0) (hss : (decide (x < 0) = decide (y < 0)) = True) :
    Calls Try.prog 76 #[va, vb] w fun e w' => ∃ q r, e = .returned (.tuple #[q, r, .int .i64 0]) ∧ Num w' q (divF x y) ∧ Num w' r (modF x y) ∧ Steps w w' := by
  have bo : ∀ w', Steps w w' → Calls Try.prog 107 #[va, vb] w' fun e w2 => e = .returned (.int .i64 0) ∧ Steps w' w2 := fun w' h => rboth_ok w' (ha.steps h) (hb.steps h) fx fy
  have F := div_fits (x := x) hy
  have fq : fits (divF x y) := fits_le F.1 fx
  have fr' : fits (modF x y) := fits_le F.2.1 fy
  have hy0 : 0 < absN y := by unfold absN; omega
  have q0 : 0 ≤ absN x / absN y := Int.ediv_nonneg (absN_nonneg x) (by omega)
  have m0 := Int.emod_nonneg (absN x) (show absN y ≠ 0 by omega)
  have mkq : ∀ (d : Bool) (s : Value) (w' : World), Lim w' s (limbs (absN x / absN y)) → Calls Try.prog 99 #[.bool d, s] w' fun e w2 => ∃ v, e = .returned (.tuple #[v, .int .i64 0]) ∧ Num w2 v (zv d (absN x / absN y)) ∧ Steps w' w2 := fun d s w' h => by
    have fz : fits (zv d (absN x / absN y)) := fits_le (by rw [absN_zv d q0]; exact F.2.2.1) fx
    have := rmadeN d w' h (by have := limbs_le q0 F.2.2.1; unfold fits at fx; unfold few; omega)
    rw [lval_limbs q0, errN_fits fz, clipN_fits fz] at this
    exact this
  have mkr : ∀ (d : Bool) (s : Value) (w' : World), Lim w' s (limbs (absN x % absN y)) → Calls Try.prog 99 #[.bool d, s] w' fun e w2 => ∃ v, e = .returned (.tuple #[v, .int .i64 0]) ∧ Num w2 v (zv d (absN x % absN y)) ∧ Steps w' w2 := fun d s w' h => by
    have fz : fits (zv d (absN x % absN y)) := fits_le (by rw [absN_zv d m0]; exact F.2.2.2) fy
    have := rmadeN d w' h (by have := limbs_le m0 F.2.2.2; unfold fits at fy; unfold few; omega)
    rw [lval_limbs m0, errN_fits fz, clipN_fits fz] at this
    exact this
  have fzq : ∀ d, fits (zv d (absN x / absN y)) := fun d => fits_le (by rw [absN_zv d q0]; exact F.2.2.1) fx
  have fzr : ∀ d, fits (zv d (absN x % absN y)) := fun d => fits_le (by rw [absN_zv d m0]; exact F.2.2.2) fy
  have nb' : Num w vb y := hb
  obtain ⟨aa, ca, rfl, pa⟩ := ha.parts
  obtain ⟨ab, cb, rfl, pb⟩ := hb.parts
  have ov : ∀ w', Steps w w' → Calls Try.prog 101 #[.slice aa (limbs (absN x)).length ca, .slice ab (limbs (absN y)).length cb] w' fun e w2 => ∃ q r, e = .returned (.tuple #[q, r]) ∧ Lim w2 q (limbs (absN x / absN y)) ∧ Lim w2 r (limbs (absN x % absN y)) ∧ Steps w' w2 := fun w' h =>
    rover w' (pa.steps h) (pb.steps h) (absN_nonneg x) (by omega) (by unfold fits at fx; unfold few; omega) (by unfold fits at fy; unfold few; omega)
  have m1 : 0 < (limbs (absN y)).length := List.length_pos_iff.2 (fun e => by have := (limbs_nil (absN_nonneg y)).1 e; omega)
  obtain ⟨n, hn⟩ : ∃ n, (limbs (absN x)).length = n := ⟨_, rfl⟩
  obtain ⟨m, hm⟩ : ∃ m, (limbs (absN y)).length = m := ⟨_, rfl⟩
  rw [hn] at bo ov ⊢
  rw [hm] at bo ov nb' m1 ⊢
  obtain ⟨gx, hgx⟩ : ∃ b, decide (x < 0) = b := ⟨_, rfl⟩
  obtain ⟨gy, hgy⟩ : ∃ b, decide (y < 0) = b := ⟨_, rfl⟩
  rw [hgy] at nb'
  rw [hgx, hgy] at bo hss ⊢
  have HG := Hid.mk_ (And.intro hgx hgy)
  have HY := Hid.mk_ hy
  have HFQ := Hid.mk_ (And.intro fq fr')
  have HZ := Hid.mk_ (And.intro fzq fzr)
  have HYF := Hid.mk_ fy
  obtain ⟨ln, hln⟩ : ∃ l, (limbs (absN x % absN y)).length = l := ⟨_, rfl⟩
  have lz : (ln = 0 ↔ absN x % absN y = 0) := by
    rw [← hln, List.length_eq_zero_iff]; exact limbs_nil m0
  have HLN := Hid.mk_ (And.intro hln (And.intro lz m0))
  clear ha hb hn hm hgx hgy fx fy fq fr' F q0 m0 fzq fzr hy hln lz hy0
  have hs : gx = gy := by rw [hss]; trivial
  subst hs
  clear hss
  go_enter Try.func76, Try.ntmps76
  go_wp2_with fail
  refine (bo _ (show Below _ _ _ from (by (repeat' first | with_reducible assumption | with_reducible exact Below.refl _ _ | with_reducible refine Below.alloc ?_ ?_ _ | with_reducible refine Below.drew ?_ | with_reducible refine belowN ?_ _ | with_reducible refine Below.setCell ?_ ?_ _ | go_size)))).mono ?_
  rintro e w1 ⟨rfl, hb1⟩
  have st : Steps _ w1 := hb1
  have Bn : Below w.heap.size w w1 := below_steps (by (repeat' first | with_reducible assumption | with_reducible exact Below.refl _ _ | with_reducible refine Below.alloc ?_ ?_ _ | with_reducible refine Below.drew ?_ | with_reducible refine belowN ?_ _ | with_reducible refine Below.setCell ?_ ?_ _ | go_size)) (Nat.le_refl _) st
  have na : Blk w1 (w.heap.size) 51 #[.bool gx, .slice aa n ca] := Blk.steps (by (repeat' first | with_reducible assumption | (with_reducible refine Blk.new' ?_; first | with_reducible rfl | (simp only [World.size_alloc, World.size_setCell, World.size_drew]; done)) | with_reducible refine Blk.alloc ?_ _ | with_reducible refine Blk.drew ?_ | with_reducible refine Blk.drewN ?_ _ | with_reducible apply Blk.both | with_reducible refine Blk.far' ?_ ?_ | (show _ ≠ _; omega))) st
  have nb : Blk w1 (w.heap.size + 1) 51 #[.bool gx, .slice ab m cb] := Blk.steps (by (repeat' first | with_reducible assumption | (with_reducible refine Blk.new' ?_; first | with_reducible rfl | (simp only [World.size_alloc, World.size_setCell, World.size_drew]; done)) | with_reducible refine Blk.alloc ?_ _ | with_reducible refine Blk.drew ?_ | with_reducible refine Blk.drewN ?_ _ | with_reducible apply Blk.both | with_reducible refine Blk.far' ?_ ?_ | (show _ ≠ _; omega))) st
  have nr : Blk w1 (w.heap.size + 1 + 1) 51 #[.bool false, .slice none 0 0] := Blk.steps (by (repeat' first | with_reducible assumption | (with_reducible refine Blk.new' ?_; first | with_reducible rfl | (simp only [World.size_alloc, World.size_setCell, World.size_drew]; done)) | with_reducible refine Blk.alloc ?_ _ | with_reducible refine Blk.drew ?_ | with_reducible refine Blk.drewN ?_ _ | with_reducible apply Blk.both | with_reducible refine Blk.far' ?_ ?_ | (show _ ≠ _; omega))) st
  have nt : Blk w1 (w.heap.size + 1 + 1 + 1) 51 #[.bool false, .slice none 0 0] := Blk.steps (by (repeat' first | with_reducible assumption | (with_reducible refine Blk.new' ?_; first | with_reducible rfl | (simp only [World.size_alloc, World.size_setCell, World.size_drew]; done)) | with_reducible refine Blk.alloc ?_ _ | with_reducible refine Blk.drew ?_ | with_reducible refine Blk.drewN ?_ _ | with_reducible apply Blk.both | with_reducible refine Blk.far' ?_ ?_ | (show _ ≠ _; omega))) st
  clear st
  have B := Bn
  clear Bn
  have oa := na
  clear na
  have ca0 : World.cell? w1 ⟨w.heap.size, 0, none⟩ = some (.bool gx) := oa.c 0 rfl
  have ca1 : World.cell? w1 ⟨w.heap.size, 1, none⟩ = some (.slice aa n ca) := oa.c 1 rfl
  have fa := oa.fr
  have la := oa.lt
  have ob := nb
  clear nb
  have cb0 : World.cell? w1 ⟨w.heap.size + 1, 0, none⟩ = some (.bool gx) := ob.c 0 rfl
  have cb1 : World.cell? w1 ⟨w.heap.size + 1, 1, none⟩ = some (.slice ab m cb) := ob.c 1 rfl
  have fb := ob.fr
  have lb := ob.lt
  have or := nr
  clear nr
  have cr0 : World.cell? w1 ⟨w.heap.size + 1 + 1, 0, none⟩ = some (.bool false) := or.c 0 rfl
  have cr1 : World.cell? w1 ⟨w.heap.size + 1 + 1, 1, none⟩ = some (.slice none 0 0) := or.c 1 rfl
  have fr := or.fr
  have lr := or.lt
  have ot := nt
  clear nt
  have ct0 : World.cell? w1 ⟨w.heap.size + 1 + 1 + 1, 0, none⟩ = some (.bool false) := ot.c 0 rfl
  have ct1 : World.cell? w1 ⟨w.heap.size + 1 + 1 + 1, 1, none⟩ = some (.slice none 0 0) := ot.c 1 rfl
  have ft := ot.fr
  have lt := ot.lt
  clear bo
  go_wp2_with fail
  refine (ov _ B).mono ?_
  rintro e w2 ⟨sq, sr, rfl, hq, hr, hb2⟩
  have st : Steps _ w2 := hb2
  have Bn : Below w.heap.size w w2 := below_steps (by (repeat' first | with_reducible assumption | with_reducible exact Below.refl _ _ | with_reducible refine Below.alloc ?_ ?_ _ | with_reducible refine Below.drew ?_ | with_reducible refine belowN ?_ _ | with_reducible refine Below.setCell ?_ ?_ _ | go_size)) (Nat.le_refl _) st
  have na : Blk w2 (w.heap.size) 51 #[.bool gx, .slice aa n ca] := Blk.steps (by (repeat' first | with_reducible assumption | (with_reducible refine Blk.new' ?_; first | with_reducible rfl | (simp only [World.size_alloc, World.size_setCell, World.size_drew]; done)) | with_reducible refine Blk.alloc ?_ _ | with_reducible refine Blk.drew ?_ | with_reducible refine Blk.drewN ?_ _ | with_reducible apply Blk.both | with_reducible refine Blk.far' ?_ ?_ | (show _ ≠ _; omega))) st
  have nb : Blk w2 (w.heap.size + 1) 51 #[.bool gx, .slice ab m cb] := Blk.steps (by (repeat' first | with_reducible assumption | (with_reducible refine Blk.new' ?_; first | with_reducible rfl | (simp only [World.size_alloc, World.size_setCell, World.size_drew]; done)) | with_reducible refine Blk.alloc ?_ _ | with_reducible refine Blk.drew ?_ | with_reducible refine Blk.drewN ?_ _ | with_reducible apply Blk.both | with_reducible refine Blk.far' ?_ ?_ | (show _ ≠ _; omega))) st
  have nr : Blk w2 (w.heap.size + 1 + 1) 51 #[.bool false, .slice none 0 0] := Blk.steps (by (repeat' first | with_reducible assumption | (with_reducible refine Blk.new' ?_; first | with_reducible rfl | (simp only [World.size_alloc, World.size_setCell, World.size_drew]; done)) | with_reducible refine Blk.alloc ?_ _ | with_reducible refine Blk.drew ?_ | with_reducible refine Blk.drewN ?_ _ | with_reducible apply Blk.both | with_reducible refine Blk.far' ?_ ?_ | (show _ ≠ _; omega))) st
  have nt : Blk w2 (w.heap.size + 1 + 1 + 1) 51 #[.bool false, .slice none 0 0] := Blk.steps (by (repeat' first | with_reducible assumption | (with_reducible refine Blk.new' ?_; first | with_reducible rfl | (simp only [World.size_alloc, World.size_setCell, World.size_drew]; done)) | with_reducible refine Blk.alloc ?_ _ | with_reducible refine Blk.drew ?_ | with_reducible refine Blk.drewN ?_ _ | with_reducible apply Blk.both | with_reducible refine Blk.far' ?_ ?_ | (show _ ≠ _; omega))) st
  clear B oa ob or ot ca0 ca1 fa la cb0 cb1 fb lb cr0 cr1 fr lr ct0 ct1 ft lt
  clear st
  have B := Bn
  clear Bn
  have oa := na
  clear na
  have ca0 : World.cell? w2 ⟨w.heap.size, 0, none⟩ = some (.bool gx) := oa.c 0 rfl
  have ca1 : World.cell? w2 ⟨w.heap.size, 1, none⟩ = some (.slice aa n ca) := oa.c 1 rfl
  have fa := oa.fr
  have la := oa.lt
  have ob := nb
  clear nb
  have cb0 : World.cell? w2 ⟨w.heap.size + 1, 0, none⟩ = some (.bool gx) := ob.c 0 rfl
  have cb1 : World.cell? w2 ⟨w.heap.size + 1, 1, none⟩ = some (.slice ab m cb) := ob.c 1 rfl
  have fb := ob.fr
  have lb := ob.lt
  have or := nr
  clear nr
  have cr0 : World.cell? w2 ⟨w.heap.size + 1 + 1, 0, none⟩ = some (.bool false) := or.c 0 rfl
  have cr1 : World.cell? w2 ⟨w.heap.size + 1 + 1, 1, none⟩ = some (.slice none 0 0) := or.c 1 rfl
  have fr := or.fr
  have lr := or.lt
  have ot := nt
  clear nt
  have ct0 : World.cell? w2 ⟨w.heap.size + 1 + 1 + 1, 0, none⟩ = some (.bool false) := ot.c 0 rfl
  have ct1 : World.cell? w2 ⟨w.heap.size + 1 + 1 + 1, 1, none⟩ = some (.slice none 0 0) := ot.c 1 rfl
  have ft := ot.fr
  have lt := ot.lt
  clear ov
  obtain ⟨ar, cr', hsr⟩ := hr.shape
  rw [HLN.out.1] at hsr
  subst hsr
  have HQ := Hid.mk_ hq
  have HR := Hid.mk_ hr
  clear hq hr
  go_wp2_with fail
  refine (mkq false _ _ HQ.out).mono ?_
  rintro e w3 ⟨vq, rfl, hnq, hb3⟩
  have st : Steps _ w3 := hb3
  have Bn : Below w.heap.size w w3 := below_steps (by (repeat' first | with_reducible assumption | with_reducible exact Below.refl _ _ | with_reducible refine Below.alloc ?_ ?_ _ | with_reducible refine Below.drew ?_ | with_reducible refine belowN ?_ _ | with_reducible refine Below.setCell ?_ ?_ _ | go_size)) (Nat.le_refl _) st
  have na : Blk w3 (w.heap.size) 51 #[.bool gx, .slice aa n ca] := Blk.steps (by (repeat' first | with_reducible assumption | (with_reducible refine Blk.new' ?_; first | with_reducible rfl | (simp only [World.size_alloc, World.size_setCell, World.size_drew]; done)) | with_reducible refine Blk.alloc ?_ _ | with_reducible refine Blk.drew ?_ | with_reducible refine Blk.drewN ?_ _ | with_reducible apply Blk.both | with_reducible refine Blk.far' ?_ ?_ | (show _ ≠ _; omega))) st
  have nb : Blk w3 (w.heap.size + 1) 51 #[.bool gx, .slice ab m cb] := Blk.steps (by (repeat' first | with_reducible assumption | (with_reducible refine Blk.new' ?_; first | with_reducible rfl | (simp only [World.size_alloc, World.size_setCell, World.size_drew]; done)) | with_reducible refine Blk.alloc ?_ _ | with_reducible refine Blk.drew ?_ | with_reducible refine Blk.drewN ?_ _ | with_reducible apply Blk.both | with_reducible refine Blk.far' ?_ ?_ | (show _ ≠ _; omega))) st
  have nr : Blk w3 (w.heap.size + 1 + 1) 51 #[.bool false, .slice none 0 0] := Blk.steps (by (repeat' first | with_reducible assumption | (with_reducible refine Blk.new' ?_; first | with_reducible rfl | (simp only [World.size_alloc, World.size_setCell, World.size_drew]; done)) | with_reducible refine Blk.alloc ?_ _ | with_reducible refine Blk.drew ?_ | with_reducible refine Blk.drewN ?_ _ | with_reducible apply Blk.both | with_reducible refine Blk.far' ?_ ?_ | (show _ ≠ _; omega))) st
  have nt : Blk w3 (w.heap.size + 1 + 1 + 1) 51 #[.bool false, .slice none 0 0] := Blk.steps (by (repeat' first | with_reducible assumption | (with_reducible refine Blk.new' ?_; first | with_reducible rfl | (simp only [World.size_alloc, World.size_setCell, World.size_drew]; done)) | with_reducible refine Blk.alloc ?_ _ | with_reducible refine Blk.drew ?_ | with_reducible refine Blk.drewN ?_ _ | with_reducible apply Blk.both | with_reducible refine Blk.far' ?_ ?_ | (show _ ≠ _; omega))) st
  clear B oa ob or ot ca0 ca1 fa la cb0 cb1 fb lb cr0 cr1 fr lr ct0 ct1 ft lt
  clear st
  have B := Bn
  clear Bn
  have oa := na
  clear na
  have ca0 : World.cell? w3 ⟨w.heap.size, 0, none⟩ = some (.bool gx) := oa.c 0 rfl
  have ca1 : World.cell? w3 ⟨w.heap.size, 1, none⟩ = some (.slice aa n ca) := oa.c 1 rfl
  have fa := oa.fr
  have la := oa.lt
  have ob := nb
  clear nb
  have cb0 : World.cell? w3 ⟨w.heap.size + 1, 0, none⟩ = some (.bool gx) := ob.c 0 rfl
  have cb1 : World.cell? w3 ⟨w.heap.size + 1, 1, none⟩ = some (.slice ab m cb) := ob.c 1 rfl
  have fb := ob.fr
  have lb := ob.lt
  have or := nr
  clear nr
  have cr0 : World.cell? w3 ⟨w.heap.size + 1 + 1, 0, none⟩ = some (.bool false) := or.c 0 rfl
  have cr1 : World.cell? w3 ⟨w.heap.size + 1 + 1, 1, none⟩ = some (.slice none 0 0) := or.c 1 rfl
  have fr := or.fr
  have lr := or.lt
  have ot := nt
  clear nt
  have ct0 : World.cell? w3 ⟨w.heap.size + 1 + 1 + 1, 0, none⟩ = some (.bool false) := ot.c 0 rfl
  have ct1 : World.cell? w3 ⟨w.heap.size + 1 + 1 + 1, 1, none⟩ = some (.slice none 0 0) := ot.c 1 rfl
  have ft := ot.fr
  have lt := ot.lt
  clear mkq
  have HT3 := Hid.mk_ ot.lt
  have HR3 := Hid.mk_ (HR.out.steps hb3)
  obtain ⟨bq, aq, nq', cq, rfl⟩ := hnq.shape
  have NQ := Hid.mk_ hnq
  clear hnq HQ HR
  go_wp2_with fail
  refine (mkr gx _ _ (HR3.out.steps (show Below _ _ _ from (by (repeat' first | with_reducible assumption | with_reducible exact Below.refl _ _ | with_reducible refine Below.alloc ?_ ?_ _ | with_reducible refine Below.drew ?_ | with_reducible refine belowN ?_ _ | with_reducible refine Below.setCell ?_ ?_ _ | go_size))))).mono ?_
  rintro e w4 ⟨vr, rfl, hnr, hb4⟩
  have st : Steps _ w4 := hb4
  have Bn : Below w.heap.size w w4 := below_steps (by (repeat' first | with_reducible assumption | with_reducible exact Below.refl _ _ | with_reducible refine Below.alloc ?_ ?_ _ | with_reducible refine Below.drew ?_ | with_reducible refine belowN ?_ _ | with_reducible refine Below.setCell ?_ ?_ _ | go_size)) (Nat.le_refl _) st
  have na : Blk w4 (w.heap.size) 51 #[.bool gx, .slice aa n ca] := Blk.steps (by (repeat' first | with_reducible assumption | (with_reducible refine Blk.new' ?_; first | with_reducible rfl | (simp only [World.size_alloc, World.size_setCell, World.size_drew]; done)) | with_reducible refine Blk.alloc ?_ _ | with_reducible refine Blk.drew ?_ | with_reducible refine Blk.drewN ?_ _ | with_reducible apply Blk.both | with_reducible refine Blk.far' ?_ ?_ | (show _ ≠ _; omega))) st
  have nb : Blk w4 (w.heap.size + 1) 51 #[.bool gx, .slice ab m cb] := Blk.steps (by (repeat' first | with_reducible assumption | (with_reducible refine Blk.new' ?_; first | with_reducible rfl | (simp only [World.size_alloc, World.size_setCell, World.size_drew]; done)) | with_reducible refine Blk.alloc ?_ _ | with_reducible refine Blk.drew ?_ | with_reducible refine Blk.drewN ?_ _ | with_reducible apply Blk.both | with_reducible refine Blk.far' ?_ ?_ | (show _ ≠ _; omega))) st
  have nr : Blk w4 (w.heap.size + 1 + 1) 51 #[.bool false, .slice none 0 0] := Blk.steps (by (repeat' first | with_reducible assumption | (with_reducible refine Blk.new' ?_; first | with_reducible rfl | (simp only [World.size_alloc, World.size_setCell, World.size_drew]; done)) | with_reducible refine Blk.alloc ?_ _ | with_reducible refine Blk.drew ?_ | with_reducible refine Blk.drewN ?_ _ | with_reducible apply Blk.both | with_reducible refine Blk.far' ?_ ?_ | (show _ ≠ _; omega))) st
  have nt : Blk w4 (w.heap.size + 1 + 1 + 1) 51 #[.bool false, .slice none 0 0] := Blk.steps (by (repeat' first | with_reducible assumption | (with_reducible refine Blk.new' ?_; first | with_reducible rfl | (simp only [World.size_alloc, World.size_setCell, World.size_drew]; done)) | with_reducible refine Blk.alloc ?_ _ | with_reducible refine Blk.drew ?_ | with_reducible refine Blk.drewN ?_ _ | with_reducible apply Blk.both | with_reducible refine Blk.far' ?_ ?_ | (show _ ≠ _; omega))) st
  have nq : Blk w4 (w3.heap.size) 51 #[.bool bq, .slice aq nq' cq] := Blk.steps (by (repeat' first | with_reducible assumption | (with_reducible refine Blk.new' ?_; first | with_reducible rfl | (simp only [World.size_alloc, World.size_setCell, World.size_drew]; done)) | with_reducible refine Blk.alloc ?_ _ | with_reducible refine Blk.drew ?_ | with_reducible refine Blk.drewN ?_ _ | with_reducible apply Blk.both | with_reducible refine Blk.far' ?_ ?_ | (show _ ≠ _; omega))) st
  clear B oa ob or ot ca0 ca1 fa la cb0 cb1 fb lb cr0 cr1 fr lr ct0 ct1 ft lt
  clear st
  have B := Bn
  clear Bn
  have oa := na
  clear na
  have ca0 : World.cell? w4 ⟨w.heap.size, 0, none⟩ = some (.bool gx) := oa.c 0 rfl
  have ca1 : World.cell? w4 ⟨w.heap.size, 1, none⟩ = some (.slice aa n ca) := oa.c 1 rfl
  have fa := oa.fr
  have la := oa.lt
  have ob := nb
  clear nb
  have cb0 : World.cell? w4 ⟨w.heap.size + 1, 0, none⟩ = some (.bool gx) := ob.c 0 rfl
  have cb1 : World.cell? w4 ⟨w.heap.size + 1, 1, none⟩ = some (.slice ab m cb) := ob.c 1 rfl
  have fb := ob.fr
  have lb := ob.lt
  have or := nr
  clear nr
  have cr0 : World.cell? w4 ⟨w.heap.size + 1 + 1, 0, none⟩ = some (.bool false) := or.c 0 rfl
  have cr1 : World.cell? w4 ⟨w.heap.size + 1 + 1, 1, none⟩ = some (.slice none 0 0) := or.c 1 rfl
  have fr := or.fr
  have lr := or.lt
  have ot := nt
  clear nt
  have ct0 : World.cell? w4 ⟨w.heap.size + 1 + 1 + 1, 0, none⟩ = some (.bool false) := ot.c 0 rfl
  have ct1 : World.cell? w4 ⟨w.heap.size + 1 + 1 + 1, 1, none⟩ = some (.slice none 0 0) := ot.c 1 rfl
  have ft := ot.fr
  have lt := ot.lt
  have oq := nq
  clear nq
  have cq0 : World.cell? w4 ⟨w3.heap.size, 0, none⟩ = some (.bool bq) := oq.c 0 rfl
  have cq1 : World.cell? w4 ⟨w3.heap.size, 1, none⟩ = some (.slice aq nq' cq) := oq.c 1 rfl
  have fq := oq.fr
  have lq := oq.lt
  clear mkr
  obtain ⟨br, ar', nr', cr'', rfl⟩ := hnr.shape
  have NR := Hid.mk_ hnr
  have NQ4 := Hid.mk_ ((NQ.out.steps (show Below _ _ _ from (by (repeat' first | with_reducible assumption | with_reducible exact Below.refl _ _ | with_reducible refine Below.alloc ?_ ?_ _ | with_reducible refine Below.drew ?_ | with_reducible refine belowN ?_ _ | with_reducible refine Below.setCell ?_ ?_ _ | go_size)))).steps hb4)
  clear hnr NQ HR3
  have HQS := Hid.mk_ (And.intro (show w.heap.size + 1 + 1 + 1 < w3.heap.size from HT3.out) oq.lt)
  have S := Hid.mk_ (div_same HG.out.1 HG.out.2 HY.out)
  go_wp2_with fail
  all_goals go_region
  all_goals go_wp2
  all_goals refine bodyPost_ret (by simp [results, Try.results76, go_sem, ca0, ca1, fa, la, cb0, cb1, fb, lb, cr0, cr1, fr, lr, ct0, ct1, ft, lt, cq0, cq1, fq, lq]; rfl) rfl ?_
  all_goals refine ⟨_, _, rfl, ?_, ?_, (show Below _ _ _ from (by (repeat' first | with_reducible assumption | with_reducible exact Below.refl _ _ | with_reducible refine Below.alloc ?_ ?_ _ | with_reducible refine Below.drew ?_ | with_reducible refine belowN ?_ _ | with_reducible refine Below.setCell ?_ ?_ _ | go_size)))⟩
  all_goals (try (rw [(S.out.1)]; exact Num.drew_ (Num.alloc_ ((NQ4.out.put2 or).put2 ((ot.far' (by omega)).far' (by omega))) _)))
  all_goals (try (rw [(S.out.2)]; exact Num.drew_ (Num.alloc_ ((NR.out.put2 or).put2 ((ot.far' (by omega)).far' (by omega))) _)))
end Go.Proofs.Ytalnlnpnacfdfaa
