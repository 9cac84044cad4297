import Derived.Test.YtalnlnpnacfdfaaCNa
namespace Go.Proofs.Ytalnlnpnacfdfaa
open Go.RowKit
set_option maxHeartbeats 1600000 in
set_option maxRecDepth 1000000 in
theorem rbothN (na nb : Bool) {sa sb : Value} {la lb : List Int} (w : World) (ha : Lim w sa la) (hb : Lim w sb lb) :
    Calls Try.prog 107 #[.agg #[.bool na, sa], .agg #[.bool nb, sb]] w fun e w' => e = .returned (.int .i64 (errC (valid na la ∧ valid nb lb))) ∧ Steps w w' := by
  obtain ⟨aa, ca, rfl⟩ := ha.shape
  obtain ⟨ab, cb, rfl⟩ := hb.shape
  obtain ⟨n, hn⟩ : ∃ n, la.length = n := ⟨_, rfl⟩
  obtain ⟨m, hm⟩ : ∃ m, lb.length = m := ⟨_, rfl⟩
  rw [hn] at ha ⊢
  rw [hm] at hb ⊢
  clear hn hm
  by_cases h1 : valid na la
  · have H1 : Hid (errC (valid na la) = 0) := if_pos h1
    have H : Hid (errC (valid na la ∧ valid nb lb) = errC (valid nb lb)) := by show errC (valid na la ∧ valid nb lb) = _; unfold errC; simp [h1]
    clear h1
    go_enter Try.func107, Try.ntmps107
    go_wp2_with fail
    refine (rcheckN na _ (ha.steps (show Below _ _ _ from (by (repeat' first | with_reducible assumption | with_reducible exact Below.refl _ _ | with_reducible refine Below.alloc ?_ ?_ _ | with_reducible refine Below.drew ?_ | with_reducible refine belowN ?_ _ | with_reducible refine Below.setCell ?_ ?_ _ | go_size))))).mono ?_
    rintro e w1 ⟨rfl, hb1⟩
    have st : Steps _ w1 := hb1
    have Bn : Below w.heap.size w w1 := below_steps (by (repeat' first | with_reducible assumption | with_reducible exact Below.refl _ _ | with_reducible refine Below.alloc ?_ ?_ _ | with_reducible refine Below.drew ?_ | with_reducible refine belowN ?_ _ | with_reducible refine Below.setCell ?_ ?_ _ | go_size)) (Nat.le_refl _) st
    have na : Blk w1 (w.heap.size) 51 #[.bool na, .slice aa n ca] := Blk.steps (by (repeat' first | with_reducible assumption | (with_reducible refine Blk.new' ?_; first | with_reducible rfl | (simp only [World.size_alloc, World.size_setCell, World.size_drew]; done)) | with_reducible refine Blk.alloc ?_ _ | with_reducible refine Blk.drew ?_ | with_reducible refine Blk.drewN ?_ _ | with_reducible apply Blk.both | with_reducible refine Blk.far' ?_ ?_ | (show _ ≠ _; omega))) st
    have nb : Blk w1 (w.heap.size + 1) 51 #[.bool nb, .slice ab m cb] := Blk.steps (by (repeat' first | with_reducible assumption | (with_reducible refine Blk.new' ?_; first | with_reducible rfl | (simp only [World.size_alloc, World.size_setCell, World.size_drew]; done)) | with_reducible refine Blk.alloc ?_ _ | with_reducible refine Blk.drew ?_ | with_reducible refine Blk.drewN ?_ _ | with_reducible apply Blk.both | with_reducible refine Blk.far' ?_ ?_ | (show _ ≠ _; omega))) st
    clear st
    have B := Bn
    clear Bn
    have oa := na
    clear na
    have ca0 : World.cell? w1 ⟨w.heap.size, 0, none⟩ = some (.bool na) := oa.c 0 rfl
    have ca1 : World.cell? w1 ⟨w.heap.size, 1, none⟩ = some (.slice aa n ca) := oa.c 1 rfl
    have fa := oa.fr
    have la := oa.lt
    have ob := nb
    clear nb
    have cb0 : World.cell? w1 ⟨w.heap.size + 1, 0, none⟩ = some (.bool nb) := ob.c 0 rfl
    have cb1 : World.cell? w1 ⟨w.heap.size + 1, 1, none⟩ = some (.slice ab m cb) := ob.c 1 rfl
    have fb := ob.fr
    have lb := ob.lt
    rw [H1.out]
    have HB1 := hb.steps B
    go_wp2_with fail
    refine (rcheckN nb _ HB1).mono ?_
    rintro e w2 ⟨rfl, hb2⟩
    have st : Steps _ w2 := hb2
    have Bn : Below w.heap.size w w2 := below_steps (by (repeat' first | with_reducible assumption | with_reducible exact Below.refl _ _ | with_reducible refine Below.alloc ?_ ?_ _ | with_reducible refine Below.drew ?_ | with_reducible refine belowN ?_ _ | with_reducible refine Below.setCell ?_ ?_ _ | go_size)) (Nat.le_refl _) st
    have na : Blk w2 (w.heap.size) 51 #[.bool na, .slice aa n ca] := Blk.steps (by (repeat' first | with_reducible assumption | (with_reducible refine Blk.new' ?_; first | with_reducible rfl | (simp only [World.size_alloc, World.size_setCell, World.size_drew]; done)) | with_reducible refine Blk.alloc ?_ _ | with_reducible refine Blk.drew ?_ | with_reducible refine Blk.drewN ?_ _ | with_reducible apply Blk.both | with_reducible refine Blk.far' ?_ ?_ | (show _ ≠ _; omega))) st
    have nb : Blk w2 (w.heap.size + 1) 51 #[.bool nb, .slice ab m cb] := Blk.steps (by (repeat' first | with_reducible assumption | (with_reducible refine Blk.new' ?_; first | with_reducible rfl | (simp only [World.size_alloc, World.size_setCell, World.size_drew]; done)) | with_reducible refine Blk.alloc ?_ _ | with_reducible refine Blk.drew ?_ | with_reducible refine Blk.drewN ?_ _ | with_reducible apply Blk.both | with_reducible refine Blk.far' ?_ ?_ | (show _ ≠ _; omega))) st
    clear B oa ob ca0 ca1 fa la cb0 cb1 fb lb
    clear st
    have B := Bn
    clear Bn
    have oa := na
    clear na
    have ca0 : World.cell? w2 ⟨w.heap.size, 0, none⟩ = some (.bool na) := oa.c 0 rfl
    have ca1 : World.cell? w2 ⟨w.heap.size, 1, none⟩ = some (.slice aa n ca) := oa.c 1 rfl
    have fa := oa.fr
    have la := oa.lt
    have ob := nb
    clear nb
    have cb0 : World.cell? w2 ⟨w.heap.size + 1, 0, none⟩ = some (.bool nb) := ob.c 0 rfl
    have cb1 : World.cell? w2 ⟨w.heap.size + 1, 1, none⟩ = some (.slice ab m cb) := ob.c 1 rfl
    have fb := ob.fr
    have lb := ob.lt
    go_wp2
    go_returns
    exact ⟨retI H.out.symm, (show Below _ _ _ from (by (repeat' first | with_reducible assumption | with_reducible exact Below.refl _ _ | with_reducible refine Below.alloc ?_ ?_ _ | with_reducible refine Below.drew ?_ | with_reducible refine belowN ?_ _ | with_reducible refine Below.setCell ?_ ?_ _ | go_size)))⟩
  · have H1 : Hid (errC (valid na la) = 8) := if_neg h1
    have H : Hid (errC (valid na la ∧ valid nb lb) = 8) := if_neg (fun h => h1 h.1)
    clear h1
    go_enter Try.func107, Try.ntmps107
    go_wp2_with fail
    refine (rcheckN na _ (ha.steps (show Below _ _ _ from (by (repeat' first | with_reducible assumption | with_reducible exact Below.refl _ _ | with_reducible refine Below.alloc ?_ ?_ _ | with_reducible refine Below.drew ?_ | with_reducible refine belowN ?_ _ | with_reducible refine Below.setCell ?_ ?_ _ | go_size))))).mono ?_
    rintro e w1 ⟨rfl, hb1⟩
    have st : Steps _ w1 := hb1
    have Bn : Below w.heap.size w w1 := below_steps (by (repeat' first | with_reducible assumption | with_reducible exact Below.refl _ _ | with_reducible refine Below.alloc ?_ ?_ _ | with_reducible refine Below.drew ?_ | with_reducible refine belowN ?_ _ | with_reducible refine Below.setCell ?_ ?_ _ | go_size)) (Nat.le_refl _) st
    have na : Blk w1 (w.heap.size) 51 #[.bool na, .slice aa n ca] := Blk.steps (by (repeat' first | with_reducible assumption | (with_reducible refine Blk.new' ?_; first | with_reducible rfl | (simp only [World.size_alloc, World.size_setCell, World.size_drew]; done)) | with_reducible refine Blk.alloc ?_ _ | with_reducible refine Blk.drew ?_ | with_reducible refine Blk.drewN ?_ _ | with_reducible apply Blk.both | with_reducible refine Blk.far' ?_ ?_ | (show _ ≠ _; omega))) st
    have nb : Blk w1 (w.heap.size + 1) 51 #[.bool nb, .slice ab m cb] := Blk.steps (by (repeat' first | with_reducible assumption | (with_reducible refine Blk.new' ?_; first | with_reducible rfl | (simp only [World.size_alloc, World.size_setCell, World.size_drew]; done)) | with_reducible refine Blk.alloc ?_ _ | with_reducible refine Blk.drew ?_ | with_reducible refine Blk.drewN ?_ _ | with_reducible apply Blk.both | with_reducible refine Blk.far' ?_ ?_ | (show _ ≠ _; omega))) st
    clear st
    have B := Bn
    clear Bn
    have oa := na
    clear na
    have ca0 : World.cell? w1 ⟨w.heap.size, 0, none⟩ = some (.bool na) := oa.c 0 rfl
    have ca1 : World.cell? w1 ⟨w.heap.size, 1, none⟩ = some (.slice aa n ca) := oa.c 1 rfl
    have fa := oa.fr
    have la := oa.lt
    have ob := nb
    clear nb
    have cb0 : World.cell? w1 ⟨w.heap.size + 1, 0, none⟩ = some (.bool nb) := ob.c 0 rfl
    have cb1 : World.cell? w1 ⟨w.heap.size + 1, 1, none⟩ = some (.slice ab m cb) := ob.c 1 rfl
    have fb := ob.fr
    have lb := ob.lt
    rw [H1.out]
    have HA1 := ha.steps B
    go_wp2_with fail
    refine (rcheckN na _ HA1).mono ?_
    rintro e w2 ⟨rfl, hb2⟩
    have st : Steps _ w2 := hb2
    have Bn : Below w.heap.size w w2 := below_steps (by (repeat' first | with_reducible assumption | with_reducible exact Below.refl _ _ | with_reducible refine Below.alloc ?_ ?_ _ | with_reducible refine Below.drew ?_ | with_reducible refine belowN ?_ _ | with_reducible refine Below.setCell ?_ ?_ _ | go_size)) (Nat.le_refl _) st
    have na : Blk w2 (w.heap.size) 51 #[.bool na, .slice aa n ca] := Blk.steps (by (repeat' first | with_reducible assumption | (with_reducible refine Blk.new' ?_; first | with_reducible rfl | (simp only [World.size_alloc, World.size_setCell, World.size_drew]; done)) | with_reducible refine Blk.alloc ?_ _ | with_reducible refine Blk.drew ?_ | with_reducible refine Blk.drewN ?_ _ | with_reducible apply Blk.both | with_reducible refine Blk.far' ?_ ?_ | (show _ ≠ _; omega))) st
    have nb : Blk w2 (w.heap.size + 1) 51 #[.bool nb, .slice ab m cb] := Blk.steps (by (repeat' first | with_reducible assumption | (with_reducible refine Blk.new' ?_; first | with_reducible rfl | (simp only [World.size_alloc, World.size_setCell, World.size_drew]; done)) | with_reducible refine Blk.alloc ?_ _ | with_reducible refine Blk.drew ?_ | with_reducible refine Blk.drewN ?_ _ | with_reducible apply Blk.both | with_reducible refine Blk.far' ?_ ?_ | (show _ ≠ _; omega))) st
    clear B oa ob ca0 ca1 fa la cb0 cb1 fb lb
    clear st
    have B := Bn
    clear Bn
    have oa := na
    clear na
    have ca0 : World.cell? w2 ⟨w.heap.size, 0, none⟩ = some (.bool na) := oa.c 0 rfl
    have ca1 : World.cell? w2 ⟨w.heap.size, 1, none⟩ = some (.slice aa n ca) := oa.c 1 rfl
    have fa := oa.fr
    have la := oa.lt
    have ob := nb
    clear nb
    have cb0 : World.cell? w2 ⟨w.heap.size + 1, 0, none⟩ = some (.bool nb) := ob.c 0 rfl
    have cb1 : World.cell? w2 ⟨w.heap.size + 1, 1, none⟩ = some (.slice ab m cb) := ob.c 1 rfl
    have fb := ob.fr
    have lb := ob.lt
    rw [H1.out]
    go_wp2
    go_returns
    exact ⟨retI H.out.symm, (show Below _ _ _ from (by (repeat' first | with_reducible assumption | with_reducible exact Below.refl _ _ | with_reducible refine Below.alloc ?_ ?_ _ | with_reducible refine Below.drew ?_ | with_reducible refine belowN ?_ _ | with_reducible refine Below.setCell ?_ ?_ _ | go_size)))⟩
/-- numbers as the program has them: a sign, limbs -/
theorem Num.parts {w : World} {v : Value} {z : Int} (h : Num w v z) : ∃ ao c, v = .agg #[.bool (decide (z < 0)), .slice ao (limbs (absN z)).length c] ∧ Lim w (.slice ao (limbs (absN z)).length c) (limbs (absN z)) := by
  obtain ⟨s, rfl, hl⟩ := h
  obtain ⟨ao, c, rfl⟩ := hl.shape
  exact ⟨ao, c, rfl, hl⟩
theorem absN_nonneg (z : Int) : 0 ≤ absN z := by unfold absN; omega
theorem cmpN_neg (x y : Int) (hx : x < 0) (hy : y < 0) : cmpI (absN y) (absN x) = cmpI x y := by unfold cmpI absN; split <;> split <;> (try split) <;> (try split) <;> omega
theorem cmpN_pos (x y : Int) (hx : 0 ≤ x) (hy : 0 ≤ y) : cmpI (absN x) (absN y) = cmpI x y := by unfold cmpI absN; split <;> split <;> (try split) <;> (try split) <;> omega
set_option maxHeartbeats 1600000 in
set_option maxRecDepth 1000000 in
theorem rcompared {va vb : Value} {x y : Int} (w : World) (ha : Num w va x) (hb : Num w vb y) (fx : fits x) (fy : fits y) :
    Calls Try.prog 106 #[va, vb] w fun e w' => e = .returned (.int .i64 (cmpI x y)) ∧ Steps w w' := by
  obtain ⟨aa, ca, rfl, pa⟩ := ha.parts
  obtain ⟨ab, cb, rfl, pb⟩ := hb.parts
  unfold fits at fx fy
  have nx : (limbs (absN x)).length ≤ few := by unfold few; omega
  have ny : (limbs (absN y)).length ≤ few := by unfold few; omega
  obtain ⟨n, hn⟩ : ∃ n, (limbs (absN x)).length = n := ⟨_, rfl⟩
  obtain ⟨m, hm⟩ : ∃ m, (limbs (absN y)).length = m := ⟨_, rfl⟩
  rw [hn] at pa ⊢
  rw [hm] at pb ⊢
  clear ha hb
  rcases Int.lt_or_le x 0 with h1 | h1
  · have e1 : decide (x < 0) = true := by simp [h1]
    rcases Int.lt_or_le y 0 with h2 | h2
    · have e2 : decide (y < 0) = true := by simp [h2]
      have E := Hid.mk_ (cmpN_neg x y h1 h2)
      rw [e1, e2]
      clear hn hm e1 e2 h1 h2
      go_enter Try.func106, Try.ntmps106
      go_wp2_with fail
      refine (rcompare _ (pb.steps (show Below _ _ _ from (by (repeat' first | with_reducible assumption | with_reducible exact Below.refl _ _ | with_reducible refine Below.alloc ?_ ?_ _ | with_reducible refine Below.drew ?_ | with_reducible refine belowN ?_ _ | with_reducible refine Below.setCell ?_ ?_ _ | go_size)))) (pa.steps (show Below _ _ _ from (by (repeat' first | with_reducible assumption | with_reducible exact Below.refl _ _ | with_reducible refine Below.alloc ?_ ?_ _ | with_reducible refine Below.drew ?_ | with_reducible refine belowN ?_ _ | with_reducible refine Below.setCell ?_ ?_ _ | go_size)))) (absN_nonneg _) (absN_nonneg _) ny nx).mono ?_
      rintro e w1 ⟨rfl, hs1⟩
      go_wp2
      go_returns
      exact ⟨retI E.out, (show Below _ _ _ from (show Below _ _ _ from (by (repeat' first | with_reducible assumption | with_reducible exact Below.refl _ _ | with_reducible refine Below.alloc ?_ ?_ _ | with_reducible refine Below.drew ?_ | with_reducible refine belowN ?_ _ | with_reducible refine Below.setCell ?_ ?_ _ | go_size)))).trans (hs1.mono (by simp only [World.size_alloc]; omega))⟩
    · have e2 : decide (y < 0) = false := by simp; omega
      have E : Hid (cmpI x y = -1) := by show cmpI x y = -1; unfold cmpI; rw [if_neg (by omega), if_pos (by omega)]
      rw [e1, e2]
      clear hn hm e1 e2 h1 h2
      go_enter Try.func106, Try.ntmps106
      go_wp2
      go_returns
      exact ⟨retI E.out.symm, (show Below _ _ _ from (by (repeat' first | with_reducible assumption | with_reducible exact Below.refl _ _ | with_reducible refine Below.alloc ?_ ?_ _ | with_reducible refine Below.drew ?_ | with_reducible refine belowN ?_ _ | with_reducible refine Below.setCell ?_ ?_ _ | go_size)))⟩
  · have e1 : decide (x < 0) = false := by simp; omega
    rcases Int.lt_or_le y 0 with h2 | h2
    · have e2 : decide (y < 0) = true := by simp [h2]
      have E : Hid (cmpI x y = 1) := by show cmpI x y = 1; unfold cmpI; rw [if_neg (by omega), if_neg (by omega)]
      rw [e1, e2]
      clear hn hm e1 e2 h1 h2
      go_enter Try.func106, Try.ntmps106
      go_wp2
      go_returns
      exact ⟨retI E.out.symm, (show Below _ _ _ from (by (repeat' first | with_reducible assumption | with_reducible exact Below.refl _ _ | with_reducible refine Below.alloc ?_ ?_ _ | with_reducible refine Below.drew ?_ | with_reducible refine belowN ?_ _ | with_reducible refine Below.setCell ?_ ?_ _ | go_size)))⟩
    · have e2 : decide (y < 0) = false := by simp; omega
      have E := Hid.mk_ (cmpN_pos x y h1 h2)
      rw [e1, e2]
      clear hn hm e1 e2 h1 h2
      go_enter Try.func106, Try.ntmps106
      go_wp2_with fail
      refine (rcompare _ (pa.steps (show Below _ _ _ from (by (repeat' first | with_reducible assumption | with_reducible exact Below.refl _ _ | with_reducible refine Below.alloc ?_ ?_ _ | with_reducible refine Below.drew ?_ | with_reducible refine belowN ?_ _ | with_reducible refine Below.setCell ?_ ?_ _ | go_size)))) (pb.steps (show Below _ _ _ from (by (repeat' first | with_reducible assumption | with_reducible exact Below.refl _ _ | with_reducible refine Below.alloc ?_ ?_ _ | with_reducible refine Below.drew ?_ | with_reducible refine belowN ?_ _ | with_reducible refine Below.setCell ?_ ?_ _ | go_size)))) (absN_nonneg _) (absN_nonneg _) nx ny).mono ?_
      rintro e w1 ⟨rfl, hs1⟩
      go_wp2
      go_returns
      exact ⟨retI E.out, (show Below _ _ _ from (show Below _ _ _ from (by (repeat' first | with_reducible assumption | with_reducible exact Below.refl _ _ | with_reducible refine Below.alloc ?_ ?_ _ | with_reducible refine Below.drew ?_ | with_reducible refine belowN ?_ _ | with_reducible refine Below.setCell ?_ ?_ _ | go_size)))).trans (hs1.mono (by simp only [World.size_alloc]; omega))⟩
theorem bp_two : bp 2 = 18446744073709551616 := by rw [bp_succ, bp_succ, bp_zero]; decide
theorem fits_small {z : Int} (h : absN z < 18446744073709551616) : fits z := by
  unfold fits
  have := (limbs_length (absN_nonneg z) 2).2 (by rw [bp_two]; exact h)
  omega
theorem errN_fits {z : Int} (h : fits z) : errN z = 0 := if_pos h
theorem clipN_fits {z : Int} (h : fits z) : clipN z = z := if_pos h
theorem Num.shape {w : World} {v : Value} {z : Int} (h : Num w v z) : ∃ b ao n c, v = .agg #[.bool b, .slice ao n c] := by
  obtain ⟨ao, c, e, _⟩ := h.parts
  exact ⟨_, ao, _, c, e⟩
set_option maxHeartbeats 1600000 in
set_option maxRecDepth 1000000 in
theorem rfrom (z : Int) (w : World) (z0 : -9223372036854775808 ≤ z) (z1 : z ≤ 9223372036854775807) :
    Calls Try.prog 98 #[.int .i64 z] w fun e w' => ∃ v, e = .returned v ∧ Num w' v z ∧ Steps w w' := by
  have hz : fits z := fits_small (by unfold absN; omega)
  rcases Int.lt_or_le z 0 with h1 | h1
  · have hd : decide (z < 0) = true := by simp [h1]
    have HZ : Hid (zv true (lval [(-z) % 4294967296, (-z) / 4294967296]) = z) := by show zv _ _ = z; simp only [zv, lval, if_true, Bool.false_eq_true, if_false]; omega
    have HE := Hid.mk_ (And.intro (errN_fits hz) (clipN_fits hz))
    clear hz
    obtain ⟨m, hm⟩ : ∃ m, -z = m := ⟨_, rfl⟩
    have hw : IntKind.u64.wrap (-IntKind.u64.wrap z) = m := by simp only [IntKind.wrap_u64]; omega
    rw [hm] at HZ
    have m0 : 0 ≤ m ∧ m ≤ 9223372036854775808 := by omega
    clear hm
    have cm : Calls Try.prog 99 #[.bool true, .slice (some ⟨w.heap.size + 1, 0, none⟩) 2 2] ((w.alloc (.cells #[.bool false, .slice none 0 0] 51)).alloc (.cells #[.int .u32 (m % 4294967296), .int .u32 (m / 4294967296)] 117)) (fun e w' => ∃ v, e = .returned (.tuple #[v, .int .i64 0]) ∧ Num w' v z ∧ Steps ((w.alloc (.cells #[.bool false, .slice none 0 0] 51)).alloc (.cells #[.int .u32 (m % 4294967296), .int .u32 (m / 4294967296)] 117)) w') := by
      have L : Lim ((w.alloc (.cells #[.bool false, .slice none 0 0] 51)).alloc (.cells #[.int .u32 (m % 4294967296), .int .u32 (m / 4294967296)] 117)) (.slice (some ⟨w.heap.size + 1, 0, none⟩) 2 2) [m % 4294967296, m / 4294967296] := Lim.of_blk' (l := [m % 4294967296, m / 4294967296]) (Blk.new1 w _ _ _) (by simp only [lok_cons]; refine ⟨⟨by omega, by omega⟩, ⟨by omega, by omega⟩, lok_nil⟩)
      have C := rmadeN true _ L (by unfold few; simp)
      rw [HZ.out, HE.out.1, HE.out.2] at C
      exact C
    go_enter Try.func98, Try.ntmps98
    go_wp2_with fail
    refine (cm).mono ?_
    rintro e w1 ⟨v1, rfl, hv1, hb1⟩
    have st : Steps _ w1 := hb1
    have Bn : Below w.heap.size w w1 := below_steps (by (repeat' first | with_reducible assumption | with_reducible exact Below.refl _ _ | with_reducible refine Below.alloc ?_ ?_ _ | with_reducible refine Below.drew ?_ | with_reducible refine belowN ?_ _ | with_reducible refine Below.setCell ?_ ?_ _ | go_size)) (Nat.le_refl _) st
    have nr : Blk w1 (w.heap.size) 51 #[.bool false, .slice none 0 0] := Blk.steps (by (repeat' first | with_reducible assumption | (with_reducible refine Blk.new' ?_; first | with_reducible rfl | (simp only [World.size_alloc, World.size_setCell, World.size_drew]; done)) | with_reducible refine Blk.alloc ?_ _ | with_reducible refine Blk.drew ?_ | with_reducible refine Blk.drewN ?_ _ | with_reducible apply Blk.both | with_reducible refine Blk.far' ?_ ?_ | (show _ ≠ _; omega))) st
    clear st
    have B := Bn
    clear Bn
    have or := nr
    clear nr
    have cr0 : World.cell? w1 ⟨w.heap.size, 0, none⟩ = some (.bool false) := or.c 0 rfl
    have cr1 : World.cell? w1 ⟨w.heap.size, 1, none⟩ = some (.slice none 0 0) := or.c 1 rfl
    have fr := or.fr
    have lr := or.lt
    obtain ⟨bb, ao, n, c, rfl⟩ := hv1.shape
    have HV := Hid.mk_ hv1
    clear hv1
    go_wp2
    refine bodyPost_ret (by simp [results, Try.results98, go_sem, cr0, cr1, fr, lr]; rfl) rfl ?_
    exact ⟨_, rfl, (HV.out.put2 or).steps ((Below.refl _ _).alloc (Nat.le_refl _) _), (show Below _ _ _ from (by (repeat' first | with_reducible assumption | with_reducible exact Below.refl _ _ | with_reducible refine Below.alloc ?_ ?_ _ | with_reducible refine Below.drew ?_ | with_reducible refine belowN ?_ _ | with_reducible refine Below.setCell ?_ ?_ _ | go_size)))⟩
  · have hd : decide (z < 0) = false := by simp; omega
    have HZ : Hid (zv false (lval [z % 4294967296, z / 4294967296]) = z) := by show zv _ _ = z; simp only [zv, lval, if_true, Bool.false_eq_true, if_false]; omega
    have HE := Hid.mk_ (And.intro (errN_fits hz) (clipN_fits hz))
    clear hz
    have cm : Calls Try.prog 99 #[.bool false, .slice (some ⟨w.heap.size + 1, 0, none⟩) 2 2] ((w.alloc (.cells #[.bool false, .slice none 0 0] 51)).alloc (.cells #[.int .u32 (z % 4294967296), .int .u32 (z / 4294967296)] 117)) (fun e w' => ∃ v, e = .returned (.tuple #[v, .int .i64 0]) ∧ Num w' v z ∧ Steps ((w.alloc (.cells #[.bool false, .slice none 0 0] 51)).alloc (.cells #[.int .u32 (z % 4294967296), .int .u32 (z / 4294967296)] 117)) w') := by
      have L : Lim ((w.alloc (.cells #[.bool false, .slice none 0 0] 51)).alloc (.cells #[.int .u32 (z % 4294967296), .int .u32 (z / 4294967296)] 117)) (.slice (some ⟨w.heap.size + 1, 0, none⟩) 2 2) [z % 4294967296, z / 4294967296] := Lim.of_blk' (l := [z % 4294967296, z / 4294967296]) (Blk.new1 w _ _ _) (by simp only [lok_cons]; refine ⟨⟨by omega, by omega⟩, ⟨by omega, by omega⟩, lok_nil⟩)
      have C := rmadeN false _ L (by unfold few; simp)
      rw [HZ.out, HE.out.1, HE.out.2] at C
      exact C
    go_enter Try.func98, Try.ntmps98
    go_wp2_with fail
    refine (cm).mono ?_
    rintro e w1 ⟨v1, rfl, hv1, hb1⟩
    have st : Steps _ w1 := hb1
    have Bn : Below w.heap.size w w1 := below_steps (by (repeat' first | with_reducible assumption | with_reducible exact Below.refl _ _ | with_reducible refine Below.alloc ?_ ?_ _ | with_reducible refine Below.drew ?_ | with_reducible refine belowN ?_ _ | with_reducible refine Below.setCell ?_ ?_ _ | go_size)) (Nat.le_refl _) st
    have nr : Blk w1 (w.heap.size) 51 #[.bool false, .slice none 0 0] := Blk.steps (by (repeat' first | with_reducible assumption | (with_reducible refine Blk.new' ?_; first | with_reducible rfl | (simp only [World.size_alloc, World.size_setCell, World.size_drew]; done)) | with_reducible refine Blk.alloc ?_ _ | with_reducible refine Blk.drew ?_ | with_reducible refine Blk.drewN ?_ _ | with_reducible apply Blk.both | with_reducible refine Blk.far' ?_ ?_ | (show _ ≠ _; omega))) st
    clear st
    have B := Bn
    clear Bn
    have or := nr
    clear nr
    have cr0 : World.cell? w1 ⟨w.heap.size, 0, none⟩ = some (.bool false) := or.c 0 rfl
    have cr1 : World.cell? w1 ⟨w.heap.size, 1, none⟩ = some (.slice none 0 0) := or.c 1 rfl
    have fr := or.fr
    have lr := or.lt
    obtain ⟨bb, ao, n, c, rfl⟩ := hv1.shape
    have HV := Hid.mk_ hv1
    clear hv1
    go_wp2
    refine bodyPost_ret (by simp [results, Try.results98, go_sem, cr0, cr1, fr, lr]; rfl) rfl ?_
    exact ⟨_, rfl, (HV.out.put2 or).steps ((Below.refl _ _).alloc (Nat.le_refl _) _), (show Below _ _ _ from (by (repeat' first | with_reducible assumption | with_reducible exact Below.refl _ _ | with_reducible refine Below.alloc ?_ ?_ _ | with_reducible refine Below.drew ?_ | with_reducible refine belowN ?_ _ | with_reducible refine Below.setCell ?_ ?_ _ | go_size)))⟩
end Go.Proofs.Ytalnlnpnacfdfaa
